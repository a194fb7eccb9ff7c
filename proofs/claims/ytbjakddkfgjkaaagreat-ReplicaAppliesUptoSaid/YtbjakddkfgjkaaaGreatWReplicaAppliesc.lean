/-
  The functions that the law ReplicaApplies reaches, walked: each returns what its model says.
  Conditions: those that each theorem states.
-/
import Derived.Test.YtbjakddkfgjkaaaGreatWReplicaAppliesb
set_option linter.unusedVariables false
set_option linter.unusedSimpArgs false
set_option maxRecDepth 100000
set_option maxHeartbeats 2000000
namespace Go.Proofs.YtbjakddkfgjkaaaGreat.W
open Go.Proofs.YtbjakddkfgjkaaaGreat.Fw Go.RowKit
attribute [local irreducible] JM nx

theorem ref_KeptOf {B : Nat → Prop} (s : Sl CSession) (n t q : Int) (r : DReply) (w : World) (hs : s.rd B w) (ht : inR t) (hq : inR q) (hr : r.text.size ≤ 9223372036854775807) : Calls Tryz.prog 42 #[.slice s.A s.n s.c, .int .i64 n, .int .i64 t, .int .i64 q, .agg #[.int .i64 r.code, .int .i64 r.n, .string r.text]] w fun e w' => ∃ y : Sl CSession, e = .returned (.tuple #[.slice y.A y.n y.c, .int .i64 (mKeep (s.xs.map CSession.abs) n t q r).2]) ∧ y.xs.map CSession.abs = (mKeep (s.xs.map CSession.abs) n t q r).1 ∧ FreshS w w' y := by
 have oks := Sl.rd.ok hs
 have ncs := Sl.ok.nc oks
 have hns : s.n = s.xs.length := rfl
 have hml : (s.xs.map CSession.abs).length = s.n := by simp
 refine M0 Tryz.func42 (J := ?_)
 refine Mp Tryz.call92 (fun bs w hS => ref_SessionsFault s n w (Sl.rd.kp hs hS.kp)) (J := ?_)
 refine Mdn (mSess (s.xs.map CSession.abs) n = 0) (T := fun h1 => ?_) (F := fun h1 => ?_)
 rotate_left
 · refine Mt [.slice none 0 0, .int .i64 (mSess (s.xs.map CSession.abs) n)] fun bs w hS => ?_
   have hm : mKeep (s.xs.map CSession.abs) n t q r = ([], mSess (s.xs.map CSession.abs) n) := by
     unfold mKeep sIdx
     repeat (first | rw [if_pos (by first | assumption | omega)] | rw [if_neg (by first | assumption | omega | (intro h0; first | exact absurd h0 (by assumption) | (simp_all; done)))])
     all_goals rfl
   refine ⟨Sl.nil, ?_, ?_, hS.outS (Sl.rd_nil _ _)⟩
   · rw [hm] <;> rfl
   · rw [hm] <;> rfl
 obtain ⟨hi0, hi1, hln, hall⟩ := mSess_bd h1
 have hln2 : s.xs.length ≤ 4 := by simpa using hln
 refine Mf (σ := Sl CSession) (v := fun y1 => .slice y1.A y1.n y1.c) (F := fun y1 => y1.xs.map CSession.abs = s.xs.map CSession.abs) (r := fun y1 => sessR 118 141 y1) Tryz.call19 (fun bs w hS => ref_SessionsCopy s w (Sl.rd.kp hs hS.kp) (small_sess (by assumption))) (J := ?_)
 rintro y1 hF1
 refine m_split2 ?_
 obtain ⟨A1, c1, S1⟩ := y1
 have hF1 : S1.map CSession.abs = s.xs.map CSession.abs := hF1
 refine m_perm (R' := [ownL (keptR 141) S1, rowA 118 A1 c1 (S1 : List CSession)]) (List.Perm.refl _) ?_
 have hnm1 := sess_texts (y := (⟨A1, c1, S1⟩ : Sl CSession)) (hs) hF1
 have hlen1 : S1.length = s.xs.length := by simpa using congrArg List.length hF1
 refine m_know (F := ∀ i, i < S1.length → Rds.ok (S1.getD i default)) (fun bs w hS i hi => Rds.okof (B := anyB) (w := w) (own_elt (hS.res _ (.head _)) hnm1 (mem_of_getD hi))) fun okown1 => ?_
 refine m_know (F := RowOk A1 c1 (S1 : List CSession)) (fun bs w hS => rowA_rok (hS.res _ (.tail _ (.head _)))) fun hrow1 => ?_
 have nchrow1 := hrow1.2
 have hml1 : (S1.map CSession.abs).length = S1.length := by simp
 have hm1 : mSess (S1.map CSession.abs) n = 0 := by rw [hF1]; assumption
 refine Mp (v := .int .i64 (mIdx (fun x : CSession => decide (x.client = t)) S1)) Tryz.call98 (fun bs w hS => tackroomref_sessionAt (⟨A1, c1, S1⟩ : Sl CSession) t w (own_sess (hS.res _ (.head _)) (hS.res _ (.tail _ (.head _))) hnm1)) (J := ?_)
 have hJe : mIdx (fun x : CSession => decide (x.client = t)) S1 = mIdx (fun x : DSession => decide (x.client = t)) (S1.map CSession.abs) := mIdx_map CSession.abs (fun x : DSession => decide (x.client = t)) S1
 rw [hJe]
 have hJb := mIdx_bd (fun x : DSession => decide (x.client = t)) (S1.map CSession.abs)
 generalize hJ : mIdx (fun x : DSession => decide (x.client = t)) (S1.map CSession.abs) = J at hJb ⊢
 rw [List.length_map] at hJb
 refine Md (J < 0) (T := fun h2 => ?_) (F := fun h2 => ?_)
 · have h0J : ¬ 0 ≤ J := by omega
   refine Mt [.slice none 0 0, .int .i64 11] fun bs w hS => ?_
   rw [← hF1]
   have hm : mKeep (S1.map CSession.abs) n t q r = ([], 11) := by
     unfold mKeep sIdx
     simp only [hJ, sgetD, List.length_map]
     repeat (first | rw [if_pos (by first | assumption | omega)] | rw [if_neg (by first | assumption | omega | (intro h0; first | exact absurd h0 (by assumption) | (simp_all; done)))])
     all_goals rfl
   refine ⟨Sl.nil, ?_, ?_, hS.outS (Sl.rd_nil _ _)⟩
   · rw [hm] <;> rfl
   · rw [hm] <;> rfl
 have h0J : 0 ≤ J := by omega
 have hk5 := sess_all hm1 (k := J.toNat) (by omega)
 have hk6 : (S1.getD J.toNat default).replies.xs.length ≤ 4 := mReplies_len hk5.2.2.2.2
 have hk7 : (S1.getD J.toNat default).replies.n = (S1.getD J.toNat default).replies.xs.length := rfl
 refine m_rowA (α := DKept) 141 ?_
 refine Ml (σ := Nat × Bool × Option Addr × Nat × List DKept) (fun ⟨k, b, A, c, L⟩ => InsI (fun k : DKept => decide (q < k.seq)) (⟨q, r⟩ : DKept) (S1.getD J.toNat default).replies.xs k b L ∧ ∀ j, j < k → ¬ ((S1.getD J.toNat default).replies.xs.getD j default).seq = q) (fun ⟨k, b, A, c, L⟩ => (S1.getD J.toNat default).replies.xs.length - k) (fun ⟨k, b, A, c, L⟩ => [rowA 141 A c (L : List DKept), ownL (keptR 141) S1, rowA 118 A1 c1 (S1 : List CSession)]) [17, 16, 15, 14, 13, 9, 3] (fun ⟨k, b, A, c, L⟩ => [(17, vI (k : Int)), (16, vB b), (15, .v (.slice A L.length c))]) (fun _ => []) (⟨0, false, none, 0, []⟩) ⟨(show InsI (fun k : DKept => decide (q < k.seq)) (⟨q, r⟩ : DKept) (S1.getD J.toNat default).replies.xs 0 false [] from InsI.start _ _ _), fun j hj => absurd hj (Nat.not_lt_zero _)⟩ (B := ?_)
 rintro ⟨k, b, A, c, L⟩ ⟨hI, hX⟩ _ on1
 have hIl := hI.len
 have hIk := hI.le
 refine Mi (pc (pIo 35 J J.toNat S1.length (.tail _ (.tail _ (.head _)))) (pFo 37 J.toNat 4 1 (.tail _ (.tail _ (.head _))))) (J := ?_)
 refine Md ((k : Int) < (((S1.getD J.toNat default).replies.n : Nat) : Int)) (T := fun h3 => ?_) (F := fun h3 => ?_)
 · refine Mi (pc (pIo 44 J J.toNat S1.length (.tail _ (.tail _ (.head _)))) (pc (pFo 46 J.toNat 4 1 (.tail _ (.tail _ (.head _)))) (pA 48 49 (k : Int) k (s := (S1.getD J.toNat default).replies) (fun w hk hr => (own_elt (hr _ (.tail _ (.head _))) hnm1 (mem_of_getD (i := J.toNat) (by omega))))))) (J := ?_)
   refine Md (((S1.getD J.toNat default).replies.at k).seq = q) (T := fun h4 => ?_) (F := fun h4 => ?_)
   · refine Mt [.slice none 0 0, .int .i64 7] fun bs w hS => ?_
     clear on1
     rw [← hF1]
     have hx7 : 0 ≤ kIdx (S1.getD J.toNat default).replies.xs q := by have h9 := mIdx_nonneg (fun k : DKept => decide (k.seq = q)) (S1.getD J.toNat default).replies.xs; rw [List.any_eq_true.2 ⟨_, mem_of_getD (L := (S1.getD J.toNat default).replies.xs) (i := k) (by have h8 : (S1.getD J.toNat default).replies.n = (S1.getD J.toNat default).replies.xs.length := rfl; omega), decide_eq_true (by assumption)⟩] at h9; exact of_decide_eq_true h9
     have hm : mKeep (S1.map CSession.abs) n t q r = ([], 7) := by
       unfold mKeep sIdx
       simp only [hJ, sgetD, List.length_map]
       repeat (first | rw [if_pos (by first | assumption | omega)] | rw [if_neg (by first | assumption | omega | (intro h0; first | exact absurd h0 (by assumption) | (simp_all; done)))])
       all_goals rfl
     refine ⟨Sl.nil, ?_, ?_, hS.outS (Sl.rd_nil _ _)⟩
     · rw [hm] <;> rfl
     · rw [hm] <;> rfl
   refine Mbn (b) [(16, false)] (T := fun h5 => ?_) (F := fun h5 => ?_)
   · refine M1 (J := ?_)
     refine Mal (α := DKept) 40 ([(⟨((S1.getD J.toNat default).replies.at k).seq, ⟨((S1.getD J.toNat default).replies.at k).reply.code, ((S1.getD J.toNat default).replies.at k).reply.n, ((S1.getD J.toNat default).replies.at k).reply.text⟩⟩ : DKept)]) (h63 := (by first | omega | (simp only [List.length_append, List.length_nil, List.length_cons]; omega))) (hb := (by first | omega | (simp only [List.length_append, List.length_nil, List.length_cons]; omega))) (J := ?_)
     intro A3 c3
     refine Mi (pR ((k : Int) + 1)) (J := ?_)
     exact on1 (⟨k + 1, true, A3, c3, L ++ [(⟨((S1.getD J.toNat default).replies.at k).seq, ⟨((S1.getD J.toNat default).replies.at k).reply.code, ((S1.getD J.toNat default).replies.at k).reply.n, ((S1.getD J.toNat default).replies.at k).reply.text⟩⟩ : DKept)]⟩ : Nat × Bool × Option Addr × Nat × List DKept) ⟨(by first | exact hI.more (by assumption) (by omega) | exact hI.hit (by assumption) (by omega) (decide_eq_true (by assumption)) | exact hI.skip (by assumption) (by omega) (decide_eq_false (by assumption))), fun j hj => by rcases Nat.lt_succ_iff_lt_or_eq.1 hj with h | h; exact hX j h; subst h; assumption⟩ (by show (S1.getD J.toNat default).replies.xs.length - (k + 1) < (S1.getD J.toNat default).replies.xs.length - k; omega)
   refine Md (q < ((S1.getD J.toNat default).replies.at k).seq) (T := fun h6 => ?_) (F := fun h6 => ?_)
   rotate_left
   · refine M1 (J := ?_)
     refine Mal (α := DKept) 40 ([(⟨((S1.getD J.toNat default).replies.at k).seq, ⟨((S1.getD J.toNat default).replies.at k).reply.code, ((S1.getD J.toNat default).replies.at k).reply.n, ((S1.getD J.toNat default).replies.at k).reply.text⟩⟩ : DKept)]) (h63 := (by first | omega | (simp only [List.length_append, List.length_nil, List.length_cons]; omega))) (hb := (by first | omega | (simp only [List.length_append, List.length_nil, List.length_cons]; omega))) (J := ?_)
     intro A6 c6
     refine Mi (pR ((k : Int) + 1)) (J := ?_)
     exact on1 (⟨k + 1, false, A6, c6, L ++ [(⟨((S1.getD J.toNat default).replies.at k).seq, ⟨((S1.getD J.toNat default).replies.at k).reply.code, ((S1.getD J.toNat default).replies.at k).reply.n, ((S1.getD J.toNat default).replies.at k).reply.text⟩⟩ : DKept)]⟩ : Nat × Bool × Option Addr × Nat × List DKept) ⟨(by first | exact hI.more (by assumption) (by omega) | exact hI.hit (by assumption) (by omega) (decide_eq_true (by assumption)) | exact hI.skip (by assumption) (by omega) (decide_eq_false (by assumption))), fun j hj => by rcases Nat.lt_succ_iff_lt_or_eq.1 hj with h | h; exact hX j h; subst h; assumption⟩ (by show (S1.getD J.toNat default).replies.xs.length - (k + 1) < (S1.getD J.toNat default).replies.xs.length - k; omega)
   refine M1 (J := ?_)
   refine Mal (α := DKept) 40 ([(⟨q, ⟨r.code, r.n, r.text⟩⟩ : DKept)]) (h63 := (by first | omega | (simp only [List.length_append, List.length_nil, List.length_cons]; omega))) (hb := (by first | omega | (simp only [List.length_append, List.length_nil, List.length_cons]; omega))) (J := ?_)
   intro A4 c4
   refine M1 (J := ?_)
   refine Mal (α := DKept) 40 ([(⟨((S1.getD J.toNat default).replies.at k).seq, ⟨((S1.getD J.toNat default).replies.at k).reply.code, ((S1.getD J.toNat default).replies.at k).reply.n, ((S1.getD J.toNat default).replies.at k).reply.text⟩⟩ : DKept)]) (h63 := (by first | omega | (simp only [List.length_append, List.length_nil, List.length_cons]; omega))) (hb := (by first | omega | (simp only [List.length_append, List.length_nil, List.length_cons]; omega))) (J := ?_)
   intro A5 c5
   refine Mi (pR ((k : Int) + 1)) (J := ?_)
   exact on1 (⟨k + 1, true, A5, c5, L ++ [(⟨q, ⟨r.code, r.n, r.text⟩⟩ : DKept)] ++ [(⟨((S1.getD J.toNat default).replies.at k).seq, ⟨((S1.getD J.toNat default).replies.at k).reply.code, ((S1.getD J.toNat default).replies.at k).reply.n, ((S1.getD J.toNat default).replies.at k).reply.text⟩⟩ : DKept)]⟩ : Nat × Bool × Option Addr × Nat × List DKept) ⟨(by first | exact hI.more (by assumption) (by omega) | exact hI.hit (by assumption) (by omega) (decide_eq_true (by assumption)) | exact hI.skip (by assumption) (by omega) (decide_eq_false (by assumption))), fun j hj => by rcases Nat.lt_succ_iff_lt_or_eq.1 hj with h | h; exact hX j h; subst h; assumption⟩ (by show (S1.getD J.toNat default).replies.xs.length - (k + 1) < (S1.getD J.toNat default).replies.xs.length - k; omega)
 refine Mbn (b) (T := fun h7 => ?_) (F := fun h7 => ?_)
 · refine Mi (pIo 83 J J.toNat S1.length (.tail _ (.tail _ (.head _)))) (J := ?_)
   refine m_f2 ?_
   refine Ms J.toNat 4 (⟨(S1.getD J.toNat default).client, (S1.getD J.toNat default).id, (S1.getD J.toNat default).acked, (S1.getD J.toNat default).last, ⟨A, c, L⟩⟩ : CSession) (by omega) (J := ?_)
   intro L7 hL7 hlL7
   have hgL7 : L7.getD J.toNat default = (⟨(S1.getD J.toNat default).client, (S1.getD J.toNat default).id, (S1.getD J.toNat default).acked, (S1.getD J.toNat default).last, ⟨A, c, L⟩⟩ : CSession) := by rw [hL7]; exact getD_set (by omega)
   have hbL7 : L7 = List.set S1 J.toNat (⟨(S1.getD J.toNat default).client, (S1.getD J.toNat default).id, (S1.getD J.toNat default).acked, (S1.getD J.toNat default).last, ⟨A, c, L⟩⟩ : CSession) := by rw [hL7]
   refine Mi (pc (pIo 87 J J.toNat S1.length (.head _)) (pEk 88 J.toNat hgL7 (.head _))) (J := ?_)
   have hvk : L = mIns (fun k : DKept => decide (q < k.seq)) ⟨q, r⟩ (S1.getD J.toNat default).replies.xs := (hI.fin1 (by assumption) (by omega))
   have hszk : ∀ z, z ∈ L → z.reply.text.size ≤ 9223372036854775807 := fun z hz => by rcases ins_mem (hvk ▸ hz) with hz | hz; subst hz; exact hr; exact hnm1 _ (mem_of_getD (L := S1) (i := J.toNat) (by omega)) z hz
   refine Mp (v := .bool (mReplies (⟨(S1.getD J.toNat default).client, (S1.getD J.toNat default).id, (S1.getD J.toNat default).acked, (S1.getD J.toNat default).last, L⟩ : DSession))) Tryz.call108 (fun bs w hS => ref_repliesMay (⟨(S1.getD J.toNat default).client, (S1.getD J.toNat default).id, (S1.getD J.toNat default).acked, (S1.getD J.toNat default).last, ⟨A, c, L⟩⟩ : CSession) w (Rr (B := anyB) (hS.res _ (.tail _ (.head _))) (fun _ _ => trivial) hszk) ⟨hk5.2.2.1, hk5.2.2.2.1⟩) (J := ?_)
   have hmr : mReplies (⟨(S1.getD J.toNat default).client, (S1.getD J.toNat default).id, (S1.getD J.toNat default).acked, (S1.getD J.toNat default).last, L⟩ : DSession) = mReplies (kIns (S1.getD J.toNat default).abs q r) := by rw [hvk]; rfl
   rw [hmr]
   refine Mbn (mReplies (kIns (S1.getD J.toNat default).abs q r)) (T := fun h8 => ?_) (F := fun h8 => ?_)
   rotate_left
   · refine Mt [.slice none 0 0, .int .i64 2] fun bs w hS => ?_
     clear on1
     rw [← hF1]
     have hkn : ¬ 0 ≤ kIdx (S1.getD J.toNat default).replies.xs q := by unfold kIdx; rw [mIdxL_none (L := (S1.getD J.toNat default).replies.xs) (p := fun k : DKept => decide (k.seq = q)) fun j hj => decide_eq_false (hX j (by omega))]; omega
     have hm : mKeep (S1.map CSession.abs) n t q r = ([], 2) := by
       unfold mKeep sIdx
       simp only [hJ, sgetD, List.length_map]
       repeat (first | rw [if_pos (by first | assumption | omega)] | rw [if_neg (by first | assumption | omega | (intro h0; first | exact absurd h0 (by assumption) | (simp_all; done)))])
       all_goals rfl
     refine ⟨Sl.nil, ?_, ?_, hS.outS (Sl.rd_nil _ _)⟩
     · rw [hm] <;> rfl
     · rw [hm] <;> rfl
   refine Mt [.slice A1 S1.length c1, .int .i64 0] fun bs w hS => ?_
   clear on1
   rw [← hF1]
   have hkn : ¬ 0 ≤ kIdx (S1.getD J.toNat default).replies.xs q := by unfold kIdx; rw [mIdxL_none (L := (S1.getD J.toNat default).replies.xs) (p := fun k : DKept => decide (k.seq = q)) fun j hj => decide_eq_false (hX j (by omega))]; omega
   have hvx := setS_map hbL7
   have hxe : ((⟨(S1.getD J.toNat default).client, (S1.getD J.toNat default).id, (S1.getD J.toNat default).acked, (S1.getD J.toNat default).last, ⟨A, c, L⟩⟩ : CSession)).abs = kIns (S1.getD J.toNat default).abs q r := by exact congrArg (fun l => (⟨(S1.getD J.toNat default).client, (S1.getD J.toNat default).id, (S1.getD J.toNat default).acked, (S1.getD J.toNat default).last, l⟩ : DSession)) hvk
   rw [hxe] at hvx
   have hm : mKeep (S1.map CSession.abs) n t q r = ((S1.map CSession.abs).set J.toNat (kIns (S1.getD J.toNat default).abs q r), 0) := by
     unfold mKeep sIdx
     simp only [hJ, sgetD, List.length_map]
     repeat (first | rw [if_pos (by first | assumption | omega)] | rw [if_neg (by first | assumption | omega | (intro h0; first | exact absurd h0 (by assumption) | (simp_all; done)))])
     all_goals rfl
   refine ⟨⟨A1, c1, L7⟩, ?_, ?_, hS.outS (y := (⟨A1, c1, L7⟩ : Sl CSession)) (out_sessG (.head _) hS.res (fun x hx => ?_))⟩
   · have hll : S1.length = L7.length := by rw [hbL7, List.length_set]
     rw [hm]
     exact congrArg (fun q => Ending.returned (.tuple #[.slice A1 q c1, .int .i64 0])) hll
   · exact Eq.trans hvx (congrArg Prod.fst hm).symm
   · rw [hbL7] at hx
     rcases mem_set hx with hx | hx
     · subst hx; exact allR_row (.tail _ (.head _)) (hS.res _ (.tail _ (.head _))) hszk
     · exact own_in (.tail _ (.tail _ (.head _))) hS.res hnm1 hx
 refine M1 (J := ?_)
 refine Mal (α := DKept) 40 ([(⟨q, ⟨r.code, r.n, r.text⟩⟩ : DKept)]) (h63 := (by first | omega | (simp only [List.length_append, List.length_nil, List.length_cons]; omega))) (hb := (by first | omega | (simp only [List.length_append, List.length_nil, List.length_cons]; omega))) (J := ?_)
 intro A8 c8
 refine Mi (pIo 83 J J.toNat S1.length (.tail _ (.tail _ (.head _)))) (J := ?_)
 refine m_f2 ?_
 refine Ms J.toNat 4 (⟨(S1.getD J.toNat default).client, (S1.getD J.toNat default).id, (S1.getD J.toNat default).acked, (S1.getD J.toNat default).last, ⟨A8, c8, L ++ [(⟨q, ⟨r.code, r.n, r.text⟩⟩ : DKept)]⟩⟩ : CSession) (by omega) (J := ?_)
 intro L9 hL9 hlL9
 have hgL9 : L9.getD J.toNat default = (⟨(S1.getD J.toNat default).client, (S1.getD J.toNat default).id, (S1.getD J.toNat default).acked, (S1.getD J.toNat default).last, ⟨A8, c8, L ++ [(⟨q, ⟨r.code, r.n, r.text⟩⟩ : DKept)]⟩⟩ : CSession) := by rw [hL9]; exact getD_set (by omega)
 have hbL9 : L9 = List.set S1 J.toNat (⟨(S1.getD J.toNat default).client, (S1.getD J.toNat default).id, (S1.getD J.toNat default).acked, (S1.getD J.toNat default).last, ⟨A8, c8, L ++ [(⟨q, ⟨r.code, r.n, r.text⟩⟩ : DKept)]⟩⟩ : CSession) := by rw [hL9]
 refine Mi (pc (pIo 87 J J.toNat S1.length (.head _)) (pEk 88 J.toNat hgL9 (.head _))) (J := ?_)
 have hvk : L ++ [(⟨q, ⟨r.code, r.n, r.text⟩⟩ : DKept)] = mIns (fun k : DKept => decide (q < k.seq)) ⟨q, r⟩ (S1.getD J.toNat default).replies.xs := (hI.fin0 (by assumption) (by omega))
 have hszk : ∀ z, z ∈ L ++ [(⟨q, ⟨r.code, r.n, r.text⟩⟩ : DKept)] → z.reply.text.size ≤ 9223372036854775807 := fun z hz => by rcases ins_mem (hvk ▸ hz) with hz | hz; subst hz; exact hr; exact hnm1 _ (mem_of_getD (L := S1) (i := J.toNat) (by omega)) z hz
 refine Mp (v := .bool (mReplies (⟨(S1.getD J.toNat default).client, (S1.getD J.toNat default).id, (S1.getD J.toNat default).acked, (S1.getD J.toNat default).last, L ++ [(⟨q, ⟨r.code, r.n, r.text⟩⟩ : DKept)]⟩ : DSession))) Tryz.call108 (fun bs w hS => ref_repliesMay (⟨(S1.getD J.toNat default).client, (S1.getD J.toNat default).id, (S1.getD J.toNat default).acked, (S1.getD J.toNat default).last, ⟨A8, c8, L ++ [(⟨q, ⟨r.code, r.n, r.text⟩⟩ : DKept)]⟩⟩ : CSession) w (Rr (B := anyB) (hS.res _ (.tail _ (.head _))) (fun _ _ => trivial) hszk) ⟨hk5.2.2.1, hk5.2.2.2.1⟩) (J := ?_)
 have hmr : mReplies (⟨(S1.getD J.toNat default).client, (S1.getD J.toNat default).id, (S1.getD J.toNat default).acked, (S1.getD J.toNat default).last, L ++ [(⟨q, ⟨r.code, r.n, r.text⟩⟩ : DKept)]⟩ : DSession) = mReplies (kIns (S1.getD J.toNat default).abs q r) := by rw [hvk]; rfl
 rw [hmr]
 refine Mbn (mReplies (kIns (S1.getD J.toNat default).abs q r)) (T := fun h9 => ?_) (F := fun h9 => ?_)
 rotate_left
 · refine Mt [.slice none 0 0, .int .i64 2] fun bs w hS => ?_
   clear on1
   rw [← hF1]
   have hkn : ¬ 0 ≤ kIdx (S1.getD J.toNat default).replies.xs q := by unfold kIdx; rw [mIdxL_none (L := (S1.getD J.toNat default).replies.xs) (p := fun k : DKept => decide (k.seq = q)) fun j hj => decide_eq_false (hX j (by omega))]; omega
   have hm : mKeep (S1.map CSession.abs) n t q r = ([], 2) := by
     unfold mKeep sIdx
     simp only [hJ, sgetD, List.length_map]
     repeat (first | rw [if_pos (by first | assumption | omega)] | rw [if_neg (by first | assumption | omega | (intro h0; first | exact absurd h0 (by assumption) | (simp_all; done)))])
     all_goals rfl
   refine ⟨Sl.nil, ?_, ?_, hS.outS (Sl.rd_nil _ _)⟩
   · rw [hm] <;> rfl
   · rw [hm] <;> rfl
 refine Mt [.slice A1 S1.length c1, .int .i64 0] fun bs w hS => ?_
 clear on1
 rw [← hF1]
 have hkn : ¬ 0 ≤ kIdx (S1.getD J.toNat default).replies.xs q := by unfold kIdx; rw [mIdxL_none (L := (S1.getD J.toNat default).replies.xs) (p := fun k : DKept => decide (k.seq = q)) fun j hj => decide_eq_false (hX j (by omega))]; omega
 have hvx := setS_map hbL9
 have hxe : ((⟨(S1.getD J.toNat default).client, (S1.getD J.toNat default).id, (S1.getD J.toNat default).acked, (S1.getD J.toNat default).last, ⟨A8, c8, L ++ [(⟨q, ⟨r.code, r.n, r.text⟩⟩ : DKept)]⟩⟩ : CSession)).abs = kIns (S1.getD J.toNat default).abs q r := by exact congrArg (fun l => (⟨(S1.getD J.toNat default).client, (S1.getD J.toNat default).id, (S1.getD J.toNat default).acked, (S1.getD J.toNat default).last, l⟩ : DSession)) hvk
 rw [hxe] at hvx
 have hm : mKeep (S1.map CSession.abs) n t q r = ((S1.map CSession.abs).set J.toNat (kIns (S1.getD J.toNat default).abs q r), 0) := by
   unfold mKeep sIdx
   simp only [hJ, sgetD, List.length_map]
   repeat (first | rw [if_pos (by first | assumption | omega)] | rw [if_neg (by first | assumption | omega | (intro h0; first | exact absurd h0 (by assumption) | (simp_all; done)))])
   all_goals rfl
 refine ⟨⟨A1, c1, L9⟩, ?_, ?_, hS.outS (y := (⟨A1, c1, L9⟩ : Sl CSession)) (out_sessG (.head _) hS.res (fun x hx => ?_))⟩
 · have hll : S1.length = L9.length := by rw [hbL9, List.length_set]
   rw [hm]
   exact congrArg (fun q => Ending.returned (.tuple #[.slice A1 q c1, .int .i64 0])) hll
 · exact Eq.trans hvx (congrArg Prod.fst hm).symm
 · rw [hbL9] at hx
   rcases mem_set hx with hx | hx
   · subst hx; exact allR_row (.tail _ (.head _)) (hS.res _ (.tail _ (.head _))) hszk
   · exact own_in (.tail _ (.tail _ (.head _))) hS.res hnm1 hx

theorem lock_begin_1 (x : CLock) (t : ByteArray) (w : World) : Calls Tryz.prog 190 #[.agg #[.string x.name, .int .i64 x.holder, .int .i64 x.fence, .slice x.line.A x.line.n x.line.c], .string t] w fun e w' => e = .returned (.int .i64 (cmpS x.name t)) ∧ Kp [] w w' := by
 refine M0 Tryz.func190 (J := ?_)
 refine Mp Tryz.call147 (fun bs w hS => strings_Compare x.name t w) (J := ?_)
 exact Mt [.int .i64 (cmpS x.name t)] fun bs w hS => ⟨rfl, hS.kp⟩

theorem bs_lock_begin_1 {B : Nat → Prop} (s : Sl CLock) (t : ByteArray) (w : World) (hs : s.rd B w) (hn : s.n ≤ 1048576) : Calls Tryz.prog 145 #[.slice s.A s.n s.c, .string t, .func (.func 190) #[] #[]] w fun e w' => e = .returned (.tuple #[.int .i64 (mBS (fun x : CLock => cmpS x.name t) s.xs : Nat), .bool (mBSf (fun x : CLock => cmpS x.name t) s.xs)]) ∧ Kp [] w w' := by
 have oks := Sl.rd.ok hs
 have ncs := Sl.ok.nc oks
 have hns : s.n = s.xs.length := rfl
 refine Mj Tryz.func145 (WS.start w) (J := ?_)
 refine Ml (σ := Nat × Nat × Nat) (fun ⟨i, j, f⟩ => i ≤ j ∧ j ≤ s.n ∧ j - i ≤ f ∧ mBS (fun x : CLock => cmpS x.name t) s.xs = bsGo (fun j => decide (cmpS (s.at j).name t < 0)) f i j) (fun ⟨i, j, f⟩ => f) (fun _ => []) [10, 9, 8, 0, 1, 2] (fun ⟨i, j, f⟩ => [(10, vI (j : Int)), (9, vI (i : Int))]) (fun _ => []) (⟨0, s.n, s.n⟩) ⟨Nat.zero_le _, Nat.le_refl _, Nat.le_refl _, rfl⟩ (B := ?_)
 rintro ⟨i, j, f⟩ ⟨h1, h2, h3, hI⟩ _ on1
 have hdiv : ((i : Int) + (j : Int)) / 2 = (((i + j) / 2 : Nat) : Int) := by omega
 refine Md ((i : Int) < (j : Int)) (T := fun h1 => ?_) (F := fun h1 => ?_)
 rotate_left
 · refine Md ((i : Int) < (s.n : Int)) (T := fun h3 => ?_) (F := fun h3 => ?_)
   rotate_left
   · refine Mt [.int .i64 (i : Int), .bool false] fun bs w hS => ?_
     have hij : i = j := by omega
     subst hij
     have hr : mBS (fun x : CLock => cmpS x.name t) s.xs = i := by rw [hI]; exact bsGo_end _ _ _ _ (Nat.le_refl _)
     refine ⟨?_, hS.kp⟩
     have hr2 : mBSf (fun x : CLock => cmpS x.name t) s.xs = false := by
       unfold mBSf; rw [hr]
       rw [decide_eq_false (show ¬ i < s.xs.length by omega)]; rfl
     rw [hr, hr2]
     rfl
   refine Mi (pA 43 44 (i : Int) i (rdk hs)) (J := ?_)
   refine Mp Tryz.call190 (fun bs w hS => lock_begin_1 (s.at i) t w) (J := ?_)
   refine Mt [.int .i64 (i : Int), .bool (decide (cmpS (s.at i).name t = 0))] fun bs w hS => ?_
   have hij : i = j := by omega
   subst hij
   have hr : mBS (fun x : CLock => cmpS x.name t) s.xs = i := by rw [hI]; exact bsGo_end _ _ _ _ (Nat.le_refl _)
   refine ⟨?_, hS.kp⟩
   have hr2 : mBSf (fun x : CLock => cmpS x.name t) s.xs = (decide (cmpS (s.at i).name t = 0)) := by
     unfold mBSf; rw [hr]
     rw [decide_eq_true (show i < s.xs.length by omega)]; rfl
   rw [hr, hr2]
   rfl
 refine Mi (pc (pR ((i : Int) + (j : Int))) (pc (pG [(21, .val (.int .u64 ((i : Int) + (j : Int))))] (oc ((conv_i64_u64 Tryz.underlying3 Tryz.underlying203 (by omega) (by omega)) : ∀ w, (convert 3 203 (.int .i64 ((i : Int) + (j : Int))) : Sem Value).run Tryz.prog w = .ok (.int .u64 ((i : Int) + (j : Int))) w) on)) (pc (pG [(22, .val (.int .u64 (((i : Int) + (j : Int)) / 2)))] (oc (shr_u64 : ∀ w, (do eqGuard .shr 203 (.tmp 21) (.const (.int .u64 1)) (.int .u64 ((i : Int) + (j : Int))) (.int .u64 1); binOp .shr 203 (.int .u64 ((i : Int) + (j : Int))) (.int .u64 1) : Sem Value).run Tryz.prog w = .ok (.int .u64 (((i : Int) + (j : Int)) / 2)) w) on)) (pc (pG [(23, .val (.int .i64 (((i : Int) + (j : Int)) / 2)))] (oc ((conv_u64_i64 Tryz.underlying203 Tryz.underlying3 (by omega) (by omega)) : ∀ w, (convert 203 3 (.int .u64 (((i : Int) + (j : Int)) / 2)) : Sem Value).run Tryz.prog w = .ok (.int .i64 (((i : Int) + (j : Int)) / 2)) w) on)) (pA 27 28 (((i : Int) + (j : Int)) / 2) (((i : Int) + (j : Int)) / 2).toNat (rdk hs)))))) (J := ?_)
 refine Mp Tryz.call190 (fun bs w hS => lock_begin_1 (s.at (((i : Int) + (j : Int)) / 2).toNat) t w) (J := ?_)
 refine Md (cmpS (s.at (((i : Int) + (j : Int)) / 2).toNat).name t < 0) (T := fun h2 => ?_) (F := fun h2 => ?_)
 rotate_left
 · have hf1 : f = (f - 1) + 1 := by omega
   rw [hf1] at hI
   have hI2 := hI.trans (bsGo_down (by omega) (decide_eq_false (by assumption)))
   exact on1 (⟨i, (i + j) / 2, f - 1⟩ : Nat × Nat × Nat) ⟨by omega, by omega, by omega, hI2⟩ (by show f - 1 < f; omega)
 refine Mi (pR ((((i : Int) + (j : Int)) / 2) + 1)) (J := ?_)
 have hf1 : f = (f - 1) + 1 := by omega
 rw [hf1] at hI
 have hI2 := hI.trans (bsGo_up (by omega) (decide_eq_true (by assumption)))
 exact on1 (⟨(i + j) / 2 + 1, j, f - 1⟩ : Nat × Nat × Nat) ⟨by omega, by omega, by omega, hI2⟩ (by show f - 1 < f; omega)

theorem ref_asked {B : Nat → Prop} (s : Sl CLock) (t : ByteArray) (who : Int) (w : World) (hs : s.rd B w) (ht : t.size ≤ 9223372036854775807) : Calls Tryz.prog 101 #[.slice s.A s.n s.c, .string t, .int .i64 who] w fun e w' => e = .returned (.int .i64 (mAsk (s.xs.map CLock.abs) t who)) ∧ Kp [] w w' := by
 have oks := Sl.rd.ok hs
 have ncs := Sl.ok.nc oks
 have hns : s.n = s.xs.length := rfl
 refine M0 Tryz.func101 (J := ?_)
 refine Mp Tryz.call93 (fun bs w hS => ref_LocksFault s w (Sl.rd.kp hs hS.kp)) (J := ?_)
 refine Md (mLocks (s.xs.map CLock.abs) = 0) (T := fun h1 => ?_) (F := fun h1 => ?_)
 rotate_left
 · refine Md (mLocks (s.xs.map CLock.abs) = 0) (T := fun h5 => ?_) (F := fun h5 => ?_)
   · exact absurd h5 h1
   refine Mt [.int .i64 (mLocks (s.xs.map CLock.abs))] fun bs w hS => ?_
   refine ⟨?_, hS.kp⟩
   have hm : mAsk (s.xs.map CLock.abs) t who = mLocks (s.xs.map CLock.abs) := by
     unfold mAsk
     repeat (first | rw [if_pos (by first | assumption | omega)] | rw [if_neg (by first | assumption | omega | (simp_all; done))])
     try rfl
     try omega
   rw [hm] <;> rfl
 refine Mp (vs := fun bs => [.string t]) Tryz.call107 (fun bs w hS => ref_NameMay _ w (by first | assumption | omega | (simp only [emp_size]; omega))) (J := ?_)
 refine Mbn (mName t) (T := fun h2 => ?_) (F := fun h2 => ?_)
 rotate_left
 · refine Mq 19 false rfl (J := ?_)
   refine Mt [.int .i64 4] fun bs w hS => ?_
   refine ⟨?_, hS.kp⟩
   have hm : mAsk (s.xs.map CLock.abs) t who = 4 := by
     unfold mAsk
     repeat (first | rw [if_pos (by first | assumption | omega)] | rw [if_neg (by first | assumption | omega | (simp_all; done))])
     try rfl
     try omega
   rw [hm] <;> rfl
 refine Md (mLocks (s.xs.map CLock.abs) = 0) (T := fun h3 => ?_) (F := fun h3 => ?_)
 rotate_left
 · exact absurd h1 h3
 refine Mp Tryz.call51 (fun bs w hS => ref_In who 1 9 w) (J := ?_)
 refine Mbn (inB who 1 9) (T := fun h4 => ?_) (F := fun h4 => ?_)
 rotate_left
 · simp only [inB, Bool.and_eq_true, Bool.and_eq_false_iff, decide_eq_true_eq, decide_eq_false_iff_not] at h4
   refine Mt [.int .i64 2] fun bs w hS => ?_
   refine ⟨?_, hS.kp⟩
   have hm : mAsk (s.xs.map CLock.abs) t who = 2 := by
     unfold mAsk
     repeat (first | rw [if_pos (by first | assumption | omega)] | rw [if_neg (by first | assumption | omega | (simp_all; done))])
     try rfl
     try omega
   rw [hm] <;> rfl
 simp only [inB, Bool.and_eq_true, Bool.and_eq_false_iff, decide_eq_true_eq, decide_eq_false_iff_not] at h4
 refine Mt [.int .i64 (mLocks (s.xs.map CLock.abs))] fun bs w hS => ?_
 refine ⟨?_, hS.kp⟩
 have hm : mAsk (s.xs.map CLock.abs) t who = mLocks (s.xs.map CLock.abs) := by
   unfold mAsk
   repeat (first | rw [if_pos (by first | assumption | omega)] | rw [if_neg (by first | assumption | omega | (simp_all; done))])
   try rfl
   try omega
 rw [hm] <;> rfl

theorem lock_begin {B : Nat → Prop} (s : Sl CLock) (t : ByteArray) (who : Int) (w : World) (hs : s.rd B w) (ht : t.size ≤ 9223372036854775807) : Calls Tryz.prog 148 #[.slice s.A s.n s.c, .string t, .int .i64 who] w fun e w' => (¬ mAsk (s.xs.map CLock.abs) t who = 0 ∧ e = .returned (.tuple #[.slice none 0 0, .int .i64 0, .bool false, .int .i64 (mAsk (s.xs.map CLock.abs) t who)]) ∧ Kp [] w w') ∨ (mAsk (s.xs.map CLock.abs) t who = 0 ∧ ∃ y : Sl CLock, e = .returned (.tuple #[.slice y.A y.n y.c, .int .i64 ((mBS (fun x : CLock => cmpS x.name t) s.xs : Nat) : Int), .bool (mBSf (fun x : CLock => cmpS x.name t) s.xs), .int .i64 0]) ∧ y.xs.map CLock.abs = s.xs.map CLock.abs ∧ Kp [] w w' ∧ Fresh w w' (locksR 115 3 y)) := by
 have oks := Sl.rd.ok hs
 have ncs := Sl.ok.nc oks
 have hns : s.n = s.xs.length := rfl
 refine M0 Tryz.func148 (J := ?_)
 refine Mp Tryz.call64 (fun bs w hS => lock_Check s w (Sl.rd.kp hs hS.kp)) (J := ?_)
 refine Mdn (mLocks (s.xs.map CLock.abs) = 0) (T := fun h1 => ?_) (F := fun h1 => ?_)
 rotate_left
 · refine Mt [.slice none 0 0, .int .i64 0, .bool false, .int .i64 (mLocks (s.xs.map CLock.abs))] fun bs w hS => ?_
   have hm : mAsk (s.xs.map CLock.abs) t who = mLocks (s.xs.map CLock.abs) := by
     unfold mAsk
     repeat (first | rw [if_pos (by first | assumption | omega)] | rw [if_neg (by first | assumption | omega | (simp_all; done))])
     try rfl
     try omega
   refine .inl ⟨?_, ?_, hS.kp⟩
   · rw [hm]; first | assumption | omega
   · rw [hm] <;> rfl
 have hln := (mLocks_bd h1).1
 have hln2 : s.xs.length ≤ 5 := by simpa using hln
 refine Mp (vs := fun bs => [.string t]) Tryz.call129 (fun bs w hS => lock_Name _ w (by first | assumption | omega | (simp only [emp_size]; omega))) (J := ?_)
 refine Mbn (mName t) (T := fun h2 => ?_) (F := fun h2 => ?_)
 rotate_left
 · refine Mt [.slice none 0 0, .int .i64 0, .bool false, .int .i64 4] fun bs w hS => ?_
   have hm : mAsk (s.xs.map CLock.abs) t who = 4 := by
     unfold mAsk
     repeat (first | rw [if_pos (by first | assumption | omega)] | rw [if_neg (by first | assumption | omega | (simp_all; done))])
     try rfl
     try omega
   refine .inl ⟨?_, ?_, hS.kp⟩
   · rw [hm]; first | assumption | omega
   · rw [hm] <;> rfl
 refine Mp Tryz.call130 (fun bs w hS => lock_client who w) (J := ?_)
 refine Mbn (inB who 1 9) (T := fun h3 => ?_) (F := fun h3 => ?_)
 rotate_left
 · simp only [inB, Bool.and_eq_true, Bool.and_eq_false_iff, decide_eq_true_eq, decide_eq_false_iff_not] at h3
   refine Mt [.slice none 0 0, .int .i64 0, .bool false, .int .i64 2] fun bs w hS => ?_
   have hm : mAsk (s.xs.map CLock.abs) t who = 2 := by
     unfold mAsk
     repeat (first | rw [if_pos (by first | assumption | omega)] | rw [if_neg (by first | assumption | omega | (simp_all; done))])
     try rfl
     try omega
   refine .inl ⟨?_, ?_, hS.kp⟩
   · rw [hm]; first | assumption | omega
   · rw [hm] <;> rfl
 simp only [inB, Bool.and_eq_true, Bool.and_eq_false_iff, decide_eq_true_eq, decide_eq_false_iff_not] at h3
 refine Mp Tryz.call145 (fun bs w hS => bs_lock_begin_1 s t w (Sl.rd.kp hs hS.kp) (show s.xs.length ≤ 1048576 by omega)) (J := ?_)
 refine Mf (σ := Sl CLock) (v := fun y1 => .slice y1.A y1.n y1.c) (F := fun y1 => y1.xs.map CLock.abs = s.xs.map CLock.abs) (r := fun y1 => locksR 115 3 y1) Tryz.call68 (fun bs w hS => lock_Copy s w (Sl.rd.kp hs hS.kp) (small_locks (by assumption))) (J := ?_)
 rintro y1 hF1
 refine Mt [.slice y1.A y1.n y1.c, .int .i64 ((mBS (fun x : CLock => cmpS x.name t) s.xs : Nat) : Int), .bool (mBSf (fun x : CLock => cmpS x.name t) s.xs), .int .i64 0] fun bs w hS => ?_
 have hm : mAsk (s.xs.map CLock.abs) t who = 0 := by
   unfold mAsk
   repeat (first | rw [if_pos (by first | assumption | omega)] | rw [if_neg (by first | assumption | omega | (simp_all; done))])
   try rfl
   try omega
 exact .inr ⟨hm, y1, rfl, hF1, hS.kp, hS.out1⟩

theorem ref_withLock {B : Nat → Prop} (s : Sl CLock) (x : CLock) (w : World) (hs : s.rd B w) (hb : s.n ≤ 1048575) : Calls Tryz.prog 102 #[.slice s.A s.n s.c, .agg #[.string x.name, .int .i64 x.holder, .int .i64 x.fence, .slice x.line.A x.line.n x.line.c]] w fun e w' => ∃ y : Sl CLock, e = .returned y.val ∧ y.xs = mIns (fun z : CLock => Op.bytesLess x.name.toList z.name.toList) x s.xs ∧ Kp [] w w' ∧ Fresh w w' (rowA 115 y.A y.c y.xs) := by
 have oks := Sl.rd.ok hs
 have ncs := Sl.ok.nc oks
 have hns : s.n = s.xs.length := rfl
 refine M0 Tryz.func102 (J := ?_)
 refine m_rowA (α := CLock) 115 ?_
 refine Ml (σ := Nat × Bool × Option Addr × Nat × List CLock) (fun ⟨k, b, A, c, L⟩ => InsI (fun z : CLock => Op.bytesLess x.name.toList z.name.toList) x s.xs k b L) (fun ⟨k, b, A, c, L⟩ => s.xs.length - k) (fun ⟨k, b, A, c, L⟩ => [rowA 115 A c (L : List CLock)]) [7, 6, 5, 3, 0] (fun ⟨k, b, A, c, L⟩ => [(7, vI (k : Int)), (6, vB b), (5, .v (.slice A L.length c))]) (fun _ => []) (⟨0, false, none, 0, []⟩) (show InsI (fun z : CLock => Op.bytesLess x.name.toList z.name.toList) x s.xs 0 false [] from InsI.start _ _ _) (B := ?_)
 rintro ⟨k, b, A, c, L⟩ hI _ on1
 have hIl := hI.len
 have hIk := hI.le
 refine Md ((k : Int) < (s.n : Int)) (T := fun h1 => ?_) (F := fun h1 => ?_)
 rotate_left
 · refine Mbn (b) (T := fun h4 => ?_) (F := fun h4 => ?_)
   · exact Mt [.slice A L.length c] fun bs w hS => ⟨⟨A, c, L⟩, rfl, (hI.fin1 (by assumption) (by omega)), hS.kp, hS.out1⟩
   refine M1 (J := ?_)
   refine Mal (α := CLock) 56 ([(⟨x.name, x.holder, x.fence, x.line⟩ : CLock)]) (h63 := (by first | omega | (simp only [List.length_append, List.length_nil, List.length_cons]; omega))) (hb := (by first | omega | (simp only [List.length_append, List.length_nil, List.length_cons]; omega))) (J := ?_)
   intro A5 c5
   exact Mt [.slice A5 (L ++ [(⟨x.name, x.holder, x.fence, x.line⟩ : CLock)]).length c5] fun bs w hS => ⟨⟨A5, c5, L ++ [(⟨x.name, x.holder, x.fence, x.line⟩ : CLock)]⟩, rfl, (hI.fin0 (by assumption) (by omega)), hS.kp, hS.out1⟩
 refine Mda 12 [] [] [rowA 115 A c (L : List CLock)] Tryz_mixed (J := ?_)
 refine Mbn (b) [(6, false)] (T := fun h2 => ?_) (F := fun h2 => ?_)
 · refine Mz (J := ?_)
   refine Mi (pA 33 34 (k : Int) k (rdk hs)) (J := ?_)
   refine M1 (J := ?_)
   refine Mal (α := CLock) 56 ([(⟨(s.at k).name, (s.at k).holder, (s.at k).fence, (s.at k).line⟩ : CLock)]) (h63 := (by first | omega | (simp only [List.length_append, List.length_nil, List.length_cons]; omega))) (hb := (by first | omega | (simp only [List.length_append, List.length_nil, List.length_cons]; omega))) (J := ?_)
   intro A1 c1
   refine Mi (pR ((k : Int) + 1)) (J := ?_)
   exact on1 (⟨k + 1, true, A1, c1, L ++ [(⟨(s.at k).name, (s.at k).holder, (s.at k).fence, (s.at k).line⟩ : CLock)]⟩ : Nat × Bool × Option Addr × Nat × List CLock) (by first | exact hI.more (by assumption) (by omega) | exact hI.hit (by assumption) (by omega) (by assumption) | exact hI.skip (by assumption) (by omega) (by assumption)) (by show s.xs.length - (k + 1) < s.xs.length - k; omega)
 refine Mih (pc (pI 19 (k : Int) k (rdk hs)) (pF 21 k 0 1 (rdk hs))) (J := ?_)
 refine Mz (J := ?_)
 refine Mbn (Op.bytesLess ((s.at k).name).toList (x.name).toList || decide ((s.at k).name = x.name)) (T := fun h3 => ?_) (F := fun h3 => ?_)
 · rw [bytes_total] at h3
   simp only [Bool.not_eq_true', Bool.not_eq_false', Bool.not_eq_true, Bool.not_eq_false] at h3
   refine Mi (pA 33 34 (k : Int) k (rdk hs)) (J := ?_)
   refine M1 (J := ?_)
   refine Mal (α := CLock) 56 ([(⟨(s.at k).name, (s.at k).holder, (s.at k).fence, (s.at k).line⟩ : CLock)]) (h63 := (by first | omega | (simp only [List.length_append, List.length_nil, List.length_cons]; omega))) (hb := (by first | omega | (simp only [List.length_append, List.length_nil, List.length_cons]; omega))) (J := ?_)
   intro A2 c2
   refine Mi (pR ((k : Int) + 1)) (J := ?_)
   exact on1 (⟨k + 1, false, A2, c2, L ++ [(⟨(s.at k).name, (s.at k).holder, (s.at k).fence, (s.at k).line⟩ : CLock)]⟩ : Nat × Bool × Option Addr × Nat × List CLock) (by first | exact hI.more (by assumption) (by omega) | exact hI.hit (by assumption) (by omega) (by assumption) | exact hI.skip (by assumption) (by omega) (by assumption)) (by show s.xs.length - (k + 1) < s.xs.length - k; omega)
 rw [bytes_total] at h3
 simp only [Bool.not_eq_true', Bool.not_eq_false', Bool.not_eq_true, Bool.not_eq_false] at h3
 refine M1 (J := ?_)
 refine Mal (α := CLock) 56 ([(⟨x.name, x.holder, x.fence, x.line⟩ : CLock)]) (h63 := (by first | omega | (simp only [List.length_append, List.length_nil, List.length_cons]; omega))) (hb := (by first | omega | (simp only [List.length_append, List.length_nil, List.length_cons]; omega))) (J := ?_)
 intro A3 c3
 refine Mi (pA 33 34 (k : Int) k (rdk hs)) (J := ?_)
 refine M1 (J := ?_)
 refine Mal (α := CLock) 56 ([(⟨(s.at k).name, (s.at k).holder, (s.at k).fence, (s.at k).line⟩ : CLock)]) (h63 := (by first | omega | (simp only [List.length_append, List.length_nil, List.length_cons]; omega))) (hb := (by first | omega | (simp only [List.length_append, List.length_nil, List.length_cons]; omega))) (J := ?_)
 intro A4 c4
 refine Mi (pR ((k : Int) + 1)) (J := ?_)
 exact on1 (⟨k + 1, true, A4, c4, L ++ [(⟨x.name, x.holder, x.fence, x.line⟩ : CLock)] ++ [(⟨(s.at k).name, (s.at k).holder, (s.at k).fence, (s.at k).line⟩ : CLock)]⟩ : Nat × Bool × Option Addr × Nat × List CLock) (by first | exact hI.more (by assumption) (by omega) | exact hI.hit (by assumption) (by omega) (by assumption) | exact hI.skip (by assumption) (by omega) (by assumption)) (by show s.xs.length - (k + 1) < s.xs.length - k; omega)

theorem lock_Take {B : Nat → Prop} (s : Sl CLock) (t : ByteArray) (who : Int) (wait : Bool) (w : World) (hs : s.rd B w) (ht : t.size ≤ 9223372036854775807) : Calls Tryz.prog 84 #[.slice s.A s.n s.c, .string t, .int .i64 who, .bool wait] w fun e w' => ∃ y : Sl CLock, e = .returned (.tuple #[.slice y.A y.n y.c, .agg #[.int .i64 ((mTake (s.xs.map CLock.abs) t who wait).2.1).code, .int .i64 ((mTake (s.xs.map CLock.abs) t who wait).2.1).n, .string ((mTake (s.xs.map CLock.abs) t who wait).2.1).text], .int .i64 (mTake (s.xs.map CLock.abs) t who wait).2.2]) ∧ y.xs.map CLock.abs = (mTake (s.xs.map CLock.abs) t who wait).1 ∧ FreshS w w' y := by
 have oks := Sl.rd.ok hs
 have ncs := Sl.ok.nc oks
 have hns : s.n = s.xs.length := rfl
 refine M0 Tryz.func84 (J := ?_)
 by_cases h1 : mAsk (s.xs.map CLock.abs) t who = 0
 rotate_left
 · refine Mp (v := .tuple #[.slice none 0 0, .int .i64 0, .bool false, .int .i64 (mAsk (s.xs.map CLock.abs) t who)]) Tryz.call148 (fun bs w hS => (lock_begin s t who w (Sl.rd.kp hs hS.kp) (by first | assumption | omega | (simp only [emp_size]; omega))).mono (fun e w' h => (h.resolve_right (fun h9 => h1 h9.1)).2)) (J := ?_)
   refine Mdn (mAsk (s.xs.map CLock.abs) t who = 0) (T := fun h12 => ?_) (F := fun h12 => ?_)
   · exact absurd h12 h1
   refine Mt [.slice none 0 0, .agg #[.int .i64 0, .int .i64 0, .string emp], .int .i64 (mAsk (s.xs.map CLock.abs) t who)] fun bs w hS => ?_
   have hm : mTake (s.xs.map CLock.abs) t who wait = ([], zRep, mAsk (s.xs.map CLock.abs) t who) := by
     unfold mTake
     repeat (first | rw [if_pos (by first | assumption | omega)] | rw [if_neg (by first | assumption | omega | (intro h0; first | exact absurd h0 (by assumption) | (simp_all; done)))])
     all_goals rfl
   refine ⟨Sl.nil, ?_, ?_, hS.outS (Sl.rd_nil _ _)⟩
   · rw [hm] <;> rfl
   · rw [hm] <;> rfl
 refine Mf (σ := Sl CLock) (v := fun y1 => .tuple #[.slice y1.A y1.n y1.c, .int .i64 ((mBS (fun x : CLock => cmpS x.name t) s.xs : Nat) : Int), .bool (mBSf (fun x : CLock => cmpS x.name t) s.xs), .int .i64 0]) (F := fun y1 => y1.xs.map CLock.abs = s.xs.map CLock.abs) (r := fun y1 => locksR 115 3 y1) Tryz.call148 (fun bs w hS => (lock_begin s t who w (Sl.rd.kp hs hS.kp) (by first | assumption | omega | (simp only [emp_size]; omega))).mono (fun e w' h => (h.resolve_left (fun h9 => h9.1 h1)).2)) (J := ?_)
 rintro y1 hF1
 refine m_split2 ?_
 obtain ⟨A1, c1, S1⟩ := y1
 have hF1 : S1.map CLock.abs = s.xs.map CLock.abs := hF1
 refine m_perm (R' := [ownL (lineR 3) S1, rowA 115 A1 c1 (S1 : List CLock)]) (List.Perm.refl _) ?_
 have hnm1 := locks_names (y := (⟨A1, c1, S1⟩ : Sl CLock)) hs hF1
 have hlen1 : S1.length = s.xs.length := by simpa using congrArg List.length hF1
 refine m_know (F := ∀ i, i < S1.length → Rds.ok (S1.getD i default)) (fun bs w hS i hi => Rds.okof (B := anyB) (w := w) (own_eltL (hS.res _ (.head _)) hnm1 (mem_of_getD hi))) fun okown1 => ?_
 refine m_know (F := RowOk A1 c1 (S1 : List CLock)) (fun bs w hS => rowA_rok (hS.res _ (.tail _ (.head _)))) fun hrow1 => ?_
 have nchrow1 := hrow1.2
 have hask := mAsk_ok h1
 have hm1 : mLocks (S1.map CLock.abs) = 0 := by rw [hF1]; exact hask.1
 have hw1 := hask.2.2.1
 have hw2 := hask.2.2.2
 have hln5 : S1.length ≤ 5 := by have h9 := (mLocks_bd hm1).1; simpa using h9
 have hbsS : mBS (fun x : CLock => cmpS x.name t) s.xs = mBS (fun x : CLock => cmpS x.name t) S1 := mBS_abs (L := s.xs) (L2 := S1) (f := CLock.abs) (c := fun x : DLock => cmpS x.name t) rfl hF1.symm
 have hbfS : mBSf (fun x : CLock => cmpS x.name t) s.xs = mBSf (fun x : CLock => cmpS x.name t) S1 := mBSf_abs (L := s.xs) (L2 := S1) (f := CLock.abs) (c := fun x : DLock => cmpS x.name t) rfl hF1.symm
 rw [hbsS, hbfS]
 have hbs := bsf_lock (L := S1) hm1 t
 have hJb := mIdx_bd (fun x : DLock => decide (x.name = t)) (S1.map CLock.abs)
 rw [List.length_map] at hJb
 generalize hJ : mIdx (fun x : DLock => decide (x.name = t)) (S1.map CLock.abs) = J at hbs hJb
 have hkl := mBS_le (fun x : CLock => cmpS x.name t) S1
 generalize hk : mBS (fun x : CLock => cmpS x.name t) S1 = k at hbs hkl ⊢
 generalize hf : mBSf (fun x : CLock => cmpS x.name t) S1 = fb at hbs ⊢
 refine Mq 24 false rfl (J := ?_)
 refine Mbn (fb) [(12, false)] (T := fun h2 => ?_) (F := fun h2 => ?_)
 rotate_left
 · have h0J := of_decide_eq_false (hbs.1.symm.trans h2)
   refine Md ((S1.length : Int) = 5) (T := fun h11 => ?_) (F := fun h11 => ?_)
   · refine Mt [.slice A1 S1.length c1, .agg #[.int .i64 8, .int .i64 0, .string emp], .int .i64 0] fun bs w hS => ?_
     have hask0 : mAsk (S1.map CLock.abs) t who = 0 := by rw [hF1]; assumption
     rw [← hF1]
     have hq1 : (S1.getD k default).abs.holder = (S1.getD k default).holder := rfl
     have hq2 : (S1.getD k default).abs.fence = (S1.getD k default).fence := rfl
     have hq3 : (S1.getD k default).abs.line = (S1.getD k default).line.xs := rfl
     have hq4 : (S1.getD k default).abs.name = (S1.getD k default).name := rfl
     have hm : mTake (S1.map CLock.abs) t who wait = (S1.map CLock.abs, ⟨8, 0, emp⟩, 0) := by
       unfold mTake lIdx
       simp only [hJ, Int.toNat_natCast, lgetD, List.length_map]
       repeat (first | rw [if_pos (by first | assumption | omega)] | rw [if_neg (by first | assumption | omega | (intro h0; first | exact absurd h0 (by assumption) | (simp_all; done)))])
       all_goals rfl
     refine ⟨⟨A1, c1, S1⟩, ?_, ?_, hS.outS (y := (⟨A1, c1, S1⟩ : Sl CLock)) (out_locksG (.tail _ (.head _)) hS.res (fun x hx => ?_))⟩
     · rw [hm] <;> rfl
     · exact (congrArg Prod.fst hm).symm
     · exact ⟨hnm1 x hx, own_inL (.head _) hS.res hx⟩
   refine M1 (J := ?_)
   refine m_f1 ?_
   refine Mtu (σ := Option Addr × Nat) (v := fun q7 => .slice q7.1 (S1.take k ++ [(⟨t, who, 1, Sl.nil⟩ : CLock)] ++ S1.drop k).length q7.2) (F := fun q7 => True) (r := fun q7 => rowA 115 q7.1 q7.2 (S1.take k ++ [(⟨t, who, 1, Sl.nil⟩ : CLock)] ++ S1.drop k : List CLock)) (vs := fun bs => [.slice A1 S1.length c1, .int .i64 (k : Int), .slice (some (adr bs 1 0)) 1 1]) Tryz.call149 (fun bs w hS => (insR_Lock A1 c1 S1 k _ (⟨t, who, 1, Sl.nil⟩ : CLock) (bs.getD 1 0) 115 w (hS.res _ (.head _)) hS.head1.2.2 rfl (by omega) (by omega) (hS.loc 1 ⟨115, [vS t, vI who, vI 1, .v (.slice none 0 0)]⟩ (by kernel_rfl) (by simp)) (hS.ne_head (i := 1) (b := ⟨115, [vS t, vI who, vI 1, .v (.slice none 0 0)]⟩) (by kernel_rfl))).mono (fun e w' ⟨y, h1, h2⟩ => ⟨y, h1, trivial, h2⟩)) (J := ?_)
   rintro q7 _
   refine Mt [.slice q7.1 (S1.take k ++ [(⟨t, who, 1, Sl.nil⟩ : CLock)] ++ S1.drop k).length q7.2, .agg #[.int .i64 0, .int .i64 1, .string emp], .int .i64 0] fun bs w hS => ?_
   have hask0 : mAsk (S1.map CLock.abs) t who = 0 := by rw [hF1]; assumption
   rw [← hF1]
   have hq1 : (S1.getD k default).abs.holder = (S1.getD k default).holder := rfl
   have hq2 : (S1.getD k default).abs.fence = (S1.getD k default).fence := rfl
   have hq3 : (S1.getD k default).abs.line = (S1.getD k default).line.xs := rfl
   have hq4 : (S1.getD k default).abs.name = (S1.getD k default).name := rfl
   have hvy : S1.take k ++ [(⟨t, who, 1, Sl.nil⟩ : CLock)] ++ S1.drop k = mIns (fun x : CLock => Op.bytesLess t.toList x.name.toList) (⟨t, who, 1, Sl.nil⟩ : CLock) S1 := ins_at ((ins_lock hm1 (by rw [hJ]; omega)).trans hk)
   have hvx := insL_map hvy
   have hm : mTake (S1.map CLock.abs) t who wait = (mIns (fun x : DLock => Op.bytesLess t.toList x.name.toList) ⟨t, who, 1, []⟩ (S1.map CLock.abs), ⟨0, 1, emp⟩, 0) := by
     unfold mTake lIdx
     simp only [hJ, Int.toNat_natCast, lgetD, List.length_map]
     repeat (first | rw [if_pos (by first | assumption | omega)] | rw [if_neg (by first | assumption | omega | (intro h0; first | exact absurd h0 (by assumption) | (simp_all; done)))])
     all_goals rfl
   refine ⟨⟨q7.1, q7.2, S1.take k ++ [(⟨t, who, 1, Sl.nil⟩ : CLock)] ++ S1.drop k⟩, ?_, ?_, hS.outS (y := (⟨q7.1, q7.2, S1.take k ++ [(⟨t, who, 1, Sl.nil⟩ : CLock)] ++ S1.drop k⟩ : Sl CLock)) (out_locksG (.head _) hS.res (fun x hx => ?_))⟩
   · rw [hm] <;> rfl
   · exact Eq.trans hvx (congrArg Prod.fst hm).symm
   · rw [hvy] at hx
     rcases ins_mem hx with hx | hx
     · subst hx; exact ⟨ht, Sl.rd_nil _ _⟩
     · exact ⟨hnm1 x hx, own_inL (.tail _ (.head _)) hS.res hx⟩
 have hkJ := hbs.2 h2
 subst hkJ
 have hk5 := lock_all hm1 (k := k) (by omega)
 obtain ⟨hk51, hk52, hk53, hk54, hk55, hk56⟩ := hk5
 have hk7 : (S1.getD k default).line.n = (S1.getD k default).line.xs.length := rfl
 refine Mi (pc (pIo 52 (k : Int) k S1.length (.tail _ (.head _))) (pFo 57 k 1 1 (.tail _ (.head _)))) (J := ?_)
 refine Md ((S1.getD k default).holder = who) (T := fun h3 => ?_) (F := fun h3 => ?_)
 · refine Mda 9 [] [0] [ownL (lineR 3) S1, rowA 115 A1 c1 (S1 : List CLock)] Tryz_mixed (J := ?_)
   refine Mih (pFo 64 k 2 1 (.tail _ (.head _))) (J := ?_)
   refine Mz (J := ?_)
   refine Mt [.slice A1 S1.length c1, .agg #[.int .i64 0, .int .i64 (S1.getD k default).fence, .string emp], .int .i64 0] fun bs w hS => ?_
   have hask0 : mAsk (S1.map CLock.abs) t who = 0 := by rw [hF1]; assumption
   rw [← hF1]
   have hq1 : (S1.getD k default).abs.holder = (S1.getD k default).holder := rfl
   have hq2 : (S1.getD k default).abs.fence = (S1.getD k default).fence := rfl
   have hq3 : (S1.getD k default).abs.line = (S1.getD k default).line.xs := rfl
   have hq4 : (S1.getD k default).abs.name = (S1.getD k default).name := rfl
   have hlt : lTake (S1.getD k default).abs who wait = ((S1.getD k default).abs, ⟨0, (S1.getD k default).fence, emp⟩) := by
     unfold lTake
     simp only [hq1, hq2, hq3, hq4]
     repeat (first | rw [if_pos (by first | assumption | omega | exact .inl (by assumption) | exact .inr (by assumption))] | rw [if_neg (by first | assumption | omega | (rintro (h8 | h8) <;> simp_all; done))])
     all_goals rfl
   have hm : mTake (S1.map CLock.abs) t who wait = (S1.map CLock.abs, ⟨0, (S1.getD k default).fence, emp⟩, 0) := by
     unfold mTake lIdx
     simp only [hJ, Int.toNat_natCast, lgetD, List.length_map]
     rw [hlt]
     repeat (first | rw [if_pos (by first | assumption | omega)] | rw [if_neg (by first | assumption | omega | (intro h0; first | exact absurd h0 (by assumption) | (simp_all; done)))])
     all_goals (show ((S1.map CLock.abs).set k (S1.getD k default).abs, _, _) = _; rw [← lgetD, set_getD (by rw [List.length_map]; omega)])
   refine ⟨⟨A1, c1, S1⟩, ?_, ?_, hS.outS (y := (⟨A1, c1, S1⟩ : Sl CLock)) (out_locksG (.tail _ (.head _)) hS.res (fun x hx => ?_))⟩
   · rw [hm] <;> rfl
   · exact (congrArg Prod.fst hm).symm
   · exact ⟨hnm1 x hx, own_inL (.head _) hS.res hx⟩
 refine Mi (pFo 70 k 1 1 (.tail _ (.head _))) (J := ?_)
 refine Md ((S1.getD k default).holder = 0) (T := fun h4 => ?_) (F := fun h4 => ?_)
 · refine Mi (pFo 76 k 2 1 (.tail _ (.head _))) (J := ?_)
   refine Md ((S1.getD k default).fence = 1073741824) (T := fun h5 => ?_) (F := fun h5 => ?_)
   · refine Mt [.slice A1 S1.length c1, .agg #[.int .i64 8, .int .i64 0, .string emp], .int .i64 0] fun bs w hS => ?_
     have hask0 : mAsk (S1.map CLock.abs) t who = 0 := by rw [hF1]; assumption
     rw [← hF1]
     have hq1 : (S1.getD k default).abs.holder = (S1.getD k default).holder := rfl
     have hq2 : (S1.getD k default).abs.fence = (S1.getD k default).fence := rfl
     have hq3 : (S1.getD k default).abs.line = (S1.getD k default).line.xs := rfl
     have hq4 : (S1.getD k default).abs.name = (S1.getD k default).name := rfl
     have hlt : lTake (S1.getD k default).abs who wait = ((S1.getD k default).abs, ⟨8, 0, emp⟩) := by
       unfold lTake
       simp only [hq1, hq2, hq3, hq4]
       repeat (first | rw [if_pos (by first | assumption | omega | exact .inl (by assumption) | exact .inr (by assumption))] | rw [if_neg (by first | assumption | omega | (rintro (h8 | h8) <;> simp_all; done))])
       all_goals rfl
     have hm : mTake (S1.map CLock.abs) t who wait = (S1.map CLock.abs, ⟨8, 0, emp⟩, 0) := by
       unfold mTake lIdx
       simp only [hJ, Int.toNat_natCast, lgetD, List.length_map]
       rw [hlt]
       repeat (first | rw [if_pos (by first | assumption | omega)] | rw [if_neg (by first | assumption | omega | (intro h0; first | exact absurd h0 (by assumption) | (simp_all; done)))])
       all_goals (show ((S1.map CLock.abs).set k (S1.getD k default).abs, _, _) = _; rw [← lgetD, set_getD (by rw [List.length_map]; omega)])
     refine ⟨⟨A1, c1, S1⟩, ?_, ?_, hS.outS (y := (⟨A1, c1, S1⟩ : Sl CLock)) (out_locksG (.tail _ (.head _)) hS.res (fun x hx => ?_))⟩
     · rw [hm] <;> rfl
     · exact (congrArg Prod.fst hm).symm
     · exact ⟨hnm1 x hx, own_inL (.head _) hS.res hx⟩
   refine Mi (pFo 85 k 1 1 (.tail _ (.head _))) (J := ?_)
   refine Md ((S1.getD k default).holder = 0) (T := fun h6 => ?_) (F := fun h6 => ?_)
   rotate_left
   · exact absurd h4 h6
   refine Mi (pc (pFo 93 k 2 1 (.tail _ (.head _))) (pR ((S1.getD k default).fence + 1))) (J := ?_)
   refine m_f1 ?_
   refine Ms k 1 (⟨(S1.getD k default).name, who, (S1.getD k default).fence, (S1.getD k default).line⟩ : CLock) (by omega) (J := ?_)
   intro L3 hL3 hlL3
   have hgL3 : L3.getD k default = (⟨(S1.getD k default).name, who, (S1.getD k default).fence, (S1.getD k default).line⟩ : CLock) := by rw [hL3]; exact getD_set (by omega)
   have hbL3 : L3 = List.set S1 k (⟨(S1.getD k default).name, who, (S1.getD k default).fence, (S1.getD k default).line⟩ : CLock) := by rw [hL3]
   refine Ms k 2 (⟨(S1.getD k default).name, who, (S1.getD k default).fence + 1, (S1.getD k default).line⟩ : CLock) (by omega) (hg := hgL3) (J := ?_)
   intro L4 hL4 hlL4
   have hgL4 : L4.getD k default = (⟨(S1.getD k default).name, who, (S1.getD k default).fence + 1, (S1.getD k default).line⟩ : CLock) := by rw [hL4]; exact getD_set (by omega)
   have hbL4 : L4 = List.set S1 k (⟨(S1.getD k default).name, who, (S1.getD k default).fence + 1, (S1.getD k default).line⟩ : CLock) := by rw [hL4, hbL3, List.set_set]
   refine Mda 9 [] [0] [rowA 115 A1 c1 (L4 : List CLock), ownL (lineR 3) S1] Tryz_mixed (J := ?_)
   refine Mih (pFk 103 k 2 1 hgL4 (.head _)) (J := ?_)
   refine Mz (J := ?_)
   refine Mt [.slice A1 S1.length c1, .agg #[.int .i64 0, .int .i64 ((S1.getD k default).fence + 1), .string emp], .int .i64 0] fun bs w hS => ?_
   have hask0 : mAsk (S1.map CLock.abs) t who = 0 := by rw [hF1]; assumption
   rw [← hF1]
   have hq1 : (S1.getD k default).abs.holder = (S1.getD k default).holder := rfl
   have hq2 : (S1.getD k default).abs.fence = (S1.getD k default).fence := rfl
   have hq3 : (S1.getD k default).abs.line = (S1.getD k default).line.xs := rfl
   have hq4 : (S1.getD k default).abs.name = (S1.getD k default).name := rfl
   have hvx := setL_map hbL4
   have hlt : lTake (S1.getD k default).abs who wait = (((⟨(S1.getD k default).name, who, (S1.getD k default).fence + 1, (S1.getD k default).line⟩ : CLock)).abs, ⟨0, (S1.getD k default).fence + 1, emp⟩) := by
     unfold lTake
     simp only [hq1, hq2, hq3, hq4]
     repeat (first | rw [if_pos (by first | assumption | omega | exact .inl (by assumption) | exact .inr (by assumption))] | rw [if_neg (by first | assumption | omega | (rintro (h8 | h8) <;> simp_all; done))])
     all_goals rfl
   have hm : mTake (S1.map CLock.abs) t who wait = ((S1.map CLock.abs).set k ((⟨(S1.getD k default).name, who, (S1.getD k default).fence + 1, (S1.getD k default).line⟩ : CLock)).abs, ⟨0, (S1.getD k default).fence + 1, emp⟩, 0) := by
     unfold mTake lIdx
     simp only [hJ, Int.toNat_natCast, lgetD, List.length_map]
     rw [hlt]
     repeat (first | rw [if_pos (by first | assumption | omega)] | rw [if_neg (by first | assumption | omega | (intro h0; first | exact absurd h0 (by assumption) | (simp_all; done)))])
     all_goals rfl
   refine ⟨⟨A1, c1, L4⟩, ?_, ?_, hS.outS (y := (⟨A1, c1, L4⟩ : Sl CLock)) (out_locksG (.head _) hS.res (fun x hx => ?_))⟩
   · have hll : S1.length = L4.length := by rw [hbL4, List.length_set]
     rw [hm]
     exact congrArg (fun q => Ending.returned (.tuple #[.slice A1 q c1, .agg #[.int .i64 0, .int .i64 ((S1.getD k default).fence + 1), .string emp], .int .i64 0])) hll
   · exact Eq.trans hvx (congrArg Prod.fst hm).symm
   · rw [hbL4] at hx
     rcases mem_set hx with hx | hx
     · subst hx; exact ⟨hnm1 (S1.getD k default) (mem_of_getD (L := S1) (i := k) (by omega)), own_inL (x := (S1.getD k default)) (.tail _ (.head _)) hS.res (mem_of_getD (L := S1) (i := k) (by omega))⟩
     · exact ⟨hnm1 x hx, own_inL (.tail _ (.head _)) hS.res hx⟩
 refine Mi (pFo 85 k 1 1 (.tail _ (.head _))) (J := ?_)
 refine Md ((S1.getD k default).holder = 0) (T := fun h7 => ?_) (F := fun h7 => ?_)
 · exact absurd h7 h4
 refine Mbn (wait) (T := fun h8 => ?_) (F := fun h8 => ?_)
 rotate_left
 · refine Mda 9 [] [0] [ownL (lineR 3) S1, rowA 115 A1 c1 (S1 : List CLock)] Tryz_mixed (J := ?_)
   refine Mih (pFo 120 k 1 1 (.tail _ (.head _))) (J := ?_)
   refine Mz (J := ?_)
   refine Mt [.slice A1 S1.length c1, .agg #[.int .i64 10, .int .i64 (S1.getD k default).holder, .string emp], .int .i64 0] fun bs w hS => ?_
   have hask0 : mAsk (S1.map CLock.abs) t who = 0 := by rw [hF1]; assumption
   rw [← hF1]
   have hq1 : (S1.getD k default).abs.holder = (S1.getD k default).holder := rfl
   have hq2 : (S1.getD k default).abs.fence = (S1.getD k default).fence := rfl
   have hq3 : (S1.getD k default).abs.line = (S1.getD k default).line.xs := rfl
   have hq4 : (S1.getD k default).abs.name = (S1.getD k default).name := rfl
   have hlt : lTake (S1.getD k default).abs who wait = ((S1.getD k default).abs, ⟨10, (S1.getD k default).holder, emp⟩) := by
     unfold lTake
     simp only [hq1, hq2, hq3, hq4]
     repeat (first | rw [if_pos (by first | assumption | omega | exact .inl (by assumption) | exact .inr (by assumption))] | rw [if_neg (by first | assumption | omega | (rintro (h8 | h8) <;> simp_all; done))])
     all_goals rfl
   have hm : mTake (S1.map CLock.abs) t who wait = (S1.map CLock.abs, ⟨10, (S1.getD k default).holder, emp⟩, 0) := by
     unfold mTake lIdx
     simp only [hJ, Int.toNat_natCast, lgetD, List.length_map]
     rw [hlt]
     repeat (first | rw [if_pos (by first | assumption | omega)] | rw [if_neg (by first | assumption | omega | (intro h0; first | exact absurd h0 (by assumption) | (simp_all; done)))])
     all_goals (show ((S1.map CLock.abs).set k (S1.getD k default).abs, _, _) = _; rw [← lgetD, set_getD (by rw [List.length_map]; omega)])
   refine ⟨⟨A1, c1, S1⟩, ?_, ?_, hS.outS (y := (⟨A1, c1, S1⟩ : Sl CLock)) (out_locksG (.tail _ (.head _)) hS.res (fun x hx => ?_))⟩
   · rw [hm] <;> rfl
   · exact (congrArg Prod.fst hm).symm
   · exact ⟨hnm1 x hx, own_inL (.head _) hS.res hx⟩
 refine Mi (pFo 112 k 3 1 (.tail _ (.head _))) (J := ?_)
 refine Mp (v := .bool (((S1.getD k default).line.xs.take (S1.getD k default).line.n).any fun z => decide (z = who))) Tryz.call150 (fun bs w hS => has_ints (S1.getD k default).line (S1.getD k default).line.n who w (And.right (own_eltL (hS.res _ (.head _)) hnm1 (mem_of_getD (i := k) (by omega)))) (by omega)) (J := ?_)
 have hlh : (((S1.getD k default).line.xs.take (S1.getD k default).line.n).any fun z => decide (z = who)) = lHas (S1.getD k default).abs who := by rw [take_all (Nat.le_refl _)]; rfl
 rw [hlh]
 refine Mb (lHas (S1.getD k default).abs who) (T := fun h9 => ?_) (F := fun h9 => ?_)
 · refine Mda 9 [] [0] [ownL (lineR 3) S1, rowA 115 A1 c1 (S1 : List CLock)] Tryz_mixed (J := ?_)
   refine Mih (pFo 120 k 1 1 (.tail _ (.head _))) (J := ?_)
   refine Mz (J := ?_)
   refine Mt [.slice A1 S1.length c1, .agg #[.int .i64 10, .int .i64 (S1.getD k default).holder, .string emp], .int .i64 0] fun bs w hS => ?_
   have hask0 : mAsk (S1.map CLock.abs) t who = 0 := by rw [hF1]; assumption
   rw [← hF1]
   have hq1 : (S1.getD k default).abs.holder = (S1.getD k default).holder := rfl
   have hq2 : (S1.getD k default).abs.fence = (S1.getD k default).fence := rfl
   have hq3 : (S1.getD k default).abs.line = (S1.getD k default).line.xs := rfl
   have hq4 : (S1.getD k default).abs.name = (S1.getD k default).name := rfl
   have hlt : lTake (S1.getD k default).abs who wait = ((S1.getD k default).abs, ⟨10, (S1.getD k default).holder, emp⟩) := by
     unfold lTake
     simp only [hq1, hq2, hq3, hq4]
     repeat (first | rw [if_pos (by first | assumption | omega | exact .inl (by assumption) | exact .inr (by assumption))] | rw [if_neg (by first | assumption | omega | (rintro (h8 | h8) <;> simp_all; done))])
     all_goals rfl
   have hm : mTake (S1.map CLock.abs) t who wait = (S1.map CLock.abs, ⟨10, (S1.getD k default).holder, emp⟩, 0) := by
     unfold mTake lIdx
     simp only [hJ, Int.toNat_natCast, lgetD, List.length_map]
     rw [hlt]
     repeat (first | rw [if_pos (by first | assumption | omega)] | rw [if_neg (by first | assumption | omega | (intro h0; first | exact absurd h0 (by assumption) | (simp_all; done)))])
     all_goals (show ((S1.map CLock.abs).set k (S1.getD k default).abs, _, _) = _; rw [← lgetD, set_getD (by rw [List.length_map]; omega)])
   refine ⟨⟨A1, c1, S1⟩, ?_, ?_, hS.outS (y := (⟨A1, c1, S1⟩ : Sl CLock)) (out_locksG (.tail _ (.head _)) hS.res (fun x hx => ?_))⟩
   · rw [hm] <;> rfl
   · exact (congrArg Prod.fst hm).symm
   · exact ⟨hnm1 x hx, own_inL (.head _) hS.res hx⟩
 refine Mi (pFo 126 k 3 1 (.tail _ (.head _))) (J := ?_)
 refine Md ((((S1.getD k default).line.n : Nat) : Int) = 3) (T := fun h10 => ?_) (F := fun h10 => ?_)
 · refine Mt [.slice A1 S1.length c1, .agg #[.int .i64 8, .int .i64 0, .string emp], .int .i64 0] fun bs w hS => ?_
   have hask0 : mAsk (S1.map CLock.abs) t who = 0 := by rw [hF1]; assumption
   rw [← hF1]
   have hq1 : (S1.getD k default).abs.holder = (S1.getD k default).holder := rfl
   have hq2 : (S1.getD k default).abs.fence = (S1.getD k default).fence := rfl
   have hq3 : (S1.getD k default).abs.line = (S1.getD k default).line.xs := rfl
   have hq4 : (S1.getD k default).abs.name = (S1.getD k default).name := rfl
   have hlt : lTake (S1.getD k default).abs who wait = ((S1.getD k default).abs, ⟨8, 0, emp⟩) := by
     unfold lTake
     simp only [hq1, hq2, hq3, hq4]
     repeat (first | rw [if_pos (by first | assumption | omega | exact .inl (by assumption) | exact .inr (by assumption))] | rw [if_neg (by first | assumption | omega | (rintro (h8 | h8) <;> simp_all; done))])
     all_goals rfl
   have hm : mTake (S1.map CLock.abs) t who wait = (S1.map CLock.abs, ⟨8, 0, emp⟩, 0) := by
     unfold mTake lIdx
     simp only [hJ, Int.toNat_natCast, lgetD, List.length_map]
     rw [hlt]
     repeat (first | rw [if_pos (by first | assumption | omega)] | rw [if_neg (by first | assumption | omega | (intro h0; first | exact absurd h0 (by assumption) | (simp_all; done)))])
     all_goals (show ((S1.map CLock.abs).set k (S1.getD k default).abs, _, _) = _; rw [← lgetD, set_getD (by rw [List.length_map]; omega)])
   refine ⟨⟨A1, c1, S1⟩, ?_, ?_, hS.outS (y := (⟨A1, c1, S1⟩ : Sl CLock)) (out_locksG (.tail _ (.head _)) hS.res (fun x hx => ?_))⟩
   · rw [hm] <;> rfl
   · exact (congrArg Prod.fst hm).symm
   · exact ⟨hnm1 x hx, own_inL (.head _) hS.res hx⟩
 refine m_part2 (rowA 3 (S1.getD k default).line.A (S1.getD k default).line.c ((S1.getD k default).line.xs : List Int)) (ownL (lineR 3) (List.eraseIdx S1 k)) (ownL_get_fp (lineR 3) (i := k) (by omega)) (fun w h => ownL_get_p (lineR 3) (i := k) (by omega) w h) ?_
 refine Mi (pFo 135 k 3 1 (.tail _ (.tail _ (.head _)))) (J := ?_)
 refine M1 (J := ?_)
 refine Mal (α := Int) 8 ([who]) (h63 := (by first | omega | (simp only [List.length_append, List.length_nil, List.length_cons]; omega))) (hb := (by first | omega | (simp only [List.length_append, List.length_nil, List.length_cons]; omega))) (J := ?_)
 intro A5 c5
 refine m_f2 ?_
 refine Ms k 3 (⟨(S1.getD k default).name, (S1.getD k default).holder, (S1.getD k default).fence, ⟨A5, c5, (S1.getD k default).line.xs ++ [who]⟩⟩ : CLock) (by omega) (J := ?_)
 intro L6 hL6 hlL6
 have hgL6 : L6.getD k default = (⟨(S1.getD k default).name, (S1.getD k default).holder, (S1.getD k default).fence, ⟨A5, c5, (S1.getD k default).line.xs ++ [who]⟩⟩ : CLock) := by rw [hL6]; exact getD_set (by omega)
 have hbL6 : L6 = List.set S1 k (⟨(S1.getD k default).name, (S1.getD k default).holder, (S1.getD k default).fence, ⟨A5, c5, (S1.getD k default).line.xs ++ [who]⟩⟩ : CLock) := by rw [hL6]
 refine Mda 9 [] [0] [rowA 115 A1 c1 (L6 : List CLock), rowA 3 A5 c5 ((S1.getD k default).line.xs ++ [who] : List Int), ownL (lineR 3) (List.eraseIdx S1 k)] Tryz_mixed (J := ?_)
 refine Mih (pFk 145 k 1 1 hgL6 (.head _)) (J := ?_)
 refine Mz (J := ?_)
 refine Mt [.slice A1 S1.length c1, .agg #[.int .i64 10, .int .i64 (S1.getD k default).holder, .string emp], .int .i64 0] fun bs w hS => ?_
 have hask0 : mAsk (S1.map CLock.abs) t who = 0 := by rw [hF1]; assumption
 rw [← hF1]
 have hq1 : (S1.getD k default).abs.holder = (S1.getD k default).holder := rfl
 have hq2 : (S1.getD k default).abs.fence = (S1.getD k default).fence := rfl
 have hq3 : (S1.getD k default).abs.line = (S1.getD k default).line.xs := rfl
 have hq4 : (S1.getD k default).abs.name = (S1.getD k default).name := rfl
 have hvx := setL_map hbL6
 have hlt : lTake (S1.getD k default).abs who wait = (((⟨(S1.getD k default).name, (S1.getD k default).holder, (S1.getD k default).fence, ⟨A5, c5, (S1.getD k default).line.xs ++ [who]⟩⟩ : CLock)).abs, ⟨10, (S1.getD k default).holder, emp⟩) := by
   unfold lTake
   simp only [hq1, hq2, hq3, hq4]
   repeat (first | rw [if_pos (by first | assumption | omega | exact .inl (by assumption) | exact .inr (by assumption))] | rw [if_neg (by first | assumption | omega | (rintro (h8 | h8) <;> simp_all; done))])
   all_goals rfl
 have hm : mTake (S1.map CLock.abs) t who wait = ((S1.map CLock.abs).set k ((⟨(S1.getD k default).name, (S1.getD k default).holder, (S1.getD k default).fence, ⟨A5, c5, (S1.getD k default).line.xs ++ [who]⟩⟩ : CLock)).abs, ⟨10, (S1.getD k default).holder, emp⟩, 0) := by
   unfold mTake lIdx
   simp only [hJ, Int.toNat_natCast, lgetD, List.length_map]
   rw [hlt]
   repeat (first | rw [if_pos (by first | assumption | omega)] | rw [if_neg (by first | assumption | omega | (intro h0; first | exact absurd h0 (by assumption) | (simp_all; done)))])
   all_goals rfl
 refine ⟨⟨A1, c1, L6⟩, ?_, ?_, hS.outS (y := (⟨A1, c1, L6⟩ : Sl CLock)) (out_locksG (.head _) hS.res (fun x hx => ?_))⟩
 · have hll : S1.length = L6.length := by rw [hbL6, List.length_set]
   rw [hm]
   exact congrArg (fun q => Ending.returned (.tuple #[.slice A1 q c1, .agg #[.int .i64 10, .int .i64 (S1.getD k default).holder, .string emp], .int .i64 0])) hll
 · exact Eq.trans hvx (congrArg Prod.fst hm).symm
 · rw [hbL6] at hx
   rcases mem_set_ne hx with hx | hx
   · subst hx; exact ⟨hnm1 (S1.getD k default) (mem_of_getD (L := S1) (i := k) (by omega)), allR_row (.tail _ (.head _)) (hS.res _ (.tail _ (.head _))) (fun _ _ => trivial)⟩
   · exact ⟨hnm1 x (List.mem_of_mem_eraseIdx hx), own_inL (.tail _ (.tail _ (.head _))) hS.res hx⟩

theorem ref_TakenOf {B : Nat → Prop} (s : Sl CLock) (t : ByteArray) (who : Int) (wait : Bool) (w : World) (hs : s.rd B w) (ht : t.size ≤ 9223372036854775807) : Calls Tryz.prog 38 #[.slice s.A s.n s.c, .string t, .int .i64 who, .bool wait] w fun e w' => ∃ y : Sl CLock, e = .returned (.tuple #[.slice y.A y.n y.c, .agg #[.int .i64 ((mTake (s.xs.map CLock.abs) t who wait).2.1).code, .int .i64 ((mTake (s.xs.map CLock.abs) t who wait).2.1).n, .string ((mTake (s.xs.map CLock.abs) t who wait).2.1).text], .int .i64 (mTake (s.xs.map CLock.abs) t who wait).2.2]) ∧ y.xs.map CLock.abs = (mTake (s.xs.map CLock.abs) t who wait).1 ∧ FreshS w w' y := by
 have oks := Sl.rd.ok hs
 have ncs := Sl.ok.nc oks
 have hns : s.n = s.xs.length := rfl
 refine M0 Tryz.func38 (J := ?_)
 refine Mp Tryz.call101 (fun bs w hS => ref_asked s t who w (Sl.rd.kp hs hS.kp) (by first | assumption | omega | (simp only [emp_size]; omega))) (J := ?_)
 refine Mdn (mAsk (s.xs.map CLock.abs) t who = 0) (T := fun h1 => ?_) (F := fun h1 => ?_)
 rotate_left
 · refine Mt [.slice none 0 0, .agg #[.int .i64 0, .int .i64 0, .string emp], .int .i64 (mAsk (s.xs.map CLock.abs) t who)] fun bs w hS => ?_
   have hm : mTake (s.xs.map CLock.abs) t who wait = ([], zRep, mAsk (s.xs.map CLock.abs) t who) := by
     unfold mTake
     repeat (first | rw [if_pos (by first | assumption | omega)] | rw [if_neg (by first | assumption | omega | (intro h0; first | exact absurd h0 (by assumption) | (simp_all; done)))])
     all_goals rfl
   refine ⟨Sl.nil, ?_, ?_, hS.outS (Sl.rd_nil _ _)⟩
   · rw [hm] <;> rfl
   · rw [hm] <;> rfl
 refine Mf (σ := Sl CLock) (v := fun y1 => .slice y1.A y1.n y1.c) (F := fun y1 => y1.xs.map CLock.abs = s.xs.map CLock.abs) (r := fun y1 => locksR 115 3 y1) Tryz.call18 (fun bs w hS => ref_LocksCopy s w (Sl.rd.kp hs hS.kp) (small_locks (mAsk_ok (by assumption)).1)) (J := ?_)
 rintro y1 hF1
 refine m_split2 ?_
 obtain ⟨A1, c1, S1⟩ := y1
 have hF1 : S1.map CLock.abs = s.xs.map CLock.abs := hF1
 refine m_perm (R' := [ownL (lineR 3) S1, rowA 115 A1 c1 (S1 : List CLock)]) (List.Perm.refl _) ?_
 have hnm1 := locks_names (y := (⟨A1, c1, S1⟩ : Sl CLock)) (hs) hF1
 have hlen1 : S1.length = s.xs.length := by simpa using congrArg List.length hF1
 refine m_know (F := ∀ i, i < S1.length → Rds.ok (S1.getD i default)) (fun bs w hS i hi => Rds.okof (B := anyB) (w := w) (own_eltL (hS.res _ (.head _)) hnm1 (mem_of_getD hi))) fun okown1 => ?_
 refine m_know (F := RowOk A1 c1 (S1 : List CLock)) (fun bs w hS => rowA_rok (hS.res _ (.tail _ (.head _)))) fun hrow1 => ?_
 have nchrow1 := hrow1.2
 have hask := mAsk_ok h1
 have hm1 : mLocks (S1.map CLock.abs) = 0 := by rw [hF1]; exact hask.1
 have hw1 := hask.2.2.1
 have hw2 := hask.2.2.2
 have hln5 : S1.length ≤ 5 := by have h9 := (mLocks_bd hm1).1; simpa using h9
 refine Mp (v := .int .i64 (mIdx (fun x : CLock => decide (x.name = t)) S1)) Tryz.call100 (fun bs w hS => tackroomref_lockAt (⟨A1, c1, S1⟩ : Sl CLock) t w (own_locks (hS.res _ (.head _)) (hS.res _ (.tail _ (.head _))) hnm1)) (J := ?_)
 have hJe : mIdx (fun x : CLock => decide (x.name = t)) S1 = mIdx (fun x : DLock => decide (x.name = t)) (S1.map CLock.abs) := mIdx_map CLock.abs (fun x : DLock => decide (x.name = t)) S1
 rw [hJe]
 have hJb := mIdx_bd (fun x : DLock => decide (x.name = t)) (S1.map CLock.abs)
 generalize hJ : mIdx (fun x : DLock => decide (x.name = t)) (S1.map CLock.abs) = J at hJb ⊢
 rw [List.length_map] at hJb
 refine Md (J < 0) (T := fun h2 => ?_) (F := fun h2 => ?_)
 · have h0J : ¬ 0 ≤ J := by omega
   refine Md ((5 : Int) ≤ (S1.length : Int)) (T := fun h3 => ?_) (F := fun h3 => ?_)
   · refine Mt [.slice A1 S1.length c1, .agg #[.int .i64 8, .int .i64 0, .string emp], .int .i64 0] fun bs w hS => ?_
     have hask0 : mAsk (S1.map CLock.abs) t who = 0 := by rw [hF1]; assumption
     rw [← hF1]
     have hq1 : (S1.getD J.toNat default).abs.holder = (S1.getD J.toNat default).holder := rfl
     have hq2 : (S1.getD J.toNat default).abs.fence = (S1.getD J.toNat default).fence := rfl
     have hq3 : (S1.getD J.toNat default).abs.line = (S1.getD J.toNat default).line.xs := rfl
     have hq4 : (S1.getD J.toNat default).abs.name = (S1.getD J.toNat default).name := rfl
     have hm : mTake (S1.map CLock.abs) t who wait = (S1.map CLock.abs, ⟨8, 0, emp⟩, 0) := by
       unfold mTake lIdx
       simp only [hJ, lgetD, List.length_map]
       repeat (first | rw [if_pos (by first | assumption | omega)] | rw [if_neg (by first | assumption | omega | (intro h0; first | exact absurd h0 (by assumption) | (simp_all; done)))])
       all_goals rfl
     refine ⟨⟨A1, c1, S1⟩, ?_, ?_, hS.outS (y := (⟨A1, c1, S1⟩ : Sl CLock)) (out_locksG (.tail _ (.head _)) hS.res (fun x hx => ?_))⟩
     · rw [hm] <;> rfl
     · exact (congrArg Prod.fst hm).symm
     · exact ⟨hnm1 x hx, own_inL (.head _) hS.res hx⟩
   refine Mf (σ := Sl CLock) (v := fun y3 => .slice y3.A y3.n y3.c) (F := fun y3 => y3.xs = mIns (fun z : CLock => Op.bytesLess t.toList z.name.toList) (⟨t, who, 1, Sl.nil⟩ : CLock) S1) (r := fun y3 => rowA 115 y3.A y3.c (y3.xs : List CLock)) (vs := fun bs => [.slice A1 S1.length c1, .agg #[.string t, .int .i64 who, .int .i64 1, .slice none 0 0]]) Tryz.call102 (fun bs w hS => ref_withLock (⟨A1, c1, S1⟩ : Sl CLock) (⟨t, who, 1, Sl.nil⟩ : CLock) w (own_locks (hS.res _ (.head _)) (hS.res _ (.tail _ (.head _))) hnm1) (by show S1.length ≤ _; omega)) (J := ?_)
   rintro y3 hF3
   obtain ⟨A3, c3, rfl⟩ := Sl.of_xs hF3
   refine m_weak (rowA 115 A3 c3 (mIns (fun z : CLock => Op.bytesLess t.toList z.name.toList) (⟨t, who, 1, Sl.nil⟩ : CLock) S1 : List CLock)) (List.Sublist.refl _) (fun w h => h) ?_
   refine Mt [.slice A3 (mIns (fun z : CLock => Op.bytesLess t.toList z.name.toList) (⟨t, who, 1, Sl.nil⟩ : CLock) S1).length c3, .agg #[.int .i64 0, .int .i64 1, .string emp], .int .i64 0] fun bs w hS => ?_
   have hask0 : mAsk (S1.map CLock.abs) t who = 0 := by rw [hF1]; assumption
   rw [← hF1]
   have hq1 : (S1.getD J.toNat default).abs.holder = (S1.getD J.toNat default).holder := rfl
   have hq2 : (S1.getD J.toNat default).abs.fence = (S1.getD J.toNat default).fence := rfl
   have hq3 : (S1.getD J.toNat default).abs.line = (S1.getD J.toNat default).line.xs := rfl
   have hq4 : (S1.getD J.toNat default).abs.name = (S1.getD J.toNat default).name := rfl
   have hvy : mIns (fun z : CLock => Op.bytesLess t.toList z.name.toList) (⟨t, who, 1, Sl.nil⟩ : CLock) S1 = mIns (fun x : CLock => Op.bytesLess t.toList x.name.toList) (⟨t, who, 1, Sl.nil⟩ : CLock) S1 := rfl
   have hvx := insL_map hvy
   have hm : mTake (S1.map CLock.abs) t who wait = (mIns (fun x : DLock => Op.bytesLess t.toList x.name.toList) ⟨t, who, 1, []⟩ (S1.map CLock.abs), ⟨0, 1, emp⟩, 0) := by
     unfold mTake lIdx
     simp only [hJ, lgetD, List.length_map]
     repeat (first | rw [if_pos (by first | assumption | omega)] | rw [if_neg (by first | assumption | omega | (intro h0; first | exact absurd h0 (by assumption) | (simp_all; done)))])
     all_goals rfl
   refine ⟨⟨A3, c3, mIns (fun z : CLock => Op.bytesLess t.toList z.name.toList) (⟨t, who, 1, Sl.nil⟩ : CLock) S1⟩, ?_, ?_, hS.outS (y := (⟨A3, c3, mIns (fun z : CLock => Op.bytesLess t.toList z.name.toList) (⟨t, who, 1, Sl.nil⟩ : CLock) S1⟩ : Sl CLock)) (out_locksG (.head _) hS.res (fun x hx => ?_))⟩
   · rw [hm] <;> rfl
   · exact Eq.trans hvx (congrArg Prod.fst hm).symm
   · rw [hvy] at hx
     rcases ins_mem hx with hx | hx
     · subst hx; exact ⟨ht, Sl.rd_nil _ _⟩
     · exact ⟨hnm1 x hx, own_inL (.tail _ (.head _)) hS.res hx⟩
 have h0J : 0 ≤ J := by omega
 have hk5 := lock_all hm1 (k := J.toNat) (by omega)
 obtain ⟨hk51, hk52, hk53, hk54, hk55, hk56⟩ := hk5
 have hk7 : (S1.getD J.toNat default).line.n = (S1.getD J.toNat default).line.xs.length := rfl
 refine Mi (pc (pIo 43 J J.toNat S1.length (.tail _ (.head _))) (pFo 45 J.toNat 1 1 (.tail _ (.head _)))) (J := ?_)
 refine Md ((S1.getD J.toNat default).holder = 0) (T := fun h4 => ?_) (F := fun h4 => ?_)
 · refine Mi (pc (pIo 49 J J.toNat S1.length (.tail _ (.head _))) (pFo 51 J.toNat 2 1 (.tail _ (.head _)))) (J := ?_)
   refine Md ((1073741824 : Int) ≤ (S1.getD J.toNat default).fence) (T := fun h5 => ?_) (F := fun h5 => ?_)
   · refine Mt [.slice A1 S1.length c1, .agg #[.int .i64 8, .int .i64 0, .string emp], .int .i64 0] fun bs w hS => ?_
     have hask0 : mAsk (S1.map CLock.abs) t who = 0 := by rw [hF1]; assumption
     rw [← hF1]
     have hq1 : (S1.getD J.toNat default).abs.holder = (S1.getD J.toNat default).holder := rfl
     have hq2 : (S1.getD J.toNat default).abs.fence = (S1.getD J.toNat default).fence := rfl
     have hq3 : (S1.getD J.toNat default).abs.line = (S1.getD J.toNat default).line.xs := rfl
     have hq4 : (S1.getD J.toNat default).abs.name = (S1.getD J.toNat default).name := rfl
     have hlt : lTake (S1.getD J.toNat default).abs who wait = ((S1.getD J.toNat default).abs, ⟨8, 0, emp⟩) := by
       unfold lTake
       simp only [hq1, hq2, hq3, hq4]
       repeat (first | rw [if_pos (by first | assumption | omega | exact .inl (by assumption) | exact .inr (by assumption))] | rw [if_neg (by first | assumption | omega | (rintro (h8 | h8) <;> simp_all; done))])
       all_goals rfl
     have hm : mTake (S1.map CLock.abs) t who wait = (S1.map CLock.abs, ⟨8, 0, emp⟩, 0) := by
       unfold mTake lIdx
       simp only [hJ, lgetD, List.length_map]
       rw [hlt]
       repeat (first | rw [if_pos (by first | assumption | omega)] | rw [if_neg (by first | assumption | omega | (intro h0; first | exact absurd h0 (by assumption) | (simp_all; done)))])
       all_goals (show ((S1.map CLock.abs).set J.toNat (S1.getD J.toNat default).abs, _, _) = _; rw [← lgetD, set_getD (by rw [List.length_map]; omega)])
     refine ⟨⟨A1, c1, S1⟩, ?_, ?_, hS.outS (y := (⟨A1, c1, S1⟩ : Sl CLock)) (out_locksG (.tail _ (.head _)) hS.res (fun x hx => ?_))⟩
     · rw [hm] <;> rfl
     · exact (congrArg Prod.fst hm).symm
     · exact ⟨hnm1 x hx, own_inL (.head _) hS.res hx⟩
   refine Mi (pIo 58 J J.toNat S1.length (.tail _ (.head _))) (J := ?_)
   refine m_f1 ?_
   refine Ms J.toNat 1 (⟨(S1.getD J.toNat default).name, who, (S1.getD J.toNat default).fence, (S1.getD J.toNat default).line⟩ : CLock) (by omega) (J := ?_)
   intro L5 hL5 hlL5
   have hgL5 : L5.getD J.toNat default = (⟨(S1.getD J.toNat default).name, who, (S1.getD J.toNat default).fence, (S1.getD J.toNat default).line⟩ : CLock) := by rw [hL5]; exact getD_set (by omega)
   have hbL5 : L5 = List.set S1 J.toNat (⟨(S1.getD J.toNat default).name, who, (S1.getD J.toNat default).fence, (S1.getD J.toNat default).line⟩ : CLock) := by rw [hL5]
   refine Mi (pc (pIo 62 J J.toNat S1.length (.head _)) (pc (pFk 64 J.toNat 2 1 hgL5 (.head _)) (pc (pR ((S1.getD J.toNat default).fence + 1)) (pIo 66 J J.toNat S1.length (.head _))))) (J := ?_)
   refine Ms J.toNat 2 (⟨(S1.getD J.toNat default).name, who, (S1.getD J.toNat default).fence + 1, (S1.getD J.toNat default).line⟩ : CLock) (by omega) (hg := hgL5) (J := ?_)
   intro L6 hL6 hlL6
   have hgL6 : L6.getD J.toNat default = (⟨(S1.getD J.toNat default).name, who, (S1.getD J.toNat default).fence + 1, (S1.getD J.toNat default).line⟩ : CLock) := by rw [hL6]; exact getD_set (by omega)
   have hbL6 : L6 = List.set S1 J.toNat (⟨(S1.getD J.toNat default).name, who, (S1.getD J.toNat default).fence + 1, (S1.getD J.toNat default).line⟩ : CLock) := by rw [hL6, hbL5, List.set_set]
   refine Mi (pc (pIo 70 J J.toNat S1.length (.head _)) (pFk 72 J.toNat 1 1 hgL6 (.head _))) (J := ?_)
   refine Md (who = who) (T := fun h6 => ?_) (F := fun h6 => ?_)
   rotate_left
   · exact absurd rfl h6
   refine Mda 10 [] [0] [rowA 115 A1 c1 (L6 : List CLock), ownL (lineR 3) S1] Tryz_mixed (J := ?_)
   refine Mih (pc (pIo 78 J J.toNat S1.length (.head _)) (pFk 80 J.toNat 2 1 hgL6 (.head _))) (J := ?_)
   refine Mz (J := ?_)
   refine Mt [.slice A1 S1.length c1, .agg #[.int .i64 0, .int .i64 ((S1.getD J.toNat default).fence + 1), .string emp], .int .i64 0] fun bs w hS => ?_
   have hask0 : mAsk (S1.map CLock.abs) t who = 0 := by rw [hF1]; assumption
   rw [← hF1]
   have hq1 : (S1.getD J.toNat default).abs.holder = (S1.getD J.toNat default).holder := rfl
   have hq2 : (S1.getD J.toNat default).abs.fence = (S1.getD J.toNat default).fence := rfl
   have hq3 : (S1.getD J.toNat default).abs.line = (S1.getD J.toNat default).line.xs := rfl
   have hq4 : (S1.getD J.toNat default).abs.name = (S1.getD J.toNat default).name := rfl
   have hvx := setL_map hbL6
   have hlt : lTake (S1.getD J.toNat default).abs who wait = (((⟨(S1.getD J.toNat default).name, who, (S1.getD J.toNat default).fence + 1, (S1.getD J.toNat default).line⟩ : CLock)).abs, ⟨0, (S1.getD J.toNat default).fence + 1, emp⟩) := by
     unfold lTake
     simp only [hq1, hq2, hq3, hq4]
     repeat (first | rw [if_pos (by first | assumption | omega | exact .inl (by assumption) | exact .inr (by assumption))] | rw [if_neg (by first | assumption | omega | (rintro (h8 | h8) <;> simp_all; done))])
     all_goals rfl
   have hm : mTake (S1.map CLock.abs) t who wait = ((S1.map CLock.abs).set J.toNat ((⟨(S1.getD J.toNat default).name, who, (S1.getD J.toNat default).fence + 1, (S1.getD J.toNat default).line⟩ : CLock)).abs, ⟨0, (S1.getD J.toNat default).fence + 1, emp⟩, 0) := by
     unfold mTake lIdx
     simp only [hJ, lgetD, List.length_map]
     rw [hlt]
     repeat (first | rw [if_pos (by first | assumption | omega)] | rw [if_neg (by first | assumption | omega | (intro h0; first | exact absurd h0 (by assumption) | (simp_all; done)))])
     all_goals rfl
   refine ⟨⟨A1, c1, L6⟩, ?_, ?_, hS.outS (y := (⟨A1, c1, L6⟩ : Sl CLock)) (out_locksG (.head _) hS.res (fun x hx => ?_))⟩
   · have hll : S1.length = L6.length := by rw [hbL6, List.length_set]
     rw [hm]
     exact congrArg (fun q => Ending.returned (.tuple #[.slice A1 q c1, .agg #[.int .i64 0, .int .i64 ((S1.getD J.toNat default).fence + 1), .string emp], .int .i64 0])) hll
   · exact Eq.trans hvx (congrArg Prod.fst hm).symm
   · rw [hbL6] at hx
     rcases mem_set hx with hx | hx
     · subst hx; exact ⟨hnm1 (S1.getD J.toNat default) (mem_of_getD (L := S1) (i := J.toNat) (by omega)), own_inL (x := (S1.getD J.toNat default)) (.tail _ (.head _)) hS.res (mem_of_getD (L := S1) (i := J.toNat) (by omega))⟩
     · exact ⟨hnm1 x hx, own_inL (.tail _ (.head _)) hS.res hx⟩
 refine Mi (pc (pIo 70 J J.toNat S1.length (.tail _ (.head _))) (pFo 72 J.toNat 1 1 (.tail _ (.head _)))) (J := ?_)
 refine Md ((S1.getD J.toNat default).holder = who) (T := fun h7 => ?_) (F := fun h7 => ?_)
 · refine Mda 10 [] [0] [ownL (lineR 3) S1, rowA 115 A1 c1 (S1 : List CLock)] Tryz_mixed (J := ?_)
   refine Mih (pc (pIo 78 J J.toNat S1.length (.tail _ (.head _))) (pFo 80 J.toNat 2 1 (.tail _ (.head _)))) (J := ?_)
   refine Mz (J := ?_)
   refine Mt [.slice A1 S1.length c1, .agg #[.int .i64 0, .int .i64 (S1.getD J.toNat default).fence, .string emp], .int .i64 0] fun bs w hS => ?_
   have hask0 : mAsk (S1.map CLock.abs) t who = 0 := by rw [hF1]; assumption
   rw [← hF1]
   have hq1 : (S1.getD J.toNat default).abs.holder = (S1.getD J.toNat default).holder := rfl
   have hq2 : (S1.getD J.toNat default).abs.fence = (S1.getD J.toNat default).fence := rfl
   have hq3 : (S1.getD J.toNat default).abs.line = (S1.getD J.toNat default).line.xs := rfl
   have hq4 : (S1.getD J.toNat default).abs.name = (S1.getD J.toNat default).name := rfl
   have hlt : lTake (S1.getD J.toNat default).abs who wait = ((S1.getD J.toNat default).abs, ⟨0, (S1.getD J.toNat default).fence, emp⟩) := by
     unfold lTake
     simp only [hq1, hq2, hq3, hq4]
     repeat (first | rw [if_pos (by first | assumption | omega | exact .inl (by assumption) | exact .inr (by assumption))] | rw [if_neg (by first | assumption | omega | (rintro (h8 | h8) <;> simp_all; done))])
     all_goals rfl
   have hm : mTake (S1.map CLock.abs) t who wait = (S1.map CLock.abs, ⟨0, (S1.getD J.toNat default).fence, emp⟩, 0) := by
     unfold mTake lIdx
     simp only [hJ, lgetD, List.length_map]
     rw [hlt]
     repeat (first | rw [if_pos (by first | assumption | omega)] | rw [if_neg (by first | assumption | omega | (intro h0; first | exact absurd h0 (by assumption) | (simp_all; done)))])
     all_goals (show ((S1.map CLock.abs).set J.toNat (S1.getD J.toNat default).abs, _, _) = _; rw [← lgetD, set_getD (by rw [List.length_map]; omega)])
   refine ⟨⟨A1, c1, S1⟩, ?_, ?_, hS.outS (y := (⟨A1, c1, S1⟩ : Sl CLock)) (out_locksG (.tail _ (.head _)) hS.res (fun x hx => ?_))⟩
   · rw [hm] <;> rfl
   · exact (congrArg Prod.fst hm).symm
   · exact ⟨hnm1 x hx, own_inL (.head _) hS.res hx⟩
 refine Mi (pc (pIo 84 J J.toNat S1.length (.tail _ (.head _))) (pFo 86 J.toNat 1 1 (.tail _ (.head _)))) (J := ?_)
 refine Mb (wait) (T := fun h8 => ?_) (F := fun h8 => ?_)
 rotate_left
 · refine Mda 5 [] [0] [ownL (lineR 3) S1, rowA 115 A1 c1 (S1 : List CLock)] Tryz_mixed (J := ?_)
   refine Mz (J := ?_)
   refine Mt [.slice A1 S1.length c1, .agg #[.int .i64 10, .int .i64 (S1.getD J.toNat default).holder, .string emp], .int .i64 0] fun bs w hS => ?_
   have hask0 : mAsk (S1.map CLock.abs) t who = 0 := by rw [hF1]; assumption
   rw [← hF1]
   have hq1 : (S1.getD J.toNat default).abs.holder = (S1.getD J.toNat default).holder := rfl
   have hq2 : (S1.getD J.toNat default).abs.fence = (S1.getD J.toNat default).fence := rfl
   have hq3 : (S1.getD J.toNat default).abs.line = (S1.getD J.toNat default).line.xs := rfl
   have hq4 : (S1.getD J.toNat default).abs.name = (S1.getD J.toNat default).name := rfl
   have hlt : lTake (S1.getD J.toNat default).abs who wait = ((S1.getD J.toNat default).abs, ⟨10, (S1.getD J.toNat default).holder, emp⟩) := by
     unfold lTake
     simp only [hq1, hq2, hq3, hq4]
     repeat (first | rw [if_pos (by first | assumption | omega | exact .inl (by assumption) | exact .inr (by assumption))] | rw [if_neg (by first | assumption | omega | (rintro (h8 | h8) <;> simp_all; done))])
     all_goals rfl
   have hm : mTake (S1.map CLock.abs) t who wait = (S1.map CLock.abs, ⟨10, (S1.getD J.toNat default).holder, emp⟩, 0) := by
     unfold mTake lIdx
     simp only [hJ, lgetD, List.length_map]
     rw [hlt]
     repeat (first | rw [if_pos (by first | assumption | omega)] | rw [if_neg (by first | assumption | omega | (intro h0; first | exact absurd h0 (by assumption) | (simp_all; done)))])
     all_goals (show ((S1.map CLock.abs).set J.toNat (S1.getD J.toNat default).abs, _, _) = _; rw [← lgetD, set_getD (by rw [List.length_map]; omega)])
   refine ⟨⟨A1, c1, S1⟩, ?_, ?_, hS.outS (y := (⟨A1, c1, S1⟩ : Sl CLock)) (out_locksG (.tail _ (.head _)) hS.res (fun x hx => ?_))⟩
   · rw [hm] <;> rfl
   · exact (congrArg Prod.fst hm).symm
   · exact ⟨hnm1 x hx, own_inL (.head _) hS.res hx⟩
 refine Mi (pc (pIo 92 J J.toNat S1.length (.tail _ (.head _))) (pFo 94 J.toNat 3 1 (.tail _ (.head _)))) (J := ?_)
 refine Mp (v := .bool (((S1.getD J.toNat default).line.xs.take (S1.getD J.toNat default).line.n).any fun z => decide (z = who))) Tryz.call103 (fun bs w hS => ref_has (S1.getD J.toNat default).line (S1.getD J.toNat default).line.n who w (And.right (own_eltL (hS.res _ (.head _)) hnm1 (mem_of_getD (i := J.toNat) (by omega)))) (by omega)) (J := ?_)
 have hlh : (((S1.getD J.toNat default).line.xs.take (S1.getD J.toNat default).line.n).any fun z => decide (z = who)) = lHas (S1.getD J.toNat default).abs who := by rw [take_all (Nat.le_refl _)]; rfl
 rw [hlh]
 refine Mbn (lHas (S1.getD J.toNat default).abs who) (T := fun h9 => ?_) (F := fun h9 => ?_)
 · refine Mda 5 [] [0] [ownL (lineR 3) S1, rowA 115 A1 c1 (S1 : List CLock)] Tryz_mixed (J := ?_)
   refine Mz (J := ?_)
   refine Mt [.slice A1 S1.length c1, .agg #[.int .i64 10, .int .i64 (S1.getD J.toNat default).holder, .string emp], .int .i64 0] fun bs w hS => ?_
   have hask0 : mAsk (S1.map CLock.abs) t who = 0 := by rw [hF1]; assumption
   rw [← hF1]
   have hq1 : (S1.getD J.toNat default).abs.holder = (S1.getD J.toNat default).holder := rfl
   have hq2 : (S1.getD J.toNat default).abs.fence = (S1.getD J.toNat default).fence := rfl
   have hq3 : (S1.getD J.toNat default).abs.line = (S1.getD J.toNat default).line.xs := rfl
   have hq4 : (S1.getD J.toNat default).abs.name = (S1.getD J.toNat default).name := rfl
   have hlt : lTake (S1.getD J.toNat default).abs who wait = ((S1.getD J.toNat default).abs, ⟨10, (S1.getD J.toNat default).holder, emp⟩) := by
     unfold lTake
     simp only [hq1, hq2, hq3, hq4]
     repeat (first | rw [if_pos (by first | assumption | omega | exact .inl (by assumption) | exact .inr (by assumption))] | rw [if_neg (by first | assumption | omega | (rintro (h8 | h8) <;> simp_all; done))])
     all_goals rfl
   have hm : mTake (S1.map CLock.abs) t who wait = (S1.map CLock.abs, ⟨10, (S1.getD J.toNat default).holder, emp⟩, 0) := by
     unfold mTake lIdx
     simp only [hJ, lgetD, List.length_map]
     rw [hlt]
     repeat (first | rw [if_pos (by first | assumption | omega)] | rw [if_neg (by first | assumption | omega | (intro h0; first | exact absurd h0 (by assumption) | (simp_all; done)))])
     all_goals (show ((S1.map CLock.abs).set J.toNat (S1.getD J.toNat default).abs, _, _) = _; rw [← lgetD, set_getD (by rw [List.length_map]; omega)])
   refine ⟨⟨A1, c1, S1⟩, ?_, ?_, hS.outS (y := (⟨A1, c1, S1⟩ : Sl CLock)) (out_locksG (.tail _ (.head _)) hS.res (fun x hx => ?_))⟩
   · rw [hm] <;> rfl
   · exact (congrArg Prod.fst hm).symm
   · exact ⟨hnm1 x hx, own_inL (.head _) hS.res hx⟩
 refine Mi (pc (pIo 101 J J.toNat S1.length (.tail _ (.head _))) (pFo 103 J.toNat 3 1 (.tail _ (.head _)))) (J := ?_)
 refine Md ((3 : Int) ≤ (((S1.getD J.toNat default).line.n : Nat) : Int)) (T := fun h10 => ?_) (F := fun h10 => ?_)
 · refine Mt [.slice A1 S1.length c1, .agg #[.int .i64 8, .int .i64 0, .string emp], .int .i64 0] fun bs w hS => ?_
   have hask0 : mAsk (S1.map CLock.abs) t who = 0 := by rw [hF1]; assumption
   rw [← hF1]
   have hq1 : (S1.getD J.toNat default).abs.holder = (S1.getD J.toNat default).holder := rfl
   have hq2 : (S1.getD J.toNat default).abs.fence = (S1.getD J.toNat default).fence := rfl
   have hq3 : (S1.getD J.toNat default).abs.line = (S1.getD J.toNat default).line.xs := rfl
   have hq4 : (S1.getD J.toNat default).abs.name = (S1.getD J.toNat default).name := rfl
   have hlt : lTake (S1.getD J.toNat default).abs who wait = ((S1.getD J.toNat default).abs, ⟨8, 0, emp⟩) := by
     unfold lTake
     simp only [hq1, hq2, hq3, hq4]
     repeat (first | rw [if_pos (by first | assumption | omega | exact .inl (by assumption) | exact .inr (by assumption))] | rw [if_neg (by first | assumption | omega | (rintro (h8 | h8) <;> simp_all; done))])
     all_goals rfl
   have hm : mTake (S1.map CLock.abs) t who wait = (S1.map CLock.abs, ⟨8, 0, emp⟩, 0) := by
     unfold mTake lIdx
     simp only [hJ, lgetD, List.length_map]
     rw [hlt]
     repeat (first | rw [if_pos (by first | assumption | omega)] | rw [if_neg (by first | assumption | omega | (intro h0; first | exact absurd h0 (by assumption) | (simp_all; done)))])
     all_goals (show ((S1.map CLock.abs).set J.toNat (S1.getD J.toNat default).abs, _, _) = _; rw [← lgetD, set_getD (by rw [List.length_map]; omega)])
   refine ⟨⟨A1, c1, S1⟩, ?_, ?_, hS.outS (y := (⟨A1, c1, S1⟩ : Sl CLock)) (out_locksG (.tail _ (.head _)) hS.res (fun x hx => ?_))⟩
   · rw [hm] <;> rfl
   · exact (congrArg Prod.fst hm).symm
   · exact ⟨hnm1 x hx, own_inL (.head _) hS.res hx⟩
 refine m_part2 (rowA 3 (S1.getD J.toNat default).line.A (S1.getD J.toNat default).line.c ((S1.getD J.toNat default).line.xs : List Int)) (ownL (lineR 3) (List.eraseIdx S1 J.toNat)) (ownL_get_fp (lineR 3) (i := J.toNat) (by omega)) (fun w h => ownL_get_p (lineR 3) (i := J.toNat) (by omega) w h) ?_
 refine Mi (pc (pIo 112 J J.toNat S1.length (.tail _ (.tail _ (.head _)))) (pFo 114 J.toNat 3 1 (.tail _ (.tail _ (.head _))))) (J := ?_)
 refine M1 (J := ?_)
 refine Mal (α := Int) 8 ([who]) (h63 := (by first | omega | (simp only [List.length_append, List.length_nil, List.length_cons]; omega))) (hb := (by first | omega | (simp only [List.length_append, List.length_nil, List.length_cons]; omega))) (J := ?_)
 intro A7 c7
 refine Mi (pIo 118 J J.toNat S1.length (.tail _ (.tail _ (.head _)))) (J := ?_)
 refine m_f2 ?_
 refine Ms J.toNat 3 (⟨(S1.getD J.toNat default).name, (S1.getD J.toNat default).holder, (S1.getD J.toNat default).fence, ⟨A7, c7, (S1.getD J.toNat default).line.xs ++ [who]⟩⟩ : CLock) (by omega) (J := ?_)
 intro L8 hL8 hlL8
 have hgL8 : L8.getD J.toNat default = (⟨(S1.getD J.toNat default).name, (S1.getD J.toNat default).holder, (S1.getD J.toNat default).fence, ⟨A7, c7, (S1.getD J.toNat default).line.xs ++ [who]⟩⟩ : CLock) := by rw [hL8]; exact getD_set (by omega)
 have hbL8 : L8 = List.set S1 J.toNat (⟨(S1.getD J.toNat default).name, (S1.getD J.toNat default).holder, (S1.getD J.toNat default).fence, ⟨A7, c7, (S1.getD J.toNat default).line.xs ++ [who]⟩⟩ : CLock) := by rw [hL8]
 refine Mda 5 [] [0] [rowA 115 A1 c1 (L8 : List CLock), rowA 3 A7 c7 ((S1.getD J.toNat default).line.xs ++ [who] : List Int), ownL (lineR 3) (List.eraseIdx S1 J.toNat)] Tryz_mixed (J := ?_)
 refine Mz (J := ?_)
 refine Mt [.slice A1 S1.length c1, .agg #[.int .i64 10, .int .i64 (S1.getD J.toNat default).holder, .string emp], .int .i64 0] fun bs w hS => ?_
 have hask0 : mAsk (S1.map CLock.abs) t who = 0 := by rw [hF1]; assumption
 rw [← hF1]
 have hq1 : (S1.getD J.toNat default).abs.holder = (S1.getD J.toNat default).holder := rfl
 have hq2 : (S1.getD J.toNat default).abs.fence = (S1.getD J.toNat default).fence := rfl
 have hq3 : (S1.getD J.toNat default).abs.line = (S1.getD J.toNat default).line.xs := rfl
 have hq4 : (S1.getD J.toNat default).abs.name = (S1.getD J.toNat default).name := rfl
 have hvx := setL_map hbL8
 have hlt : lTake (S1.getD J.toNat default).abs who wait = (((⟨(S1.getD J.toNat default).name, (S1.getD J.toNat default).holder, (S1.getD J.toNat default).fence, ⟨A7, c7, (S1.getD J.toNat default).line.xs ++ [who]⟩⟩ : CLock)).abs, ⟨10, (S1.getD J.toNat default).holder, emp⟩) := by
   unfold lTake
   simp only [hq1, hq2, hq3, hq4]
   repeat (first | rw [if_pos (by first | assumption | omega | exact .inl (by assumption) | exact .inr (by assumption))] | rw [if_neg (by first | assumption | omega | (rintro (h8 | h8) <;> simp_all; done))])
   all_goals rfl
 have hm : mTake (S1.map CLock.abs) t who wait = ((S1.map CLock.abs).set J.toNat ((⟨(S1.getD J.toNat default).name, (S1.getD J.toNat default).holder, (S1.getD J.toNat default).fence, ⟨A7, c7, (S1.getD J.toNat default).line.xs ++ [who]⟩⟩ : CLock)).abs, ⟨10, (S1.getD J.toNat default).holder, emp⟩, 0) := by
   unfold mTake lIdx
   simp only [hJ, lgetD, List.length_map]
   rw [hlt]
   repeat (first | rw [if_pos (by first | assumption | omega)] | rw [if_neg (by first | assumption | omega | (intro h0; first | exact absurd h0 (by assumption) | (simp_all; done)))])
   all_goals rfl
 refine ⟨⟨A1, c1, L8⟩, ?_, ?_, hS.outS (y := (⟨A1, c1, L8⟩ : Sl CLock)) (out_locksG (.head _) hS.res (fun x hx => ?_))⟩
 · have hll : S1.length = L8.length := by rw [hbL8, List.length_set]
   rw [hm]
   exact congrArg (fun q => Ending.returned (.tuple #[.slice A1 q c1, .agg #[.int .i64 10, .int .i64 (S1.getD J.toNat default).holder, .string emp], .int .i64 0])) hll
 · exact Eq.trans hvx (congrArg Prod.fst hm).symm
 · rw [hbL8] at hx
   rcases mem_set_ne hx with hx | hx
   · subst hx; exact ⟨hnm1 (S1.getD J.toNat default) (mem_of_getD (L := S1) (i := J.toNat) (by omega)), allR_row (.tail _ (.head _)) (hS.res _ (.tail _ (.head _))) (fun _ _ => trivial)⟩
   · exact ⟨hnm1 x (List.mem_of_mem_eraseIdx hx), own_inL (.tail _ (.tail _ (.head _))) hS.res hx⟩

theorem lock_Free {B : Nat → Prop} (s : Sl CLock) (t : ByteArray) (who : Int) (w : World) (hs : s.rd B w) (ht : t.size ≤ 9223372036854775807) : Calls Tryz.prog 85 #[.slice s.A s.n s.c, .string t, .int .i64 who] w fun e w' => ∃ y : Sl CLock, e = .returned (.tuple #[.slice y.A y.n y.c, .agg #[.int .i64 ((mFree (s.xs.map CLock.abs) t who).2.1).code, .int .i64 ((mFree (s.xs.map CLock.abs) t who).2.1).n, .string ((mFree (s.xs.map CLock.abs) t who).2.1).text], .int .i64 (mFree (s.xs.map CLock.abs) t who).2.2]) ∧ y.xs.map CLock.abs = (mFree (s.xs.map CLock.abs) t who).1 ∧ FreshS w w' y := by
 have oks := Sl.rd.ok hs
 have ncs := Sl.ok.nc oks
 have hns : s.n = s.xs.length := rfl
 refine M0 Tryz.func85 (J := ?_)
 by_cases h1 : mAsk (s.xs.map CLock.abs) t who = 0
 rotate_left
 · refine Mp (v := .tuple #[.slice none 0 0, .int .i64 0, .bool false, .int .i64 (mAsk (s.xs.map CLock.abs) t who)]) Tryz.call148 (fun bs w hS => (lock_begin s t who w (Sl.rd.kp hs hS.kp) (by first | assumption | omega | (simp only [emp_size]; omega))).mono (fun e w' h => (h.resolve_right (fun h9 => h1 h9.1)).2)) (J := ?_)
   refine Mdn (mAsk (s.xs.map CLock.abs) t who = 0) (T := fun h5 => ?_) (F := fun h5 => ?_)
   · exact absurd h5 h1
   refine Mt [.slice none 0 0, .agg #[.int .i64 0, .int .i64 0, .string emp], .int .i64 (mAsk (s.xs.map CLock.abs) t who)] fun bs w hS => ?_
   have hm : mFree (s.xs.map CLock.abs) t who = ([], zRep, mAsk (s.xs.map CLock.abs) t who) := by
     unfold mFree
     repeat (first | rw [if_pos (by first | assumption | omega)] | rw [if_neg (by first | assumption | omega | (intro h0; first | exact absurd h0 (by assumption) | (simp_all; done)))])
     all_goals rfl
   refine ⟨Sl.nil, ?_, ?_, hS.outS (Sl.rd_nil _ _)⟩
   · rw [hm] <;> rfl
   · rw [hm] <;> rfl
 refine Mf (σ := Sl CLock) (v := fun y1 => .tuple #[.slice y1.A y1.n y1.c, .int .i64 ((mBS (fun x : CLock => cmpS x.name t) s.xs : Nat) : Int), .bool (mBSf (fun x : CLock => cmpS x.name t) s.xs), .int .i64 0]) (F := fun y1 => y1.xs.map CLock.abs = s.xs.map CLock.abs) (r := fun y1 => locksR 115 3 y1) Tryz.call148 (fun bs w hS => (lock_begin s t who w (Sl.rd.kp hs hS.kp) (by first | assumption | omega | (simp only [emp_size]; omega))).mono (fun e w' h => (h.resolve_left (fun h9 => h9.1 h1)).2)) (J := ?_)
 rintro y1 hF1
 refine m_split2 ?_
 obtain ⟨A1, c1, S1⟩ := y1
 have hF1 : S1.map CLock.abs = s.xs.map CLock.abs := hF1
 refine m_perm (R' := [ownL (lineR 3) S1, rowA 115 A1 c1 (S1 : List CLock)]) (List.Perm.refl _) ?_
 have hnm1 := locks_names (y := (⟨A1, c1, S1⟩ : Sl CLock)) hs hF1
 have hlen1 : S1.length = s.xs.length := by simpa using congrArg List.length hF1
 refine m_know (F := ∀ i, i < S1.length → Rds.ok (S1.getD i default)) (fun bs w hS i hi => Rds.okof (B := anyB) (w := w) (own_eltL (hS.res _ (.head _)) hnm1 (mem_of_getD hi))) fun okown1 => ?_
 refine m_know (F := RowOk A1 c1 (S1 : List CLock)) (fun bs w hS => rowA_rok (hS.res _ (.tail _ (.head _)))) fun hrow1 => ?_
 have nchrow1 := hrow1.2
 have hask := mAsk_ok h1
 have hm1 : mLocks (S1.map CLock.abs) = 0 := by rw [hF1]; exact hask.1
 have hw1 := hask.2.2.1
 have hw2 := hask.2.2.2
 have hln5 : S1.length ≤ 5 := by have h9 := (mLocks_bd hm1).1; simpa using h9
 have hbsS : mBS (fun x : CLock => cmpS x.name t) s.xs = mBS (fun x : CLock => cmpS x.name t) S1 := mBS_abs (L := s.xs) (L2 := S1) (f := CLock.abs) (c := fun x : DLock => cmpS x.name t) rfl hF1.symm
 have hbfS : mBSf (fun x : CLock => cmpS x.name t) s.xs = mBSf (fun x : CLock => cmpS x.name t) S1 := mBSf_abs (L := s.xs) (L2 := S1) (f := CLock.abs) (c := fun x : DLock => cmpS x.name t) rfl hF1.symm
 rw [hbsS, hbfS]
 have hbs := bsf_lock (L := S1) hm1 t
 have hJb := mIdx_bd (fun x : DLock => decide (x.name = t)) (S1.map CLock.abs)
 rw [List.length_map] at hJb
 generalize hJ : mIdx (fun x : DLock => decide (x.name = t)) (S1.map CLock.abs) = J at hbs hJb
 have hkl := mBS_le (fun x : CLock => cmpS x.name t) S1
 generalize hk : mBS (fun x : CLock => cmpS x.name t) S1 = k at hbs hkl ⊢
 generalize hf : mBSf (fun x : CLock => cmpS x.name t) S1 = fb at hbs ⊢
 refine Mq 24 false rfl (J := ?_)
 refine Mbn (fb) (T := fun h2 => ?_) (F := fun h2 => ?_)
 rotate_left
 · have h0J := of_decide_eq_false (hbs.1.symm.trans h2)
   refine Mt [.slice A1 S1.length c1, .agg #[.int .i64 6, .int .i64 0, .string emp], .int .i64 0] fun bs w hS => ?_
   have hask0 : mAsk (S1.map CLock.abs) t who = 0 := by rw [hF1]; assumption
   rw [← hF1]
   have hq1 : (S1.getD k default).abs.holder = (S1.getD k default).holder := rfl
   have hq2 : (S1.getD k default).abs.fence = (S1.getD k default).fence := rfl
   have hq3 : (S1.getD k default).abs.line = (S1.getD k default).line.xs := rfl
   have hq4 : (S1.getD k default).abs.name = (S1.getD k default).name := rfl
   have hm : mFree (S1.map CLock.abs) t who = (S1.map CLock.abs, ⟨6, 0, emp⟩, 0) := by
     unfold mFree lIdx
     simp only [hJ, Int.toNat_natCast, lgetD, List.length_map]
     repeat (first | rw [if_pos (by first | assumption | omega)] | rw [if_neg (by first | assumption | omega | (intro h0; first | exact absurd h0 (by assumption) | (simp_all; done)))])
     all_goals rfl
   refine ⟨⟨A1, c1, S1⟩, ?_, ?_, hS.outS (y := (⟨A1, c1, S1⟩ : Sl CLock)) (out_locksG (.tail _ (.head _)) hS.res (fun x hx => ?_))⟩
   · rw [hm] <;> rfl
   · exact (congrArg Prod.fst hm).symm
   · exact ⟨hnm1 x hx, own_inL (.head _) hS.res hx⟩
 have hkJ := hbs.2 h2
 subst hkJ
 have hk5 := lock_all hm1 (k := k) (by omega)
 obtain ⟨hk51, hk52, hk53, hk54, hk55, hk56⟩ := hk5
 have hk7 : (S1.getD k default).line.n = (S1.getD k default).line.xs.length := rfl
 refine Mi (pc (pIo 33 (k : Int) k S1.length (.tail _ (.head _))) (pFo 37 k 3 1 (.tail _ (.head _)))) (J := ?_)
 refine Mp (v := .int .i64 (mIdx (fun z => decide (z = who)) ((S1.getD k default).line.xs.take (S1.getD k default).line.n))) Tryz.call138 (fun bs w hS => idx_ints (S1.getD k default).line (S1.getD k default).line.n who w (And.right (own_eltL (hS.res _ (.head _)) hnm1 (mem_of_getD (i := k) (by omega)))) (by omega)) (J := ?_)
 have hix : mIdx (fun z => decide (z = who)) ((S1.getD k default).line.xs.take (S1.getD k default).line.n) = mIdx (fun z => decide (z = who)) (S1.getD k default).line.xs := by rw [take_all (Nat.le_refl _)]
 rw [hix]
 have hIb := mIdx_bd (fun z => decide (z = who)) (S1.getD k default).line.xs
 generalize hI : mIdx (fun z => decide (z = who)) (S1.getD k default).line.xs = I at hIb ⊢
 refine Mi (pFo 50 k 1 1 (.tail _ (.head _))) (J := ?_)
 refine Md ((S1.getD k default).holder = who) (T := fun h3 => ?_) (F := fun h3 => ?_)
 · refine m_f1 ?_
   refine Mtu (σ := Unit) (v := fun _ => .tuple #[]) (F := fun _ => True) (r := fun _ => rowA 115 A1 c1 (S1.set k (passC (S1.getD k default)) : List CLock)) (vs := fun bs => [.pointer (some ((oad A1).add (k * 4)))]) Tryz.call140 (fun bs w hS => lock_pass (B := (· ∈ (lineR 3 (S1.getD k default)).fp)) A1 c1 S1 k w (hS.res _ (.head _)) hS.head1.2.2 (by omega) ⟨hnm1 _ (mem_of_getD (L := S1) (by omega)), Rr (hS.res _ (.tail _ (.head _)) (S1.getD k default) (mem_of_getD (L := S1) (by omega))) (fun b hb => hb) (fun _ _ => trivial)⟩ (fun b hb => hS.disj (r2 := ownL (lineR 3) S1) (.head _) b (List.mem_flatMap.2 ⟨(S1.getD k default), mem_of_getD (L := S1) (by omega), hb⟩)) ⟨by omega, by omega⟩) (J := ?_)
   rintro _ _
   obtain ⟨L4, hL4⟩ : ∃ M : List CLock, M = S1.set k (passC (S1.getD k default)) := ⟨_, rfl⟩
   rw [← hL4]
   have hlL4 : L4.length = S1.length := by rw [hL4, List.length_set]
   have hgL4 : L4.getD k default = passC (S1.getD k default) := by rw [hL4]; exact getD_set (by omega)
   refine Mda 9 [] [0] [rowA 115 A1 c1 (L4 : List CLock), ownL (lineR 3) S1] Tryz_mixed (J := ?_)
   refine Mih (pFk 73 k 1 1 hgL4 (.head _)) (J := ?_)
   refine Mz (J := ?_)
   refine Mt [.slice A1 S1.length c1, .agg #[.int .i64 0, .int .i64 (passC (S1.getD k default)).holder, .string emp], .int .i64 0] fun bs w hS => ?_
   have hask0 : mAsk (S1.map CLock.abs) t who = 0 := by rw [hF1]; assumption
   rw [← hF1]
   have hq1 : (S1.getD k default).abs.holder = (S1.getD k default).holder := rfl
   have hq2 : (S1.getD k default).abs.fence = (S1.getD k default).fence := rfl
   have hq3 : (S1.getD k default).abs.line = (S1.getD k default).line.xs := rfl
   have hq4 : (S1.getD k default).abs.name = (S1.getD k default).name := rfl
   have hvx := setL_map hL4
   have hpa := passC_abs (S1.getD k default)
   rw [hpa] at hvx
   have hlt : lFree (S1.getD k default).abs who = ((mPass (S1.getD k default).abs), ⟨0, (passC (S1.getD k default)).holder, emp⟩) := by
     unfold lFree
     simp only [hq1, hq2, hq3, hq4]
     repeat (first | rw [if_pos (by first | assumption | omega)] | rw [if_neg (by first | assumption | omega | (rw [hlh]; simp; done) | (intro h0; simp_all; done))])
     all_goals first | rfl | exact congrArg (fun h : Int => (mPass (S1.getD k default).abs, (⟨0, h, emp⟩ : DReply))) (congrArg DLock.holder hpa).symm
   have hm : mFree (S1.map CLock.abs) t who = ((S1.map CLock.abs).set k (mPass (S1.getD k default).abs), ⟨0, (passC (S1.getD k default)).holder, emp⟩, 0) := by
     unfold mFree lIdx
     simp only [hJ, Int.toNat_natCast, lgetD, List.length_map]
     rw [hlt]
     repeat (first | rw [if_pos (by first | assumption | omega)] | rw [if_neg (by first | assumption | omega | (intro h0; first | exact absurd h0 (by assumption) | (simp_all; done)))])
     all_goals rfl
   refine ⟨⟨A1, c1, L4⟩, ?_, ?_, hS.outS (y := (⟨A1, c1, L4⟩ : Sl CLock)) (out_locksG (.head _) hS.res (fun x hx => ?_))⟩
   · have hll : S1.length = L4.length := by rw [hL4, List.length_set]
     rw [hm]
     exact congrArg (fun q => Ending.returned (.tuple #[.slice A1 q c1, .agg #[.int .i64 0, .int .i64 (passC (S1.getD k default)).holder, .string emp], .int .i64 0])) hll
   · exact Eq.trans hvx (congrArg Prod.fst hm).symm
   · rw [hL4] at hx
     rcases mem_set hx with hx | hx
     · subst hx; have hP := passC_in (.tail _ (.head _)) hS.res (x := (S1.getD k default)) (mem_of_getD (L := S1) (i := k) (by omega)); exact ⟨by rw [hP.1]; exact hnm1 (S1.getD k default) (mem_of_getD (L := S1) (i := k) (by omega)), hP.2⟩
     · exact ⟨hnm1 x hx, own_inL (.tail _ (.head _)) hS.res hx⟩
 refine Md ((0 : Int) ≤ I) (T := fun h4 => ?_) (F := fun h4 => ?_)
 rotate_left
 · refine Mda 9 [] [0] [ownL (lineR 3) S1, rowA 115 A1 c1 (S1 : List CLock)] Tryz_mixed (J := ?_)
   refine Mih (pFo 44 k 1 1 (.tail _ (.head _))) (J := ?_)
   refine Mz (J := ?_)
   refine Mt [.slice A1 S1.length c1, .agg #[.int .i64 10, .int .i64 (S1.getD k default).holder, .string emp], .int .i64 0] fun bs w hS => ?_
   have hask0 : mAsk (S1.map CLock.abs) t who = 0 := by rw [hF1]; assumption
   rw [← hF1]
   have hq1 : (S1.getD k default).abs.holder = (S1.getD k default).holder := rfl
   have hq2 : (S1.getD k default).abs.fence = (S1.getD k default).fence := rfl
   have hq3 : (S1.getD k default).abs.line = (S1.getD k default).line.xs := rfl
   have hq4 : (S1.getD k default).abs.name = (S1.getD k default).name := rfl
   have hlh : lHas (S1.getD k default).abs who = false := by rw [has_idx]; show decide (0 ≤ mIdx _ (S1.getD k default).line.xs) = _; rw [hI]; exact decide_eq_false h4
   have hlt : lFree (S1.getD k default).abs who = ((S1.getD k default).abs, ⟨10, (S1.getD k default).holder, emp⟩) := by
     unfold lFree
     simp only [hq1, hq2, hq3, hq4]
     repeat (first | rw [if_pos (by first | assumption | omega)] | rw [if_neg (by first | assumption | omega | (rw [hlh]; simp; done) | (intro h0; simp_all; done))])
     all_goals first | rfl | exact congrArg (fun h : Int => (mPass (S1.getD k default).abs, (⟨0, h, emp⟩ : DReply))) (congrArg DLock.holder hpa).symm
   have hm : mFree (S1.map CLock.abs) t who = (S1.map CLock.abs, ⟨10, (S1.getD k default).holder, emp⟩, 0) := by
     unfold mFree lIdx
     simp only [hJ, Int.toNat_natCast, lgetD, List.length_map]
     rw [hlt]
     repeat (first | rw [if_pos (by first | assumption | omega)] | rw [if_neg (by first | assumption | omega | (intro h0; first | exact absurd h0 (by assumption) | (simp_all; done)))])
     all_goals (show ((S1.map CLock.abs).set k (S1.getD k default).abs, _, _) = _; rw [← lgetD, set_getD (by rw [List.length_map]; omega)])
   refine ⟨⟨A1, c1, S1⟩, ?_, ?_, hS.outS (y := (⟨A1, c1, S1⟩ : Sl CLock)) (out_locksG (.tail _ (.head _)) hS.res (fun x hx => ?_))⟩
   · rw [hm] <;> rfl
   · exact (congrArg Prod.fst hm).symm
   · exact ⟨hnm1 x hx, own_inL (.head _) hS.res hx⟩
 refine m_part2 (rowA 3 (S1.getD k default).line.A (S1.getD k default).line.c ((S1.getD k default).line.xs : List Int)) (ownL (lineR 3) (List.eraseIdx S1 k)) (ownL_get_fp (lineR 3) (i := k) (by omega)) (fun w h => ownL_get_p (lineR 3) (i := k) (by omega) w h) ?_
 refine Mi (pc (pFo 62 k 3 1 (.tail _ (.tail _ (.head _)))) (pR (I + 1))) (J := ?_)
 refine Mtu (σ := Unit) (v := fun _ => .slice (S1.getD k default).line.A ((S1.getD k default).line.xs.take I.toNat ++ (S1.getD k default).line.xs.drop (I.toNat + 1)).length (S1.getD k default).line.c) (F := fun _ => True) (r := fun _ => rowA 3 (S1.getD k default).line.A (S1.getD k default).line.c ((S1.getD k default).line.xs.take I.toNat ++ (S1.getD k default).line.xs.drop (I.toNat + 1) : List Int)) (vs := fun bs => [.slice (S1.getD k default).line.A (S1.getD k default).line.n (S1.getD k default).line.c, .int .i64 I, .int .i64 (I + 1)]) Tryz.call139 (fun bs w hS => (delR_Int (S1.getD k default).line.A (S1.getD k default).line.c (S1.getD k default).line.xs I.toNat (I.toNat + 1) _ _ w (hS.res _ (.head _)) hS.head1.2.2 (by omega) (by omega) (by first | omega | (simp only [Sl.n] at *; omega)) (by first | omega | (simp only [Sl.n] at *; omega))).mono (fun e w' ⟨h1, h2⟩ => ⟨(), h1, trivial, h2⟩)) (J := ?_)
 rintro _ _
 refine m_f2 ?_
 refine Ms k 3 (⟨(S1.getD k default).name, (S1.getD k default).holder, (S1.getD k default).fence, ⟨(S1.getD k default).line.A, (S1.getD k default).line.c, (S1.getD k default).line.xs.take I.toNat ++ (S1.getD k default).line.xs.drop (I.toNat + 1)⟩⟩ : CLock) (by omega) (J := ?_)
 intro L6 hL6 hlL6
 have hgL6 : L6.getD k default = (⟨(S1.getD k default).name, (S1.getD k default).holder, (S1.getD k default).fence, ⟨(S1.getD k default).line.A, (S1.getD k default).line.c, (S1.getD k default).line.xs.take I.toNat ++ (S1.getD k default).line.xs.drop (I.toNat + 1)⟩⟩ : CLock) := by rw [hL6]; exact getD_set (by omega)
 have hbL6 : L6 = List.set S1 k (⟨(S1.getD k default).name, (S1.getD k default).holder, (S1.getD k default).fence, ⟨(S1.getD k default).line.A, (S1.getD k default).line.c, (S1.getD k default).line.xs.take I.toNat ++ (S1.getD k default).line.xs.drop (I.toNat + 1)⟩⟩ : CLock) := by rw [hL6]
 refine Mda 9 [] [0] [rowA 115 A1 c1 (L6 : List CLock), rowA 3 (S1.getD k default).line.A (S1.getD k default).line.c ((S1.getD k default).line.xs.take I.toNat ++ (S1.getD k default).line.xs.drop (I.toNat + 1) : List Int), ownL (lineR 3) (List.eraseIdx S1 k)] Tryz_mixed (J := ?_)
 refine Mih (pFk 73 k 1 1 hgL6 (.head _)) (J := ?_)
 refine Mz (J := ?_)
 refine Mt [.slice A1 S1.length c1, .agg #[.int .i64 0, .int .i64 (S1.getD k default).holder, .string emp], .int .i64 0] fun bs w hS => ?_
 have hask0 : mAsk (S1.map CLock.abs) t who = 0 := by rw [hF1]; assumption
 rw [← hF1]
 have hq1 : (S1.getD k default).abs.holder = (S1.getD k default).holder := rfl
 have hq2 : (S1.getD k default).abs.fence = (S1.getD k default).fence := rfl
 have hq3 : (S1.getD k default).abs.line = (S1.getD k default).line.xs := rfl
 have hq4 : (S1.getD k default).abs.name = (S1.getD k default).name := rfl
 have hvx := setL_map hbL6
 have hlh : lHas (S1.getD k default).abs who = true := by rw [has_idx]; show decide (0 ≤ mIdx _ (S1.getD k default).line.xs) = _; rw [hI]; exact decide_eq_true h4
 have hul : (S1.getD k default).line.xs.take I.toNat ++ (S1.getD k default).line.xs.drop (I.toNat + 1) = unline (S1.getD k default).line.xs who := line_one' (d := (S1.getD k default).abs) hk53 (i := I.toNat) (by show mIdx _ (S1.getD k default).line.xs = _; rw [hI]; omega) rfl
 rw [show ((⟨(S1.getD k default).name, (S1.getD k default).holder, (S1.getD k default).fence, ⟨(S1.getD k default).line.A, (S1.getD k default).line.c, (S1.getD k default).line.xs.take I.toNat ++ (S1.getD k default).line.xs.drop (I.toNat + 1)⟩⟩ : CLock)).abs = (⟨(S1.getD k default).name, (S1.getD k default).holder, (S1.getD k default).fence, unline (S1.getD k default).line.xs who⟩ : DLock) from congrArg (fun l => (⟨(S1.getD k default).name, (S1.getD k default).holder, (S1.getD k default).fence, l⟩ : DLock)) hul] at hvx
 have hlt : lFree (S1.getD k default).abs who = (⟨(S1.getD k default).name, (S1.getD k default).holder, (S1.getD k default).fence, unline (S1.getD k default).line.xs who⟩, ⟨0, (S1.getD k default).holder, emp⟩) := by
   unfold lFree
   simp only [hq1, hq2, hq3, hq4]
   repeat (first | rw [if_pos (by first | assumption | omega)] | rw [if_neg (by first | assumption | omega | (rw [hlh]; simp; done) | (intro h0; simp_all; done))])
   all_goals first | rfl | exact congrArg (fun h : Int => (mPass (S1.getD k default).abs, (⟨0, h, emp⟩ : DReply))) (congrArg DLock.holder hpa).symm
 have hm : mFree (S1.map CLock.abs) t who = ((S1.map CLock.abs).set k ⟨(S1.getD k default).name, (S1.getD k default).holder, (S1.getD k default).fence, unline (S1.getD k default).line.xs who⟩, ⟨0, (S1.getD k default).holder, emp⟩, 0) := by
   unfold mFree lIdx
   simp only [hJ, Int.toNat_natCast, lgetD, List.length_map]
   rw [hlt]
   repeat (first | rw [if_pos (by first | assumption | omega)] | rw [if_neg (by first | assumption | omega | (intro h0; first | exact absurd h0 (by assumption) | (simp_all; done)))])
   all_goals rfl
 refine ⟨⟨A1, c1, L6⟩, ?_, ?_, hS.outS (y := (⟨A1, c1, L6⟩ : Sl CLock)) (out_locksG (.head _) hS.res (fun x hx => ?_))⟩
 · have hll : S1.length = L6.length := by rw [hbL6, List.length_set]
   rw [hm]
   exact congrArg (fun q => Ending.returned (.tuple #[.slice A1 q c1, .agg #[.int .i64 0, .int .i64 (S1.getD k default).holder, .string emp], .int .i64 0])) hll
 · exact Eq.trans hvx (congrArg Prod.fst hm).symm
 · rw [hbL6] at hx
   rcases mem_set_ne hx with hx | hx
   · subst hx; exact ⟨hnm1 (S1.getD k default) (mem_of_getD (L := S1) (i := k) (by omega)), allR_row (.tail _ (.head _)) (hS.res _ (.tail _ (.head _))) (fun _ _ => trivial)⟩
   · exact ⟨hnm1 x (List.mem_of_mem_eraseIdx hx), own_inL (.tail _ (.tail _ (.head _))) hS.res hx⟩

theorem ref_FreedOf {B : Nat → Prop} (s : Sl CLock) (t : ByteArray) (who : Int) (w : World) (hs : s.rd B w) (ht : t.size ≤ 9223372036854775807) : Calls Tryz.prog 39 #[.slice s.A s.n s.c, .string t, .int .i64 who] w fun e w' => ∃ y : Sl CLock, e = .returned (.tuple #[.slice y.A y.n y.c, .agg #[.int .i64 ((mFree (s.xs.map CLock.abs) t who).2.1).code, .int .i64 ((mFree (s.xs.map CLock.abs) t who).2.1).n, .string ((mFree (s.xs.map CLock.abs) t who).2.1).text], .int .i64 (mFree (s.xs.map CLock.abs) t who).2.2]) ∧ y.xs.map CLock.abs = (mFree (s.xs.map CLock.abs) t who).1 ∧ FreshS w w' y := by
 have oks := Sl.rd.ok hs
 have ncs := Sl.ok.nc oks
 have hns : s.n = s.xs.length := rfl
 refine M0 Tryz.func39 (J := ?_)
 refine Mp Tryz.call101 (fun bs w hS => ref_asked s t who w (Sl.rd.kp hs hS.kp) (by first | assumption | omega | (simp only [emp_size]; omega))) (J := ?_)
 refine Mdn (mAsk (s.xs.map CLock.abs) t who = 0) (T := fun h1 => ?_) (F := fun h1 => ?_)
 rotate_left
 · refine Mt [.slice none 0 0, .agg #[.int .i64 0, .int .i64 0, .string emp], .int .i64 (mAsk (s.xs.map CLock.abs) t who)] fun bs w hS => ?_
   have hm : mFree (s.xs.map CLock.abs) t who = ([], zRep, mAsk (s.xs.map CLock.abs) t who) := by
     unfold mFree
     repeat (first | rw [if_pos (by first | assumption | omega)] | rw [if_neg (by first | assumption | omega | (intro h0; first | exact absurd h0 (by assumption) | (simp_all; done)))])
     all_goals rfl
   refine ⟨Sl.nil, ?_, ?_, hS.outS (Sl.rd_nil _ _)⟩
   · rw [hm] <;> rfl
   · rw [hm] <;> rfl
 refine Mf (σ := Sl CLock) (v := fun y1 => .slice y1.A y1.n y1.c) (F := fun y1 => y1.xs.map CLock.abs = s.xs.map CLock.abs) (r := fun y1 => locksR 115 3 y1) Tryz.call18 (fun bs w hS => ref_LocksCopy s w (Sl.rd.kp hs hS.kp) (small_locks (mAsk_ok (by assumption)).1)) (J := ?_)
 rintro y1 hF1
 refine m_split2 ?_
 obtain ⟨A1, c1, S1⟩ := y1
 have hF1 : S1.map CLock.abs = s.xs.map CLock.abs := hF1
 refine m_perm (R' := [ownL (lineR 3) S1, rowA 115 A1 c1 (S1 : List CLock)]) (List.Perm.refl _) ?_
 have hnm1 := locks_names (y := (⟨A1, c1, S1⟩ : Sl CLock)) (hs) hF1
 have hlen1 : S1.length = s.xs.length := by simpa using congrArg List.length hF1
 refine m_know (F := ∀ i, i < S1.length → Rds.ok (S1.getD i default)) (fun bs w hS i hi => Rds.okof (B := anyB) (w := w) (own_eltL (hS.res _ (.head _)) hnm1 (mem_of_getD hi))) fun okown1 => ?_
 refine m_know (F := RowOk A1 c1 (S1 : List CLock)) (fun bs w hS => rowA_rok (hS.res _ (.tail _ (.head _)))) fun hrow1 => ?_
 have nchrow1 := hrow1.2
 have hask := mAsk_ok h1
 have hm1 : mLocks (S1.map CLock.abs) = 0 := by rw [hF1]; exact hask.1
 have hw1 := hask.2.2.1
 have hw2 := hask.2.2.2
 have hln5 : S1.length ≤ 5 := by have h9 := (mLocks_bd hm1).1; simpa using h9
 refine Mp (v := .int .i64 (mIdx (fun x : CLock => decide (x.name = t)) S1)) Tryz.call100 (fun bs w hS => tackroomref_lockAt (⟨A1, c1, S1⟩ : Sl CLock) t w (own_locks (hS.res _ (.head _)) (hS.res _ (.tail _ (.head _))) hnm1)) (J := ?_)
 have hJe : mIdx (fun x : CLock => decide (x.name = t)) S1 = mIdx (fun x : DLock => decide (x.name = t)) (S1.map CLock.abs) := mIdx_map CLock.abs (fun x : DLock => decide (x.name = t)) S1
 rw [hJe]
 have hJb := mIdx_bd (fun x : DLock => decide (x.name = t)) (S1.map CLock.abs)
 generalize hJ : mIdx (fun x : DLock => decide (x.name = t)) (S1.map CLock.abs) = J at hJb ⊢
 rw [List.length_map] at hJb
 refine Md (J < 0) (T := fun h2 => ?_) (F := fun h2 => ?_)
 · have h0J : ¬ 0 ≤ J := by omega
   refine Mt [.slice A1 S1.length c1, .agg #[.int .i64 6, .int .i64 0, .string emp], .int .i64 0] fun bs w hS => ?_
   have hask0 : mAsk (S1.map CLock.abs) t who = 0 := by rw [hF1]; assumption
   rw [← hF1]
   have hq1 : (S1.getD J.toNat default).abs.holder = (S1.getD J.toNat default).holder := rfl
   have hq2 : (S1.getD J.toNat default).abs.fence = (S1.getD J.toNat default).fence := rfl
   have hq3 : (S1.getD J.toNat default).abs.line = (S1.getD J.toNat default).line.xs := rfl
   have hq4 : (S1.getD J.toNat default).abs.name = (S1.getD J.toNat default).name := rfl
   have hm : mFree (S1.map CLock.abs) t who = (S1.map CLock.abs, ⟨6, 0, emp⟩, 0) := by
     unfold mFree lIdx
     simp only [hJ, lgetD, List.length_map]
     repeat (first | rw [if_pos (by first | assumption | omega)] | rw [if_neg (by first | assumption | omega | (intro h0; first | exact absurd h0 (by assumption) | (simp_all; done)))])
     all_goals rfl
   refine ⟨⟨A1, c1, S1⟩, ?_, ?_, hS.outS (y := (⟨A1, c1, S1⟩ : Sl CLock)) (out_locksG (.tail _ (.head _)) hS.res (fun x hx => ?_))⟩
   · rw [hm] <;> rfl
   · exact (congrArg Prod.fst hm).symm
   · exact ⟨hnm1 x hx, own_inL (.head _) hS.res hx⟩
 have h0J : 0 ≤ J := by omega
 have hk5 := lock_all hm1 (k := J.toNat) (by omega)
 obtain ⟨hk51, hk52, hk53, hk54, hk55, hk56⟩ := hk5
 have hk7 : (S1.getD J.toNat default).line.n = (S1.getD J.toNat default).line.xs.length := rfl
 refine Mi (pc (pIo 31 J J.toNat S1.length (.tail _ (.head _))) (pFo 33 J.toNat 1 1 (.tail _ (.head _)))) (J := ?_)
 refine Md ((S1.getD J.toNat default).holder = who) (T := fun h3 => ?_) (F := fun h3 => ?_)
 · refine Mi (pc (pIo 40 J J.toNat S1.length (.tail _ (.head _))) (pEo 41 J.toNat (.tail _ (.head _)))) (J := ?_)
   refine Mu (σ := CLock) (v := fun y3 => .agg #[.string y3.name, .int .i64 y3.holder, .int .i64 y3.fence, .slice y3.line.A y3.line.n y3.line.c]) (F := fun y3 => y3.abs = mPass (S1.getD J.toNat default).abs) Tryz.call104 (fun bs w hS => ref_passed (S1.getD J.toNat default) w (own_eltL (hS.res _ (.head _)) hnm1 (mem_of_getD (i := J.toNat) (by omega))) ⟨by omega, by omega⟩ (by omega)) (J := ?_)
   rintro fp3 y3 hF3 hok3
   refine Mi (pIo 43 J J.toNat S1.length (.tail _ (.tail _ (.head _)))) (J := ?_)
   refine m_f2 ?_
   refine Ms J.toNat 0 (⟨y3.name, y3.holder, y3.fence, y3.line⟩ : CLock) (by omega) (J := ?_)
   intro L4 hL4 hlL4
   have hgL4 : L4.getD J.toNat default = (⟨y3.name, y3.holder, y3.fence, y3.line⟩ : CLock) := by rw [hL4]; exact getD_set (by omega)
   have hbL4 : L4 = List.set S1 J.toNat (⟨y3.name, y3.holder, y3.fence, y3.line⟩ : CLock) := by rw [hL4]
   refine Mda 10 [] [0] [rowA 115 A1 c1 (L4 : List CLock), subR fp3 y3, ownL (lineR 3) S1] Tryz_mixed (J := ?_)
   refine Mih (pc (pIo 72 J J.toNat S1.length (.head _)) (pFk 74 J.toNat 1 1 hgL4 (.head _))) (J := ?_)
   refine Mz (J := ?_)
   refine Mt [.slice A1 S1.length c1, .agg #[.int .i64 0, .int .i64 y3.holder, .string emp], .int .i64 0] fun bs w hS => ?_
   have hask0 : mAsk (S1.map CLock.abs) t who = 0 := by rw [hF1]; assumption
   rw [← hF1]
   have hq1 : (S1.getD J.toNat default).abs.holder = (S1.getD J.toNat default).holder := rfl
   have hq2 : (S1.getD J.toNat default).abs.fence = (S1.getD J.toNat default).fence := rfl
   have hq3 : (S1.getD J.toNat default).abs.line = (S1.getD J.toNat default).line.xs := rfl
   have hq4 : (S1.getD J.toNat default).abs.name = (S1.getD J.toNat default).name := rfl
   have hvx := setL_map hbL4
   rw [show ((⟨y3.name, y3.holder, y3.fence, y3.line⟩ : CLock)).abs = mPass (S1.getD J.toNat default).abs from hF3] at hvx
   have hpa := hF3
   have hlt : lFree (S1.getD J.toNat default).abs who = ((mPass (S1.getD J.toNat default).abs), ⟨0, y3.holder, emp⟩) := by
     unfold lFree
     simp only [hq1, hq2, hq3, hq4]
     repeat (first | rw [if_pos (by first | assumption | omega)] | rw [if_neg (by first | assumption | omega | (rw [hlh]; simp; done) | (intro h0; simp_all; done))])
     all_goals first | rfl | exact congrArg (fun h : Int => (mPass (S1.getD J.toNat default).abs, (⟨0, h, emp⟩ : DReply))) (congrArg DLock.holder hpa).symm
   have hm : mFree (S1.map CLock.abs) t who = ((S1.map CLock.abs).set J.toNat (mPass (S1.getD J.toNat default).abs), ⟨0, y3.holder, emp⟩, 0) := by
     unfold mFree lIdx
     simp only [hJ, lgetD, List.length_map]
     rw [hlt]
     repeat (first | rw [if_pos (by first | assumption | omega)] | rw [if_neg (by first | assumption | omega | (intro h0; first | exact absurd h0 (by assumption) | (simp_all; done)))])
     all_goals rfl
   refine ⟨⟨A1, c1, L4⟩, ?_, ?_, hS.outS (y := (⟨A1, c1, L4⟩ : Sl CLock)) (out_locksG (.head _) hS.res (fun x hx => ?_))⟩
   · have hll : S1.length = L4.length := by rw [hbL4, List.length_set]
     rw [hm]
     exact congrArg (fun q => Ending.returned (.tuple #[.slice A1 q c1, .agg #[.int .i64 0, .int .i64 y3.holder, .string emp], .int .i64 0])) hll
   · exact Eq.trans hvx (congrArg Prod.fst hm).symm
   · rw [hbL4] at hx
     rcases mem_set hx with hx | hx
     · subst hx; exact allR_sub (y := y3) (.tail _ (.head _)) (hS.res _ (.tail _ (.head _)))
     · exact ⟨hnm1 x hx, own_inL (.tail _ (.tail _ (.head _))) hS.res hx⟩
 refine Mi (pc (pIo 46 J J.toNat S1.length (.tail _ (.head _))) (pFo 48 J.toNat 3 1 (.tail _ (.head _)))) (J := ?_)
 refine Mp (v := .bool (((S1.getD J.toNat default).line.xs.take (S1.getD J.toNat default).line.n).any fun z => decide (z = who))) Tryz.call103 (fun bs w hS => ref_has (S1.getD J.toNat default).line (S1.getD J.toNat default).line.n who w (And.right (own_eltL (hS.res _ (.head _)) hnm1 (mem_of_getD (i := J.toNat) (by omega)))) (by omega)) (J := ?_)
 have hlh : (((S1.getD J.toNat default).line.xs.take (S1.getD J.toNat default).line.n).any fun z => decide (z = who)) = lHas (S1.getD J.toNat default).abs who := by rw [take_all (Nat.le_refl _)]; rfl
 rw [hlh]
 refine Mb (lHas (S1.getD J.toNat default).abs who) (T := fun h4 => ?_) (F := fun h4 => ?_)
 rotate_left
 · refine Mda 10 [] [0] [ownL (lineR 3) S1, rowA 115 A1 c1 (S1 : List CLock)] Tryz_mixed (J := ?_)
   refine Mih (pc (pIo 65 J J.toNat S1.length (.tail _ (.head _))) (pFo 67 J.toNat 1 1 (.tail _ (.head _)))) (J := ?_)
   refine Mz (J := ?_)
   refine Mt [.slice A1 S1.length c1, .agg #[.int .i64 10, .int .i64 (S1.getD J.toNat default).holder, .string emp], .int .i64 0] fun bs w hS => ?_
   have hask0 : mAsk (S1.map CLock.abs) t who = 0 := by rw [hF1]; assumption
   rw [← hF1]
   have hq1 : (S1.getD J.toNat default).abs.holder = (S1.getD J.toNat default).holder := rfl
   have hq2 : (S1.getD J.toNat default).abs.fence = (S1.getD J.toNat default).fence := rfl
   have hq3 : (S1.getD J.toNat default).abs.line = (S1.getD J.toNat default).line.xs := rfl
   have hq4 : (S1.getD J.toNat default).abs.name = (S1.getD J.toNat default).name := rfl
   have hlt : lFree (S1.getD J.toNat default).abs who = ((S1.getD J.toNat default).abs, ⟨10, (S1.getD J.toNat default).holder, emp⟩) := by
     unfold lFree
     simp only [hq1, hq2, hq3, hq4]
     repeat (first | rw [if_pos (by first | assumption | omega)] | rw [if_neg (by first | assumption | omega | (rw [hlh]; simp; done) | (intro h0; simp_all; done))])
     all_goals first | rfl | exact congrArg (fun h : Int => (mPass (S1.getD J.toNat default).abs, (⟨0, h, emp⟩ : DReply))) (congrArg DLock.holder hpa).symm
   have hm : mFree (S1.map CLock.abs) t who = (S1.map CLock.abs, ⟨10, (S1.getD J.toNat default).holder, emp⟩, 0) := by
     unfold mFree lIdx
     simp only [hJ, lgetD, List.length_map]
     rw [hlt]
     repeat (first | rw [if_pos (by first | assumption | omega)] | rw [if_neg (by first | assumption | omega | (intro h0; first | exact absurd h0 (by assumption) | (simp_all; done)))])
     all_goals (show ((S1.map CLock.abs).set J.toNat (S1.getD J.toNat default).abs, _, _) = _; rw [← lgetD, set_getD (by rw [List.length_map]; omega)])
   refine ⟨⟨A1, c1, S1⟩, ?_, ?_, hS.outS (y := (⟨A1, c1, S1⟩ : Sl CLock)) (out_locksG (.tail _ (.head _)) hS.res (fun x hx => ?_))⟩
   · rw [hm] <;> rfl
   · exact (congrArg Prod.fst hm).symm
   · exact ⟨hnm1 x hx, own_inL (.head _) hS.res hx⟩
 refine Mi (pc (pIo 55 J J.toNat S1.length (.tail _ (.head _))) (pFo 57 J.toNat 3 1 (.tail _ (.head _)))) (J := ?_)
 refine Mu (σ := Sl Int) (v := fun y5 => .slice y5.A y5.n y5.c) (F := fun y5 => y5.xs = unline (S1.getD J.toNat default).line.xs who) Tryz.call105 (fun bs w hS => ref_unlined (S1.getD J.toNat default).line who w (And.right (own_eltL (hS.res _ (.head _)) hnm1 (mem_of_getD (i := J.toNat) (by omega)))) (by omega)) (J := ?_)
 rintro fp5 y5 hF5 hok5
 refine Mi (pIo 60 J J.toNat S1.length (.tail _ (.tail _ (.head _)))) (J := ?_)
 refine m_f2 ?_
 refine Ms J.toNat 3 (⟨(S1.getD J.toNat default).name, (S1.getD J.toNat default).holder, (S1.getD J.toNat default).fence, y5⟩ : CLock) (by omega) (J := ?_)
 intro L6 hL6 hlL6
 have hgL6 : L6.getD J.toNat default = (⟨(S1.getD J.toNat default).name, (S1.getD J.toNat default).holder, (S1.getD J.toNat default).fence, y5⟩ : CLock) := by rw [hL6]; exact getD_set (by omega)
 have hbL6 : L6 = List.set S1 J.toNat (⟨(S1.getD J.toNat default).name, (S1.getD J.toNat default).holder, (S1.getD J.toNat default).fence, y5⟩ : CLock) := by rw [hL6]
 refine Mda 10 [] [0] [rowA 115 A1 c1 (L6 : List CLock), subR fp5 y5, ownL (lineR 3) S1] Tryz_mixed (J := ?_)
 refine Mih (pc (pIo 72 J J.toNat S1.length (.head _)) (pFk 74 J.toNat 1 1 hgL6 (.head _))) (J := ?_)
 refine Mz (J := ?_)
 refine Mt [.slice A1 S1.length c1, .agg #[.int .i64 0, .int .i64 (S1.getD J.toNat default).holder, .string emp], .int .i64 0] fun bs w hS => ?_
 have hask0 : mAsk (S1.map CLock.abs) t who = 0 := by rw [hF1]; assumption
 rw [← hF1]
 have hq1 : (S1.getD J.toNat default).abs.holder = (S1.getD J.toNat default).holder := rfl
 have hq2 : (S1.getD J.toNat default).abs.fence = (S1.getD J.toNat default).fence := rfl
 have hq3 : (S1.getD J.toNat default).abs.line = (S1.getD J.toNat default).line.xs := rfl
 have hq4 : (S1.getD J.toNat default).abs.name = (S1.getD J.toNat default).name := rfl
 have hvx := setL_map hbL6
 rw [show ((⟨(S1.getD J.toNat default).name, (S1.getD J.toNat default).holder, (S1.getD J.toNat default).fence, y5⟩ : CLock)).abs = ⟨(S1.getD J.toNat default).name, (S1.getD J.toNat default).holder, (S1.getD J.toNat default).fence, unline (S1.getD J.toNat default).line.xs who⟩ from congrArg (fun l => (⟨(S1.getD J.toNat default).name, (S1.getD J.toNat default).holder, (S1.getD J.toNat default).fence, l⟩ : DLock)) hF5] at hvx
 have hlt : lFree (S1.getD J.toNat default).abs who = (⟨(S1.getD J.toNat default).name, (S1.getD J.toNat default).holder, (S1.getD J.toNat default).fence, unline (S1.getD J.toNat default).line.xs who⟩, ⟨0, (S1.getD J.toNat default).holder, emp⟩) := by
   unfold lFree
   simp only [hq1, hq2, hq3, hq4]
   repeat (first | rw [if_pos (by first | assumption | omega)] | rw [if_neg (by first | assumption | omega | (rw [hlh]; simp; done) | (intro h0; simp_all; done))])
   all_goals first | rfl | exact congrArg (fun h : Int => (mPass (S1.getD J.toNat default).abs, (⟨0, h, emp⟩ : DReply))) (congrArg DLock.holder hpa).symm
 have hm : mFree (S1.map CLock.abs) t who = ((S1.map CLock.abs).set J.toNat ⟨(S1.getD J.toNat default).name, (S1.getD J.toNat default).holder, (S1.getD J.toNat default).fence, unline (S1.getD J.toNat default).line.xs who⟩, ⟨0, (S1.getD J.toNat default).holder, emp⟩, 0) := by
   unfold mFree lIdx
   simp only [hJ, lgetD, List.length_map]
   rw [hlt]
   repeat (first | rw [if_pos (by first | assumption | omega)] | rw [if_neg (by first | assumption | omega | (intro h0; first | exact absurd h0 (by assumption) | (simp_all; done)))])
   all_goals rfl
 refine ⟨⟨A1, c1, L6⟩, ?_, ?_, hS.outS (y := (⟨A1, c1, L6⟩ : Sl CLock)) (out_locksG (.head _) hS.res (fun x hx => ?_))⟩
 · have hll : S1.length = L6.length := by rw [hbL6, List.length_set]
   rw [hm]
   exact congrArg (fun q => Ending.returned (.tuple #[.slice A1 q c1, .agg #[.int .i64 0, .int .i64 (S1.getD J.toNat default).holder, .string emp], .int .i64 0])) hll
 · exact Eq.trans hvx (congrArg Prod.fst hm).symm
 · rw [hbL6] at hx
   rcases mem_set hx with hx | hx
   · subst hx; exact ⟨hnm1 (S1.getD J.toNat default) (mem_of_getD (L := S1) (i := J.toNat) (by omega)), allR_sub (y := y5) (.tail _ (.head _)) (hS.res _ (.tail _ (.head _)))⟩
   · exact ⟨hnm1 x hx, own_inL (.tail _ (.tail _ (.head _))) hS.res hx⟩

theorem log_CopyR {B : Nat → Prop} (x : CLog) (w : World) (hx : Rds.sub B w x) (hb : x.entries.n ≤ 1048576) : Calls Tryz.prog 112 #[.agg #[.int .i64 x.base, .slice x.entries.A x.entries.n x.entries.c]] w fun e w' => ∃ y : Sl ByteArray, e = .returned (.agg #[.int .i64 x.base, .slice y.A y.n y.c]) ∧ y.xs = x.entries.xs ∧ Kp [] w w' ∧ Fresh w w' (rowA 9 y.A y.c y.xs) := by
 have okx := Rds.okof hx
 have ncx := Sl.ok.nc okx
 have hnx : x.entries.n = x.entries.xs.length := rfl
 have hla : mLast x.abs = x.base + (x.entries.n : Int) := rfl
 have q1 : x.abs.base = x.base := rfl
 have q2 : x.abs.entries = x.entries.xs := rfl
 have hat : ∀ q, x.entries.xs.getD q default = x.entries.at q := fun _ => rfl
 refine M0 Tryz.func112 (J := ?_)
 refine Mda 6 [] [] [] Tryz_mixed (J := ?_)
 refine Mf Tryz.call157 (fun bs w hS => clone_ByteArray x.entries w (Rds.kp hx hS.kp) hb) (J := ?_)
 rintro y1 hF1
 exact Mt [.agg #[.int .i64 x.base, .slice y1.A y1.n y1.c]] fun bs w hS => ⟨y1, rfl, hF1, hS.kp, hS.out1⟩
theorem log_Copy {B : Nat → Prop} (x : CLog) (w : World) (hx : Rds.sub B w x) (hsm : Rds.small x) : Calls Tryz.prog 112 #[.agg #[.int .i64 x.base, .slice x.entries.A x.entries.n x.entries.c]] w fun e w' => ∃ y : CLog, e = .returned (y.val) ∧ y.abs = x.abs ∧ FreshS w w' y :=
  (log_CopyR x w hx hsm.1).mono fun e w' ⟨y, h1, h2, h3, h4⟩ => ⟨⟨x.base, y⟩, h1, by simp [CLog.abs, h2], h3, h4.sub fun hp => Rr hp (fun b hb => hb) fun z hz => Sl.rd.mem (s := x.entries) hx z (h2 ▸ hz)⟩

theorem ref_LogCopyR {B : Nat → Prop} (x : CLog) (w : World) (hx : Rds.sub B w x) (hb : x.entries.n ≤ 1048576) : Calls Tryz.prog 46 #[.agg #[.int .i64 x.base, .slice x.entries.A x.entries.n x.entries.c]] w fun e w' => ∃ y : Sl ByteArray, e = .returned (.agg #[.int .i64 x.base, .slice y.A y.n y.c]) ∧ y.xs = x.entries.xs ∧ Kp [] w w' ∧ Fresh w w' (rowA 9 y.A y.c y.xs) := by
 have okx := Rds.okof hx
 have ncx := Sl.ok.nc okx
 have hnx : x.entries.n = x.entries.xs.length := rfl
 have hla : mLast x.abs = x.base + (x.entries.n : Int) := rfl
 have q1 : x.abs.base = x.base := rfl
 have q2 : x.abs.entries = x.entries.xs := rfl
 have hat : ∀ q, x.entries.xs.getD q default = x.entries.at q := fun _ => rfl
 refine M0 Tryz.func46 (J := ?_)
 refine Mda 6 [] [] [] Tryz_mixed (J := ?_)
 refine m_rowA (α := ByteArray) 9 ?_
 refine Ma (α := ByteArray) (L2 := x.entries.xs) 16 (fun bs w hS => Sl.rd.src (s := x.entries) (Rds.kp hx hS.kp)) (h63 := (by simp only [List.length_nil]; omega)) (hb := (by simp only [List.length_nil]; omega)) (J := ?_)
 intro A1 c1
 exact Mt [.agg #[.int .i64 x.base, .slice A1 ([] ++ x.entries.xs).length c1]] fun bs w hS => ⟨⟨A1, c1, [] ++ x.entries.xs⟩, rfl, by simp, hS.kp, hS.out1⟩
theorem ref_LogCopy {B : Nat → Prop} (x : CLog) (w : World) (hx : Rds.sub B w x) (hsm : Rds.small x) : Calls Tryz.prog 46 #[.agg #[.int .i64 x.base, .slice x.entries.A x.entries.n x.entries.c]] w fun e w' => ∃ y : CLog, e = .returned (y.val) ∧ y.abs = x.abs ∧ FreshS w w' y :=
  (ref_LogCopyR x w hx hsm.1).mono fun e w' ⟨y, h1, h2, h3, h4⟩ => ⟨⟨x.base, y⟩, h1, by simp [CLog.abs, h2], h3, h4.sub fun hp => Rr hp (fun b hb => hb) fun z hz => Sl.rd.mem (s := x.entries) hx z (h2 ▸ hz)⟩

theorem snap_number (q : RQ) (b : Nat) (w : World) (hb : (blkR b 238 [.string q.1, .int .i64 q.2]).p w) (hz : q.1.size ≤ 9223372036854775807) : Calls Tryz.prog 222 #[.pointer (some (⟨b, 0, none⟩ : Addr))] w fun e w' => ∃ _ : Unit, e = .returned (.int .i64 (rNum q).1) ∧ True ∧ Kp [b] w w' ∧ (blkR b 238 [.string (rNum q).2.1, .int .i64 (rNum q).2.2]).p w' := by
 have hbm := mRead_bd q.1
 refine Mj Tryz.func222 (WS.start1 w _ hb (by simp [blkR]) (blkR_lt hb)) (J := ?_)
 refine Mi (pBk 9 1 1 (.head _)) (J := ?_)
 refine Mdn (q.2 = 0) (T := fun h1 => ?_) (F := fun h1 => ?_)
 rotate_left
 · refine Mt [.int .i64 0] fun bs w hS => ?_
   have hm : rNum q = (0, q) := by unfold rNum; rw [if_neg (by assumption)]
   rw [hm]
   exact ⟨(), rfl, trivial, hS.kp, hS.res _ (.head _)⟩
 refine Mi (pBk 15 0 1 (.head _)) (J := ?_)
 refine Mp (vs := fun bs => [.string q.1]) Tryz.call132 (fun bs w hS => codec_ReadNumber _ w hz) (J := ?_)
 refine Msb 0 [.string (mRead q.1).2.1, .int .i64 q.2] (J := ?_)
 refine Msb 1 [.string (mRead q.1).2.1, .int .i64 (mRead q.1).2.2] (J := ?_)
 refine Mt [.int .i64 (mRead q.1).1] fun bs w hS => ?_
 have hm : rNum q = ((mRead q.1).1, ((mRead q.1).2.1, (mRead q.1).2.2)) := by unfold rNum; rw [if_pos (by assumption)]
 rw [hm]
 exact ⟨(), rfl, trivial, hS.kp, hS.res _ (.head _)⟩

theorem snap_text_ (q : RQ) (b : Nat) (w : World) (hb : (blkR b 238 [.string q.1, .int .i64 q.2]).p w) (hz : q.1.size ≤ 9223372036854775807) : Calls Tryz.prog 225 #[.pointer (some (⟨b, 0, none⟩ : Addr))] w fun e w' => ∃ _ : Unit, e = .returned (.string (rTxt q).1) ∧ True ∧ Kp [b] w w' ∧ (blkR b 238 [.string (rTxt q).2.1, .int .i64 (rTxt q).2.2]).p w' := by
 refine Mj Tryz.func225 (WS.start1 w _ hb (by simp [blkR]) (blkR_lt hb)) (J := ?_)
 refine Mi (pBk 9 1 1 (.head _)) (J := ?_)
 refine Mdn (q.2 = 0) (T := fun h1 => ?_) (F := fun h1 => ?_)
 rotate_left
 · refine Mt [.string emp] fun bs w hS => ?_
   have hm : rTxt q = (emp, q) := by unfold rTxt; rw [if_neg (by assumption)]
   rw [hm]
   exact ⟨(), rfl, trivial, hS.kp, hS.res _ (.head _)⟩
 refine Mi (pBk 15 0 1 (.head _)) (J := ?_)
 refine Mp (vs := fun bs => [.string q.1]) Tryz.call133 (fun bs w hS => codec_ReadText _ w hz) (J := ?_)
 refine Msb 0 [.string (mTell q.1).2.1, .int .i64 q.2] (J := ?_)
 refine Msb 1 [.string (mTell q.1).2.1, .int .i64 (mTell q.1).2.2] (J := ?_)
 refine Mt [.string (mTell q.1).1] fun bs w hS => ?_
 have hm : rTxt q = ((mTell q.1).1, ((mTell q.1).2.1, (mTell q.1).2.2)) := by unfold rTxt; rw [if_pos (by assumption)]
 rw [hm]
 exact ⟨(), rfl, trivial, hS.kp, hS.res _ (.head _)⟩

theorem snap_count (q : RQ) (m : Int) (b : Nat) (w : World) (hb : (blkR b 238 [.string q.1, .int .i64 q.2]).p w) (hz : q.1.size ≤ 9223372036854775807) : Calls Tryz.prog 223 #[.pointer (some (⟨b, 0, none⟩ : Addr)), .int .i64 m] w fun e w' => ∃ _ : Unit, e = .returned (.int .i64 (rMany m q).1) ∧ True ∧ Kp [b] w w' ∧ (blkR b 238 [.string (rMany m q).2.1, .int .i64 (rMany m q).2.2]).p w' := by
 refine Mj Tryz.func223 (WS.start1 w _ hb (by simp [blkR]) (blkR_lt hb)) (J := ?_)
 refine Mtu (σ := Unit) (v := fun _ => .int .i64 (rNum q).1) (F := fun _ => True) (r := fun _ => blkR b 238 [.string (rNum q).2.1, .int .i64 (rNum q).2.2]) Tryz.call222 (fun bs w hS => (snap_number q b w (hS.res _ (.head _)) hz).mono (fun e w' ⟨y, h1, h2, h3, h4⟩ => ⟨y, h1, h2, h3, h4, (by simp [blkR]), fun x hx => .inl hx⟩)) (J := ?_)
 rintro y _
 refine Mi (pBk 11 1 1 (.head _)) (J := ?_)
 refine Md ((rNum q).2.2 = 0) (T := fun h1 => ?_) (F := fun h1 => ?_)
 rotate_left
 · refine Mi (pBk 24 1 1 (.head _)) (J := ?_)
   refine Mdn ((rNum q).2.2 = 0) (T := fun h4 => ?_) (F := fun h4 => ?_)
   · exact absurd h4 h1
   refine Mt [.int .i64 0] fun bs w hS => ?_
   have hm : rMany m q = (0, (rNum q).2) := by unfold rMany; rw [if_neg (by assumption)]
   rw [hm]
   exact ⟨(), rfl, trivial, hS.kp, hS.res _ (.head _)⟩
 refine Md (m < (rNum q).1) (T := fun h2 => ?_) (F := fun h2 => ?_)
 · refine Msb 1 [.string (rNum q).2.1, .int .i64 1] (J := ?_)
   refine Mi (pBk 24 1 1 (.head _)) (J := ?_)
   refine Mq 25 true rfl (J := ?_)
   refine Mt [.int .i64 0] fun bs w hS => ?_
   have hm : rMany m q = (0, ((rNum q).2.1, 1)) := by unfold rMany; rw [if_pos (by assumption), if_pos (by assumption)]
   rw [hm]
   exact ⟨(), rfl, trivial, hS.kp, hS.res _ (.head _)⟩
 refine Mi (pBk 24 1 1 (.head _)) (J := ?_)
 refine Mdn ((rNum q).2.2 = 0) (T := fun h3 => ?_) (F := fun h3 => ?_)
 rotate_left
 · exact absurd h1 h3
 refine Mt [.int .i64 (rNum q).1] fun bs w hS => ?_
 have hm : rMany m q = rNum q := by unfold rMany; rw [if_pos (by assumption), if_neg (by assumption)]
 rw [hm]
 exact ⟨(), rfl, trivial, hS.kp, hS.res _ (.head _)⟩

theorem ear_num (q : RQ) (b : Nat) (w : World) (hb : (blkR b 210 [.string q.1, .int .i64 q.2]).p w) (hz : q.1.size ≤ 9223372036854775807) : Calls Tryz.prog 159 #[.pointer (some (⟨b, 0, none⟩ : Addr))] w fun e w' => ∃ _ : Unit, e = .returned (.int .i64 (rNum q).1) ∧ True ∧ Kp [b] w w' ∧ (blkR b 210 [.string (rNum q).2.1, .int .i64 (rNum q).2.2]).p w' := by
 have hbm := mRead_bd q.1
 refine Mj Tryz.func159 (WS.start1 w _ hb (by simp [blkR]) (blkR_lt hb)) (J := ?_)
 refine Mi (pBk 9 1 1 (.head _)) (J := ?_)
 refine Mdn (q.2 = 0) (T := fun h1 => ?_) (F := fun h1 => ?_)
 rotate_left
 · refine Mt [.int .i64 0] fun bs w hS => ?_
   have hm : rNum q = (0, q) := by unfold rNum; rw [if_neg (by assumption)]
   rw [hm]
   exact ⟨(), rfl, trivial, hS.kp, hS.res _ (.head _)⟩
 refine Mi (pBk 15 0 1 (.head _)) (J := ?_)
 refine Mp (vs := fun bs => [.string q.1]) Tryz.call95 (fun bs w hS => ref_NumberOf _ w hz) (J := ?_)
 refine Msb 0 [.string (mRead q.1).2.1, .int .i64 q.2] (J := ?_)
 refine Msb 1 [.string (mRead q.1).2.1, .int .i64 (mRead q.1).2.2] (J := ?_)
 refine Mt [.int .i64 (mRead q.1).1] fun bs w hS => ?_
 have hm : rNum q = ((mRead q.1).1, ((mRead q.1).2.1, (mRead q.1).2.2)) := by unfold rNum; rw [if_pos (by assumption)]
 rw [hm]
 exact ⟨(), rfl, trivial, hS.kp, hS.res _ (.head _)⟩

theorem ear_str (q : RQ) (b : Nat) (w : World) (hb : (blkR b 210 [.string q.1, .int .i64 q.2]).p w) (hz : q.1.size ≤ 9223372036854775807) : Calls Tryz.prog 161 #[.pointer (some (⟨b, 0, none⟩ : Addr))] w fun e w' => ∃ _ : Unit, e = .returned (.string (rTxt q).1) ∧ True ∧ Kp [b] w w' ∧ (blkR b 210 [.string (rTxt q).2.1, .int .i64 (rTxt q).2.2]).p w' := by
 refine Mj Tryz.func161 (WS.start1 w _ hb (by simp [blkR]) (blkR_lt hb)) (J := ?_)
 refine Mi (pBk 9 1 1 (.head _)) (J := ?_)
 refine Mdn (q.2 = 0) (T := fun h1 => ?_) (F := fun h1 => ?_)
 rotate_left
 · refine Mt [.string emp] fun bs w hS => ?_
   have hm : rTxt q = (emp, q) := by unfold rTxt; rw [if_neg (by assumption)]
   rw [hm]
   exact ⟨(), rfl, trivial, hS.kp, hS.res _ (.head _)⟩
 refine Mi (pBk 15 0 1 (.head _)) (J := ?_)
 refine Mp (vs := fun bs => [.string q.1]) Tryz.call96 (fun bs w hS => ref_TextOf _ w hz) (J := ?_)
 refine Msb 0 [.string (mTell q.1).2.1, .int .i64 q.2] (J := ?_)
 refine Msb 1 [.string (mTell q.1).2.1, .int .i64 (mTell q.1).2.2] (J := ?_)
 refine Mt [.string (mTell q.1).1] fun bs w hS => ?_
 have hm : rTxt q = ((mTell q.1).1, ((mTell q.1).2.1, (mTell q.1).2.2)) := by unfold rTxt; rw [if_pos (by assumption)]
 rw [hm]
 exact ⟨(), rfl, trivial, hS.kp, hS.res _ (.head _)⟩

theorem ear_many (q : RQ) (m : Int) (b : Nat) (w : World) (hb : (blkR b 210 [.string q.1, .int .i64 q.2]).p w) (hz : q.1.size ≤ 9223372036854775807) : Calls Tryz.prog 160 #[.pointer (some (⟨b, 0, none⟩ : Addr)), .int .i64 m] w fun e w' => ∃ _ : Unit, e = .returned (.int .i64 (rMany m q).1) ∧ True ∧ Kp [b] w w' ∧ (blkR b 210 [.string (rMany m q).2.1, .int .i64 (rMany m q).2.2]).p w' := by
 refine Mj Tryz.func160 (WS.start1 w _ hb (by simp [blkR]) (blkR_lt hb)) (J := ?_)
 refine Mtu (σ := Unit) (v := fun _ => .int .i64 (rNum q).1) (F := fun _ => True) (r := fun _ => blkR b 210 [.string (rNum q).2.1, .int .i64 (rNum q).2.2]) Tryz.call159 (fun bs w hS => (ear_num q b w (hS.res _ (.head _)) hz).mono (fun e w' ⟨y, h1, h2, h3, h4⟩ => ⟨y, h1, h2, h3, h4, (by simp [blkR]), fun x hx => .inl hx⟩)) (J := ?_)
 rintro y _
 refine Mi (pBk 11 1 1 (.head _)) (J := ?_)
 refine Md ((rNum q).2.2 = 0) (T := fun h1 => ?_) (F := fun h1 => ?_)
 rotate_left
 · refine Mi (pBk 24 1 1 (.head _)) (J := ?_)
   refine Mdn ((rNum q).2.2 = 0) (T := fun h4 => ?_) (F := fun h4 => ?_)
   · exact absurd h4 h1
   refine Mt [.int .i64 0] fun bs w hS => ?_
   have hm : rMany m q = (0, (rNum q).2) := by unfold rMany; rw [if_neg (by assumption)]
   rw [hm]
   exact ⟨(), rfl, trivial, hS.kp, hS.res _ (.head _)⟩
 refine Md (m < (rNum q).1) (T := fun h2 => ?_) (F := fun h2 => ?_)
 · refine Msb 1 [.string (rNum q).2.1, .int .i64 1] (J := ?_)
   refine Mi (pBk 24 1 1 (.head _)) (J := ?_)
   refine Mq 25 true rfl (J := ?_)
   refine Mt [.int .i64 0] fun bs w hS => ?_
   have hm : rMany m q = (0, ((rNum q).2.1, 1)) := by unfold rMany; rw [if_pos (by assumption), if_pos (by assumption)]
   rw [hm]
   exact ⟨(), rfl, trivial, hS.kp, hS.res _ (.head _)⟩
 refine Mi (pBk 24 1 1 (.head _)) (J := ?_)
 refine Mdn ((rNum q).2.2 = 0) (T := fun h3 => ?_) (F := fun h3 => ?_)
 rotate_left
 · exact absurd h1 h3
 refine Mt [.int .i64 (rNum q).1] fun bs w hS => ?_
 have hm : rMany m q = rNum q := by unfold rMany; rw [if_pos (by assumption), if_neg (by assumption)]
 rw [hm]
 exact ⟨(), rfl, trivial, hS.kp, hS.res _ (.head _)⟩

theorem snap_lock (q : RQ) (b : Nat) (w : World) (hb : (blkR b 238 [.string q.1, .int .i64 q.2]).p w) (hz : q.1.size ≤ 9223372036854775807) : Calls Tryz.prog 224 #[.pointer (some (⟨b, 0, none⟩ : Addr))] w fun e w' => ∃ y : CLock, e = .returned (.agg #[.string y.name, .int .i64 y.holder, .int .i64 y.fence, .slice y.line.A y.line.n y.line.c]) ∧ (y.abs = (rLock q).1 ∧ y.name.size ≤ 9223372036854775807) ∧ TurnedN (blkR b 238 [.string q.1, .int .i64 q.2]) w w' (blkR b 238 [.string (rLock q).2.1, .int .i64 (rLock q).2.2]) (lineR 3 y) := by
 refine Mj Tryz.func224 (WS.start1 w _ hb (by simp [blkR]) (blkR_lt hb)) (J := ?_)
 refine Mtu (σ := Unit) (v := fun _ => .string (rTxt q).1) (F := fun _ => True) (r := fun _ => blkR b 238 [.string (rTxt q).2.1, .int .i64 (rTxt q).2.2]) Tryz.call225 (fun bs w hS => (snap_text_ q b w (hS.res _ (.head _)) hz).mono (fun e w' ⟨y, h1, h2, h3, h4⟩ => ⟨y, h1, h2, h3, h4, (by simp [blkR]), fun x hx => .inl hx⟩)) (J := ?_)
 rintro y _
 refine Mtu (σ := Unit) (v := fun _ => .int .i64 (rNum (rTxt q).2).1) (F := fun _ => True) (r := fun _ => blkR b 238 [.string (rNum (rTxt q).2).2.1, .int .i64 (rNum (rTxt q).2).2.2]) Tryz.call222 (fun bs w hS => (snap_number (rTxt q).2 b w (hS.res _ (.head _)) (rTxt_bd q _ hz).1).mono (fun e w' ⟨y, h1, h2, h3, h4⟩ => ⟨y, h1, h2, h3, h4, (by simp [blkR]), fun x hx => .inl hx⟩)) (J := ?_)
 rintro y _
 refine Mtu (σ := Unit) (v := fun _ => .int .i64 (rNum (rNum (rTxt q).2).2).1) (F := fun _ => True) (r := fun _ => blkR b 238 [.string (rNum (rNum (rTxt q).2).2).2.1, .int .i64 (rNum (rNum (rTxt q).2).2).2.2]) Tryz.call222 (fun bs w hS => (snap_number (rNum (rTxt q).2).2 b w (hS.res _ (.head _)) (rNum_bd (rTxt q).2 _ (rTxt_bd q _ hz).1)).mono (fun e w' ⟨y, h1, h2, h3, h4⟩ => ⟨y, h1, h2, h3, h4, (by simp [blkR]), fun x hx => .inl hx⟩)) (J := ?_)
 rintro y _
 refine Mtu (σ := Unit) (v := fun _ => .int .i64 (rMany 3 (rNum (rNum (rTxt q).2).2).2).1) (F := fun _ => True) (r := fun _ => blkR b 238 [.string (rMany 3 (rNum (rNum (rTxt q).2).2).2).2.1, .int .i64 (rMany 3 (rNum (rNum (rTxt q).2).2).2).2.2]) Tryz.call223 (fun bs w hS => (snap_count (rNum (rNum (rTxt q).2).2).2 3 b w (hS.res _ (.head _)) (rNum_bd (rNum (rTxt q).2).2 _ (rNum_bd (rTxt q).2 _ (rTxt_bd q _ hz).1))).mono (fun e w' ⟨y, h1, h2, h3, h4⟩ => ⟨y, h1, h2, h3, h4, (by simp [blkR]), fun x hx => .inl hx⟩)) (J := ?_)
 rintro y _
 have hmn5 := rMany_n 3 (by decide) (rNum (rNum (rTxt q).2).2).2
 refine m_rowA (α := Int) 3 ?_
 refine Ml (σ := Nat × Option Addr × Nat) (fun ⟨i0, A0x, c0x⟩ => i0 ≤ (rMany 3 (rNum (rNum (rTxt q).2).2).2).1.toNat) (fun ⟨i0, A0x, c0x⟩ => (rMany 3 (rNum (rNum (rTxt q).2).2).2).1.toNat - i0) (fun ⟨i0, A0x, c0x⟩ => [rowA 3 A0x c0x ((rIter rNum i0 (rMany 3 (rNum (rNum (rTxt q).2).2).2).2).1 : List Int), blkR b 238 [.string (rIter rNum i0 (rMany 3 (rNum (rNum (rTxt q).2).2).2).2).2.1, .int .i64 (rIter rNum i0 (rMany 3 (rNum (rNum (rTxt q).2).2).2).2).2.2]]) [13, 12, 3, 2, 0] (fun ⟨i0, A0x, c0x⟩ => [(13, vI (i0 : Int))]) (fun ⟨i0, A0x, c0x⟩ => [(1, [vS (rTxt q).1, vI (rNum (rTxt q).2).1, vI (rNum (rNum (rTxt q).2).2).1, .v (.slice A0x ((rIter rNum i0 (rMany 3 (rNum (rNum (rTxt q).2).2).2).2).1).length c0x)])]) (⟨0, none, 0⟩) (Nat.zero_le _) (B := ?_)
 rintro ⟨i0, A0x, c0x⟩ h0l _ on1
 have h0n : (rIter rNum i0 (rMany 3 (rNum (rNum (rTxt q).2).2).2).2).1.length = i0 := by exact rIter_len _ _ _
 refine Md ((i0 : Int) < (rMany 3 (rNum (rNum (rTxt q).2).2).2).1) (T := fun h1 => ?_) (F := fun h1 => ?_)
 rotate_left
 · have hx_i0 : i0 = (rMany 3 (rNum (rNum (rTxt q).2).2).2).1.toNat := by omega
   subst hx_i0
   refine Mt [.agg #[.string (rTxt q).1, .int .i64 (rNum (rTxt q).2).1, .int .i64 (rNum (rNum (rTxt q).2).2).1, .slice A0x ((rIter rNum (rMany 3 (rNum (rNum (rTxt q).2).2).2).1.toNat (rMany 3 (rNum (rNum (rTxt q).2).2).2).2).1).length c0x]] fun bs w hS => ?_
   have hS2 := hS.f1
   exact ⟨(⟨(rTxt q).1, (rNum (rTxt q).2).1, (rNum (rNum (rTxt q).2).2).1, ⟨A0x, c0x, (rIter rNum (rMany 3 (rNum (rNum (rTxt q).2).2).2).1.toNat (rMany 3 (rNum (rNum (rTxt q).2).2).2).2).1⟩⟩ : CLock), rfl, ⟨rfl, (rTxt_bd q _ hz).2⟩, (hS2.turnedN (fun _ h => h)).as (allR_one _ _) (allR_one_fp _)⟩
 refine Mda 5 [] [] [rowA 3 A0x c0x ((rIter rNum i0 (rMany 3 (rNum (rNum (rTxt q).2).2).2).2).1 : List Int)] Tryz_mixed (hR := (.cons_cons _ (.cons _ .slnil))) (J := ?_)
 refine m_f1 ?_
 refine Mtu (σ := Unit) (v := fun _ => .int .i64 (rNum (rIter rNum i0 (rMany 3 (rNum (rNum (rTxt q).2).2).2).2).2).1) (F := fun _ => True) (r := fun _ => blkR b 238 [.string (rNum (rIter rNum i0 (rMany 3 (rNum (rNum (rTxt q).2).2).2).2).2).2.1, .int .i64 (rNum (rIter rNum i0 (rMany 3 (rNum (rNum (rTxt q).2).2).2).2).2).2.2]) Tryz.call222 (fun bs w hS => (snap_number (rIter rNum i0 (rMany 3 (rNum (rNum (rTxt q).2).2).2).2).2 b w (hS.res _ (.head _)) (rIter_bd (B := 9223372036854775807) (fun q h => rNum_bd q _ h) i0 (rMany 3 (rNum (rNum (rTxt q).2).2).2).2 (rMany_bd 3 (rNum (rNum (rTxt q).2).2).2 _ (rNum_bd (rNum (rTxt q).2).2 _ (rNum_bd (rTxt q).2 _ (rTxt_bd q _ hz).1))))).mono (fun e w' ⟨y, h1, h2, h3, h4⟩ => ⟨y, h1, h2, h3, h4, (by simp [blkR]), fun x hx => .inl hx⟩)) (J := ?_)
 rintro y _
 refine M1 (hR := (.cons _ (List.Sublist.refl _))) (J := ?_)
 refine Mz (J := ?_)
 refine m_f1 ?_
 refine Mal (α := Int) 8 ([(rNum (rIter rNum i0 (rMany 3 (rNum (rNum (rTxt q).2).2).2).2).2).1]) (h63 := (by first | omega | (simp only [List.length_append, List.length_nil, List.length_cons, rIter_len]; omega))) (hb := (by first | omega | (simp only [List.length_append, List.length_nil, List.length_cons, rIter_len]; omega))) (J := ?_)
 intro A7 c7
 refine Mi (pR ((i0 : Int) + 1)) (J := ?_)
 refine m_f1 (m_f1 ?_)
 exact on1 (⟨i0 + 1, A7, c7⟩ : Nat × Option Addr × Nat) (by show i0 + 1 ≤ (rMany 3 (rNum (rNum (rTxt q).2).2).2).1.toNat; omega) (by show (rMany 3 (rNum (rNum (rTxt q).2).2).2).1.toNat - (i0 + 1) < (rMany 3 (rNum (rNum (rTxt q).2).2).2).1.toNat - i0; omega)

theorem snap_session (q : RQ) (b : Nat) (w : World) (hb : (blkR b 238 [.string q.1, .int .i64 q.2]).p w) (hz : q.1.size ≤ 9223372036854775807) : Calls Tryz.prog 226 #[.pointer (some (⟨b, 0, none⟩ : Addr))] w fun e w' => ∃ y : CSession, e = .returned (.agg #[.int .i64 y.client, .int .i64 y.id, .int .i64 y.acked, .int .i64 y.last, .slice y.replies.A y.replies.n y.replies.c]) ∧ (y.abs = (rSess q).1 ∧ ∀ k, k ∈ y.replies.xs → k.reply.text.size ≤ 9223372036854775807) ∧ TurnedN (blkR b 238 [.string q.1, .int .i64 q.2]) w w' (blkR b 238 [.string (rSess q).2.1, .int .i64 (rSess q).2.2]) (keptR 141 y) := by
 refine Mj Tryz.func226 (WS.start1 w _ hb (by simp [blkR]) (blkR_lt hb)) (J := ?_)
 refine Mtu (σ := Unit) (v := fun _ => .int .i64 (rNum q).1) (F := fun _ => True) (r := fun _ => blkR b 238 [.string (rNum q).2.1, .int .i64 (rNum q).2.2]) Tryz.call222 (fun bs w hS => (snap_number q b w (hS.res _ (.head _)) hz).mono (fun e w' ⟨y, h1, h2, h3, h4⟩ => ⟨y, h1, h2, h3, h4, (by simp [blkR]), fun x hx => .inl hx⟩)) (J := ?_)
 rintro y _
 refine Mtu (σ := Unit) (v := fun _ => .int .i64 (rNum (rNum q).2).1) (F := fun _ => True) (r := fun _ => blkR b 238 [.string (rNum (rNum q).2).2.1, .int .i64 (rNum (rNum q).2).2.2]) Tryz.call222 (fun bs w hS => (snap_number (rNum q).2 b w (hS.res _ (.head _)) (rNum_bd q _ hz)).mono (fun e w' ⟨y, h1, h2, h3, h4⟩ => ⟨y, h1, h2, h3, h4, (by simp [blkR]), fun x hx => .inl hx⟩)) (J := ?_)
 rintro y _
 refine Mtu (σ := Unit) (v := fun _ => .int .i64 (rNum (rNum (rNum q).2).2).1) (F := fun _ => True) (r := fun _ => blkR b 238 [.string (rNum (rNum (rNum q).2).2).2.1, .int .i64 (rNum (rNum (rNum q).2).2).2.2]) Tryz.call222 (fun bs w hS => (snap_number (rNum (rNum q).2).2 b w (hS.res _ (.head _)) (rNum_bd (rNum q).2 _ (rNum_bd q _ hz))).mono (fun e w' ⟨y, h1, h2, h3, h4⟩ => ⟨y, h1, h2, h3, h4, (by simp [blkR]), fun x hx => .inl hx⟩)) (J := ?_)
 rintro y _
 refine Mtu (σ := Unit) (v := fun _ => .int .i64 (rNum (rNum (rNum (rNum q).2).2).2).1) (F := fun _ => True) (r := fun _ => blkR b 238 [.string (rNum (rNum (rNum (rNum q).2).2).2).2.1, .int .i64 (rNum (rNum (rNum (rNum q).2).2).2).2.2]) Tryz.call222 (fun bs w hS => (snap_number (rNum (rNum (rNum q).2).2).2 b w (hS.res _ (.head _)) (rNum_bd (rNum (rNum q).2).2 _ (rNum_bd (rNum q).2 _ (rNum_bd q _ hz)))).mono (fun e w' ⟨y, h1, h2, h3, h4⟩ => ⟨y, h1, h2, h3, h4, (by simp [blkR]), fun x hx => .inl hx⟩)) (J := ?_)
 rintro y _
 refine Mtu (σ := Unit) (v := fun _ => .int .i64 (rMany 4 (rNum (rNum (rNum (rNum q).2).2).2).2).1) (F := fun _ => True) (r := fun _ => blkR b 238 [.string (rMany 4 (rNum (rNum (rNum (rNum q).2).2).2).2).2.1, .int .i64 (rMany 4 (rNum (rNum (rNum (rNum q).2).2).2).2).2.2]) Tryz.call223 (fun bs w hS => (snap_count (rNum (rNum (rNum (rNum q).2).2).2).2 4 b w (hS.res _ (.head _)) (rNum_bd (rNum (rNum (rNum q).2).2).2 _ (rNum_bd (rNum (rNum q).2).2 _ (rNum_bd (rNum q).2 _ (rNum_bd q _ hz))))).mono (fun e w' ⟨y, h1, h2, h3, h4⟩ => ⟨y, h1, h2, h3, h4, (by simp [blkR]), fun x hx => .inl hx⟩)) (J := ?_)
 rintro y _
 have hmn6 := rMany_n 4 (by decide) (rNum (rNum (rNum (rNum q).2).2).2).2
 refine m_rowA (α := DKept) 141 ?_
 refine Ml (σ := Nat × Option Addr × Nat) (fun ⟨i0, A0x, c0x⟩ => i0 ≤ (rMany 4 (rNum (rNum (rNum (rNum q).2).2).2).2).1.toNat ∧ ∀ x, x ∈ (rIter rKept i0 (rMany 4 (rNum (rNum (rNum (rNum q).2).2).2).2).2).1 → x.reply.text.size ≤ 9223372036854775807) (fun ⟨i0, A0x, c0x⟩ => (rMany 4 (rNum (rNum (rNum (rNum q).2).2).2).2).1.toNat - i0) (fun ⟨i0, A0x, c0x⟩ => [rowA 141 A0x c0x ((rIter rKept i0 (rMany 4 (rNum (rNum (rNum (rNum q).2).2).2).2).2).1 : List DKept), blkR b 238 [.string (rIter rKept i0 (rMany 4 (rNum (rNum (rNum (rNum q).2).2).2).2).2).2.1, .int .i64 (rIter rKept i0 (rMany 4 (rNum (rNum (rNum (rNum q).2).2).2).2).2).2.2]]) [15, 14, 3, 2, 0] (fun ⟨i0, A0x, c0x⟩ => [(15, vI (i0 : Int))]) (fun ⟨i0, A0x, c0x⟩ => [(1, [vI (rNum q).1, vI (rNum (rNum q).2).1, vI (rNum (rNum (rNum q).2).2).1, vI (rNum (rNum (rNum (rNum q).2).2).2).1, .v (.slice A0x ((rIter rKept i0 (rMany 4 (rNum (rNum (rNum (rNum q).2).2).2).2).2).1).length c0x)])]) (⟨0, none, 0⟩) ⟨(Nat.zero_le _), (fun x hx => by cases hx)⟩ (B := ?_)
 rintro ⟨i0, A0x, c0x⟩ ⟨h0l, h0s⟩ _ on1
 have h0n : (rIter rKept i0 (rMany 4 (rNum (rNum (rNum (rNum q).2).2).2).2).2).1.length = i0 := by exact rIter_len _ _ _
 refine Md ((i0 : Int) < (rMany 4 (rNum (rNum (rNum (rNum q).2).2).2).2).1) (T := fun h1 => ?_) (F := fun h1 => ?_)
 rotate_left
 · have hx_i0 : i0 = (rMany 4 (rNum (rNum (rNum (rNum q).2).2).2).2).1.toNat := by omega
   subst hx_i0
   refine Mt [.agg #[.int .i64 (rNum q).1, .int .i64 (rNum (rNum q).2).1, .int .i64 (rNum (rNum (rNum q).2).2).1, .int .i64 (rNum (rNum (rNum (rNum q).2).2).2).1, .slice A0x ((rIter rKept (rMany 4 (rNum (rNum (rNum (rNum q).2).2).2).2).1.toNat (rMany 4 (rNum (rNum (rNum (rNum q).2).2).2).2).2).1).length c0x]] fun bs w hS => ?_
   have hS2 := hS.f1
   exact ⟨(⟨(rNum q).1, (rNum (rNum q).2).1, (rNum (rNum (rNum q).2).2).1, (rNum (rNum (rNum (rNum q).2).2).2).1, ⟨A0x, c0x, (rIter rKept (rMany 4 (rNum (rNum (rNum (rNum q).2).2).2).2).1.toNat (rMany 4 (rNum (rNum (rNum (rNum q).2).2).2).2).2).1⟩⟩ : CSession), rfl, ⟨rfl, h0s⟩, (hS2.turnedN (fun _ h => h)).as (allR_one _ _) (allR_one_fp _)⟩
 refine Mda 13 [] [] [rowA 141 A0x c0x ((rIter rKept i0 (rMany 4 (rNum (rNum (rNum (rNum q).2).2).2).2).2).1 : List DKept)] Tryz_mixed (hR := (.cons_cons _ (.cons _ .slnil))) (J := ?_)
 refine m_f1 ?_
 refine Mtu (σ := Unit) (v := fun _ => .int .i64 (rNum (rIter rKept i0 (rMany 4 (rNum (rNum (rNum (rNum q).2).2).2).2).2).2).1) (F := fun _ => True) (r := fun _ => blkR b 238 [.string (rNum (rIter rKept i0 (rMany 4 (rNum (rNum (rNum (rNum q).2).2).2).2).2).2).2.1, .int .i64 (rNum (rIter rKept i0 (rMany 4 (rNum (rNum (rNum (rNum q).2).2).2).2).2).2).2.2]) Tryz.call222 (fun bs w hS => (snap_number (rIter rKept i0 (rMany 4 (rNum (rNum (rNum (rNum q).2).2).2).2).2).2 b w (hS.res _ (.head _)) (rIter_bd (B := 9223372036854775807) (fun q h => rKept_bd q _ h) i0 (rMany 4 (rNum (rNum (rNum (rNum q).2).2).2).2).2 (rMany_bd 4 (rNum (rNum (rNum (rNum q).2).2).2).2 _ (rNum_bd (rNum (rNum (rNum q).2).2).2 _ (rNum_bd (rNum (rNum q).2).2 _ (rNum_bd (rNum q).2 _ (rNum_bd q _ hz))))))).mono (fun e w' ⟨y, h1, h2, h3, h4⟩ => ⟨y, h1, h2, h3, h4, (by simp [blkR]), fun x hx => .inl hx⟩)) (J := ?_)
 rintro y _
 refine Mtu (σ := Unit) (v := fun _ => .int .i64 (rNum (rNum (rIter rKept i0 (rMany 4 (rNum (rNum (rNum (rNum q).2).2).2).2).2).2).2).1) (F := fun _ => True) (r := fun _ => blkR b 238 [.string (rNum (rNum (rIter rKept i0 (rMany 4 (rNum (rNum (rNum (rNum q).2).2).2).2).2).2).2).2.1, .int .i64 (rNum (rNum (rIter rKept i0 (rMany 4 (rNum (rNum (rNum (rNum q).2).2).2).2).2).2).2).2.2]) Tryz.call222 (fun bs w hS => (snap_number (rNum (rIter rKept i0 (rMany 4 (rNum (rNum (rNum (rNum q).2).2).2).2).2).2).2 b w (hS.res _ (.head _)) (rNum_bd (rIter rKept i0 (rMany 4 (rNum (rNum (rNum (rNum q).2).2).2).2).2).2 _ (rIter_bd (B := 9223372036854775807) (fun q h => rKept_bd q _ h) i0 (rMany 4 (rNum (rNum (rNum (rNum q).2).2).2).2).2 (rMany_bd 4 (rNum (rNum (rNum (rNum q).2).2).2).2 _ (rNum_bd (rNum (rNum (rNum q).2).2).2 _ (rNum_bd (rNum (rNum q).2).2 _ (rNum_bd (rNum q).2 _ (rNum_bd q _ hz)))))))).mono (fun e w' ⟨y, h1, h2, h3, h4⟩ => ⟨y, h1, h2, h3, h4, (by simp [blkR]), fun x hx => .inl hx⟩)) (J := ?_)
 rintro y _
 refine Mtu (σ := Unit) (v := fun _ => .int .i64 (rNum (rNum (rNum (rIter rKept i0 (rMany 4 (rNum (rNum (rNum (rNum q).2).2).2).2).2).2).2).2).1) (F := fun _ => True) (r := fun _ => blkR b 238 [.string (rNum (rNum (rNum (rIter rKept i0 (rMany 4 (rNum (rNum (rNum (rNum q).2).2).2).2).2).2).2).2).2.1, .int .i64 (rNum (rNum (rNum (rIter rKept i0 (rMany 4 (rNum (rNum (rNum (rNum q).2).2).2).2).2).2).2).2).2.2]) Tryz.call222 (fun bs w hS => (snap_number (rNum (rNum (rIter rKept i0 (rMany 4 (rNum (rNum (rNum (rNum q).2).2).2).2).2).2).2).2 b w (hS.res _ (.head _)) (rNum_bd (rNum (rIter rKept i0 (rMany 4 (rNum (rNum (rNum (rNum q).2).2).2).2).2).2).2 _ (rNum_bd (rIter rKept i0 (rMany 4 (rNum (rNum (rNum (rNum q).2).2).2).2).2).2 _ (rIter_bd (B := 9223372036854775807) (fun q h => rKept_bd q _ h) i0 (rMany 4 (rNum (rNum (rNum (rNum q).2).2).2).2).2 (rMany_bd 4 (rNum (rNum (rNum (rNum q).2).2).2).2 _ (rNum_bd (rNum (rNum (rNum q).2).2).2 _ (rNum_bd (rNum (rNum q).2).2 _ (rNum_bd (rNum q).2 _ (rNum_bd q _ hz))))))))).mono (fun e w' ⟨y, h1, h2, h3, h4⟩ => ⟨y, h1, h2, h3, h4, (by simp [blkR]), fun x hx => .inl hx⟩)) (J := ?_)
 rintro y _
 refine Mtu (σ := Unit) (v := fun _ => .string (rTxt (rNum (rNum (rNum (rIter rKept i0 (rMany 4 (rNum (rNum (rNum (rNum q).2).2).2).2).2).2).2).2).2).1) (F := fun _ => True) (r := fun _ => blkR b 238 [.string (rTxt (rNum (rNum (rNum (rIter rKept i0 (rMany 4 (rNum (rNum (rNum (rNum q).2).2).2).2).2).2).2).2).2).2.1, .int .i64 (rTxt (rNum (rNum (rNum (rIter rKept i0 (rMany 4 (rNum (rNum (rNum (rNum q).2).2).2).2).2).2).2).2).2).2.2]) Tryz.call225 (fun bs w hS => (snap_text_ (rNum (rNum (rNum (rIter rKept i0 (rMany 4 (rNum (rNum (rNum (rNum q).2).2).2).2).2).2).2).2).2 b w (hS.res _ (.head _)) (rNum_bd (rNum (rNum (rIter rKept i0 (rMany 4 (rNum (rNum (rNum (rNum q).2).2).2).2).2).2).2).2 _ (rNum_bd (rNum (rIter rKept i0 (rMany 4 (rNum (rNum (rNum (rNum q).2).2).2).2).2).2).2 _ (rNum_bd (rIter rKept i0 (rMany 4 (rNum (rNum (rNum (rNum q).2).2).2).2).2).2 _ (rIter_bd (B := 9223372036854775807) (fun q h => rKept_bd q _ h) i0 (rMany 4 (rNum (rNum (rNum (rNum q).2).2).2).2).2 (rMany_bd 4 (rNum (rNum (rNum (rNum q).2).2).2).2 _ (rNum_bd (rNum (rNum (rNum q).2).2).2 _ (rNum_bd (rNum (rNum q).2).2 _ (rNum_bd (rNum q).2 _ (rNum_bd q _ hz)))))))))).mono (fun e w' ⟨y, h1, h2, h3, h4⟩ => ⟨y, h1, h2, h3, h4, (by simp [blkR]), fun x hx => .inl hx⟩)) (J := ?_)
 rintro y _
 refine M1 (hR := (.cons _ (List.Sublist.refl _))) (J := ?_)
 refine Mz (J := ?_)
 refine m_f1 ?_
 refine Mal (α := DKept) 40 ([(⟨(rNum (rIter rKept i0 (rMany 4 (rNum (rNum (rNum (rNum q).2).2).2).2).2).2).1, ⟨(rNum (rNum (rIter rKept i0 (rMany 4 (rNum (rNum (rNum (rNum q).2).2).2).2).2).2).2).1, (rNum (rNum (rNum (rIter rKept i0 (rMany 4 (rNum (rNum (rNum (rNum q).2).2).2).2).2).2).2).2).1, (rTxt (rNum (rNum (rNum (rIter rKept i0 (rMany 4 (rNum (rNum (rNum (rNum q).2).2).2).2).2).2).2).2).2).1⟩⟩ : DKept)]) (h63 := (by first | omega | (simp only [List.length_append, List.length_nil, List.length_cons, rIter_len]; omega))) (hb := (by first | omega | (simp only [List.length_append, List.length_nil, List.length_cons, rIter_len]; omega))) (J := ?_)
 intro A11 c11
 refine Mi (pR ((i0 : Int) + 1)) (J := ?_)
 refine m_f1 (m_f1 ?_)
 exact on1 (⟨i0 + 1, A11, c11⟩ : Nat × Option Addr × Nat) ⟨(by show i0 + 1 ≤ (rMany 4 (rNum (rNum (rNum (rNum q).2).2).2).2).1.toNat; omega), (fun x hx => by rcases List.mem_append.1 hx with hx | hx; exact h0s x hx; rw [List.mem_singleton] at hx; subst hx; exact (rTxt_bd (rNum (rNum (rNum (rIter rKept i0 (rMany 4 (rNum (rNum (rNum (rNum q).2).2).2).2).2).2).2).2).2 _ (rNum_bd (rNum (rNum (rIter rKept i0 (rMany 4 (rNum (rNum (rNum (rNum q).2).2).2).2).2).2).2).2 _ (rNum_bd (rNum (rIter rKept i0 (rMany 4 (rNum (rNum (rNum (rNum q).2).2).2).2).2).2).2 _ (rNum_bd (rIter rKept i0 (rMany 4 (rNum (rNum (rNum (rNum q).2).2).2).2).2).2 _ (rIter_bd (B := 9223372036854775807) (fun q h => rKept_bd q _ h) i0 (rMany 4 (rNum (rNum (rNum (rNum q).2).2).2).2).2 (rMany_bd 4 (rNum (rNum (rNum (rNum q).2).2).2).2 _ (rNum_bd (rNum (rNum (rNum q).2).2).2 _ (rNum_bd (rNum (rNum q).2).2 _ (rNum_bd (rNum q).2 _ (rNum_bd q _ hz)))))))))).2)⟩ (by show (rMany 4 (rNum (rNum (rNum (rNum q).2).2).2).2).1.toNat - (i0 + 1) < (rMany 4 (rNum (rNum (rNum (rNum q).2).2).2).2).1.toNat - i0; omega)

theorem snap_state (q : RQ) (b : Nat) (w : World) (hb : (blkR b 238 [.string q.1, .int .i64 q.2]).p w) (hz : q.1.size ≤ 9223372036854775807) : Calls Tryz.prog 199 #[.pointer (some (⟨b, 0, none⟩ : Addr))] w fun e w' => ∃ y : List Nat × CState, e = .returned (.agg #[.int .i64 y.2.index, .slice y.2.locks.A y.2.locks.n y.2.locks.c, .slice y.2.pairs.A y.2.pairs.n y.2.pairs.c, .slice y.2.sessions.A y.2.sessions.n y.2.sessions.c]) ∧ (y.2.abs = (rState q).1 ∧ (∀ x, x ∈ y.2.locks.xs → x.name.size ≤ 9223372036854775807) ∧ (∀ x, x ∈ y.2.pairs.xs → x.name.size ≤ 9223372036854775807 ∧ x.value.size ≤ 9223372036854775807) ∧ ∀ x, x ∈ y.2.sessions.xs → ∀ k, k ∈ x.replies.xs → k.reply.text.size ≤ 9223372036854775807) ∧ TurnedN (blkR b 238 [.string q.1, .int .i64 q.2]) w w' (blkR b 238 [.string (rState q).2.1, .int .i64 (rState q).2.2]) (subR y.1 y.2) := by
 refine Mj Tryz.func199 (WS.start1 w _ hb (by simp [blkR]) (blkR_lt hb)) (J := ?_)
 refine Mtu (σ := Unit) (v := fun _ => .int .i64 (rNum q).1) (F := fun _ => True) (r := fun _ => blkR b 238 [.string (rNum q).2.1, .int .i64 (rNum q).2.2]) Tryz.call222 (fun bs w hS => (snap_number q b w (hS.res _ (.head _)) hz).mono (fun e w' ⟨y, h1, h2, h3, h4⟩ => ⟨y, h1, h2, h3, h4, (by simp [blkR]), fun x hx => .inl hx⟩)) (J := ?_)
 rintro y _
 refine Mtu (σ := Unit) (v := fun _ => .int .i64 (rMany 5 (rNum q).2).1) (F := fun _ => True) (r := fun _ => blkR b 238 [.string (rMany 5 (rNum q).2).2.1, .int .i64 (rMany 5 (rNum q).2).2.2]) Tryz.call223 (fun bs w hS => (snap_count (rNum q).2 5 b w (hS.res _ (.head _)) (rNum_bd q _ hz)).mono (fun e w' ⟨y, h1, h2, h3, h4⟩ => ⟨y, h1, h2, h3, h4, (by simp [blkR]), fun x hx => .inl hx⟩)) (J := ?_)
 rintro y _
 have hmn3 := rMany_n 5 (by decide) (rNum q).2
 refine m_rowA (α := CLock) 115 ?_
 refine m_nores (ownL (lineR 3) []) rfl (fun w x hx => by cases hx) ?_
 refine Ml (σ := Nat × Option Addr × Nat × List CLock) (fun ⟨i0, A0x, c0x, M0⟩ => i0 ≤ (rMany 5 (rNum q).2).1.toNat ∧ M0.map CLock.abs = (rIter rLock i0 (rMany 5 (rNum q).2).2).1 ∧ ∀ x, x ∈ M0 → x.name.size ≤ 9223372036854775807) (fun ⟨i0, A0x, c0x, M0⟩ => (rMany 5 (rNum q).2).1.toNat - i0) (fun ⟨i0, A0x, c0x, M0⟩ => [ownL (lineR 3) M0, rowA 115 A0x c0x (M0 : List CLock), blkR b 238 [.string (rIter rLock i0 (rMany 5 (rNum q).2).2).2.1, .int .i64 (rIter rLock i0 (rMany 5 (rNum q).2).2).2.2]]) [9, 8, 3, 2, 0] (fun ⟨i0, A0x, c0x, M0⟩ => [(9, vI (i0 : Int))]) (fun ⟨i0, A0x, c0x, M0⟩ => [(1, [vI (rNum q).1, .v (.slice A0x M0.length c0x), .v (.slice none 0 0), .v (.slice none 0 0)])]) (⟨0, none, 0, []⟩) ⟨(Nat.zero_le _), rfl, (fun x hx => by cases hx)⟩ (B := ?_)
 rintro ⟨i0, A0x, c0x, M0⟩ ⟨h0l, h0m, h0s⟩ _ on1
 have h0n : M0.length = i0 := by have h9 := congrArg List.length h0m; rw [List.length_map, rIter_len] at h9; exact h9
 refine Md ((i0 : Int) < (rMany 5 (rNum q).2).1) (T := fun h1 => ?_) (F := fun h1 => ?_)
 · refine Mda 5 [] [] [ownL (lineR 3) M0, rowA 115 A0x c0x (M0 : List CLock)] Tryz_mixed (hR := (.cons_cons _ (.cons_cons _ (.cons _ .slnil)))) (J := ?_)
   refine m_f2 ?_
   refine Mtn Tryz.call224 (fun bs w hS => snap_lock (rIter rLock i0 (rMany 5 (rNum q).2).2).2 b w (hS.res _ (.head _)) (rIter_bd (B := 9223372036854775807) (fun q h => rLock_bd q _ h) i0 (rMany 5 (rNum q).2).2 (rMany_bd 5 (rNum q).2 _ (rNum_bd q _ hz)))) (hR := fun _ => (.cons _ (.cons _ (List.Sublist.refl _)))) (J := ?_)
   rintro y4 hF4
   refine M1 (hR := (.cons _ (.cons _ (List.Sublist.refl _)))) (J := ?_)
   refine Mz (J := ?_)
   refine m_f3 ?_
   refine Mal (α := CLock) 56 ([(⟨y4.name, y4.holder, y4.fence, y4.line⟩ : CLock)]) (h63 := (by first | omega | (simp only [List.length_append, List.length_nil, List.length_cons, rIter_len]; omega))) (hb := (by first | omega | (simp only [List.length_append, List.length_nil, List.length_cons, rIter_len]; omega))) (J := ?_)
   intro A5 c5
   refine Mi (pR ((i0 : Int) + 1)) (J := ?_)
   refine m_f3 ?_
   refine m_f2 ?_
   refine m_join (ownL (lineR 3) (M0 ++ [(⟨y4.name, y4.holder, y4.fence, y4.line⟩ : CLock)])) (ownL_app_fp (lineR 3) M0 (⟨y4.name, y4.holder, y4.fence, y4.line⟩ : CLock)) (fun w => ownL_app_p (lineR 3) M0 (⟨y4.name, y4.holder, y4.fence, y4.line⟩ : CLock) w) ?_
   refine m_f2 (m_f2 (m_f2 ?_))
   exact on1 (⟨i0 + 1, A5, c5, M0 ++ [(⟨y4.name, y4.holder, y4.fence, y4.line⟩ : CLock)]⟩ : Nat × Option Addr × Nat × List CLock) ⟨(by show i0 + 1 ≤ (rMany 5 (rNum q).2).1.toNat; omega), (by rw [List.map_append, h0m]; exact congrArg (fun z => (rIter rLock i0 (rMany 5 (rNum q).2).2).1 ++ [z]) (show CLock.abs (⟨y4.name, y4.holder, y4.fence, y4.line⟩ : CLock) = (rLock (rIter rLock i0 (rMany 5 (rNum q).2).2).2).1 from hF4.1)), (fun x hx => by rcases List.mem_append.1 hx with hx | hx; exact h0s x hx; rw [List.mem_singleton] at hx; subst hx; exact hF4.2)⟩ (by show (rMany 5 (rNum q).2).1.toNat - (i0 + 1) < (rMany 5 (rNum q).2).1.toNat - i0; omega)
 have hx_i0 : i0 = (rMany 5 (rNum q).2).1.toNat := by omega
 subst hx_i0
 have hzQ0 := (rIter_bd (B := 9223372036854775807) (fun q h => rLock_bd q _ h) (rMany 5 (rNum q).2).1.toNat (rMany 5 (rNum q).2).2 (rMany_bd 5 (rNum q).2 _ (rNum_bd q _ hz)))
 try dsimp only
 generalize hQ0 : (rIter rLock (rMany 5 (rNum q).2).1.toNat (rMany 5 (rNum q).2).2) = Q0 at *
 refine m_f2 ?_
 refine Mtu (σ := Unit) (v := fun _ => .int .i64 (rMany 5 Q0.2).1) (F := fun _ => True) (r := fun _ => blkR b 238 [.string (rMany 5 Q0.2).2.1, .int .i64 (rMany 5 Q0.2).2.2]) Tryz.call223 (fun bs w hS => (snap_count Q0.2 5 b w (hS.res _ (.head _)) hzQ0).mono (fun e w' ⟨y, h1, h2, h3, h4⟩ => ⟨y, h1, h2, h3, h4, (by simp [blkR]), fun x hx => .inl hx⟩)) (J := ?_)
 rintro y _
 have hmn7 := rMany_n 5 (by decide) Q0.2
 refine m_rowA (α := DPair) 128 ?_
 refine Ml (σ := Nat × Option Addr × Nat) (fun ⟨i1, A1x, c1x⟩ => i1 ≤ (rMany 5 Q0.2).1.toNat ∧ ∀ x, x ∈ (rIter rPair i1 (rMany 5 Q0.2).2).1 → x.name.size ≤ 9223372036854775807 ∧ x.value.size ≤ 9223372036854775807) (fun ⟨i1, A1x, c1x⟩ => (rMany 5 Q0.2).1.toNat - i1) (fun ⟨i1, A1x, c1x⟩ => [rowA 128 A1x c1x ((rIter rPair i1 (rMany 5 Q0.2).2).1 : List DPair), blkR b 238 [.string (rIter rPair i1 (rMany 5 Q0.2).2).2.1, .int .i64 (rIter rPair i1 (rMany 5 Q0.2).2).2.2], ownL (lineR 3) M0, rowA 115 A0x c0x (M0 : List CLock)]) [21, 20, 3, 2, 0] (fun ⟨i1, A1x, c1x⟩ => [(21, vI (i1 : Int))]) (fun ⟨i1, A1x, c1x⟩ => [(1, [vI (rNum q).1, .v (.slice A0x M0.length c0x), .v (.slice A1x ((rIter rPair i1 (rMany 5 Q0.2).2).1).length c1x), .v (.slice none 0 0)])]) (⟨0, none, 0⟩) ⟨(Nat.zero_le _), (fun x hx => by cases hx)⟩ (B := ?_)
 rintro ⟨i1, A1x, c1x⟩ ⟨h1l, h1s⟩ _ on2
 have h1n : (rIter rPair i1 (rMany 5 Q0.2).2).1.length = i1 := by exact rIter_len _ _ _
 refine Md ((i1 : Int) < (rMany 5 Q0.2).1) (T := fun h2 => ?_) (F := fun h2 => ?_)
 · refine Mda 10 [] [] [rowA 128 A1x c1x ((rIter rPair i1 (rMany 5 Q0.2).2).1 : List DPair), ownL (lineR 3) M0, rowA 115 A0x c0x (M0 : List CLock)] Tryz_mixed (hR := (.cons_cons _ (.cons _ (List.Sublist.refl _)))) (J := ?_)
   refine m_f1 ?_
   refine Mtu (σ := Unit) (v := fun _ => .string (rTxt (rIter rPair i1 (rMany 5 Q0.2).2).2).1) (F := fun _ => True) (r := fun _ => blkR b 238 [.string (rTxt (rIter rPair i1 (rMany 5 Q0.2).2).2).2.1, .int .i64 (rTxt (rIter rPair i1 (rMany 5 Q0.2).2).2).2.2]) Tryz.call225 (fun bs w hS => (snap_text_ (rIter rPair i1 (rMany 5 Q0.2).2).2 b w (hS.res _ (.head _)) (rIter_bd (B := 9223372036854775807) (fun q h => rPair_bd q _ h) i1 (rMany 5 Q0.2).2 (rMany_bd 5 Q0.2 _ hzQ0))).mono (fun e w' ⟨y, h1, h2, h3, h4⟩ => ⟨y, h1, h2, h3, h4, (by simp [blkR]), fun x hx => .inl hx⟩)) (J := ?_)
   rintro y _
   refine Mtu (σ := Unit) (v := fun _ => .string (rTxt (rTxt (rIter rPair i1 (rMany 5 Q0.2).2).2).2).1) (F := fun _ => True) (r := fun _ => blkR b 238 [.string (rTxt (rTxt (rIter rPair i1 (rMany 5 Q0.2).2).2).2).2.1, .int .i64 (rTxt (rTxt (rIter rPair i1 (rMany 5 Q0.2).2).2).2).2.2]) Tryz.call225 (fun bs w hS => (snap_text_ (rTxt (rIter rPair i1 (rMany 5 Q0.2).2).2).2 b w (hS.res _ (.head _)) (rTxt_bd (rIter rPair i1 (rMany 5 Q0.2).2).2 _ (rIter_bd (B := 9223372036854775807) (fun q h => rPair_bd q _ h) i1 (rMany 5 Q0.2).2 (rMany_bd 5 Q0.2 _ hzQ0))).1).mono (fun e w' ⟨y, h1, h2, h3, h4⟩ => ⟨y, h1, h2, h3, h4, (by simp [blkR]), fun x hx => .inl hx⟩)) (J := ?_)
   rintro y _
   refine Mtu (σ := Unit) (v := fun _ => .int .i64 (rNum (rTxt (rTxt (rIter rPair i1 (rMany 5 Q0.2).2).2).2).2).1) (F := fun _ => True) (r := fun _ => blkR b 238 [.string (rNum (rTxt (rTxt (rIter rPair i1 (rMany 5 Q0.2).2).2).2).2).2.1, .int .i64 (rNum (rTxt (rTxt (rIter rPair i1 (rMany 5 Q0.2).2).2).2).2).2.2]) Tryz.call222 (fun bs w hS => (snap_number (rTxt (rTxt (rIter rPair i1 (rMany 5 Q0.2).2).2).2).2 b w (hS.res _ (.head _)) (rTxt_bd (rTxt (rIter rPair i1 (rMany 5 Q0.2).2).2).2 _ (rTxt_bd (rIter rPair i1 (rMany 5 Q0.2).2).2 _ (rIter_bd (B := 9223372036854775807) (fun q h => rPair_bd q _ h) i1 (rMany 5 Q0.2).2 (rMany_bd 5 Q0.2 _ hzQ0))).1).1).mono (fun e w' ⟨y, h1, h2, h3, h4⟩ => ⟨y, h1, h2, h3, h4, (by simp [blkR]), fun x hx => .inl hx⟩)) (J := ?_)
   rintro y _
   refine M1 (hR := (.cons _ (List.Sublist.refl _))) (J := ?_)
   refine Mz (J := ?_)
   refine m_f1 ?_
   refine Mal (α := DPair) 40 ([(⟨(rTxt (rIter rPair i1 (rMany 5 Q0.2).2).2).1, (rTxt (rTxt (rIter rPair i1 (rMany 5 Q0.2).2).2).2).1, (rNum (rTxt (rTxt (rIter rPair i1 (rMany 5 Q0.2).2).2).2).2).1⟩ : DPair)]) (h63 := (by first | omega | (simp only [List.length_append, List.length_nil, List.length_cons, rIter_len]; omega))) (hb := (by first | omega | (simp only [List.length_append, List.length_nil, List.length_cons, rIter_len]; omega))) (J := ?_)
   intro A11 c11
   refine Mi (pR ((i1 : Int) + 1)) (J := ?_)
   refine m_f3 (m_f3 (m_f3 (m_f3 ?_)))
   exact on2 (⟨i1 + 1, A11, c11⟩ : Nat × Option Addr × Nat) ⟨(by show i1 + 1 ≤ (rMany 5 Q0.2).1.toNat; omega), (fun x hx => by rcases List.mem_append.1 hx with hx | hx; exact h1s x hx; rw [List.mem_singleton] at hx; subst hx; exact ⟨(rTxt_bd (rIter rPair i1 (rMany 5 Q0.2).2).2 _ (rIter_bd (B := 9223372036854775807) (fun q h => rPair_bd q _ h) i1 (rMany 5 Q0.2).2 (rMany_bd 5 Q0.2 _ hzQ0))).2, (rTxt_bd (rTxt (rIter rPair i1 (rMany 5 Q0.2).2).2).2 _ (rTxt_bd (rIter rPair i1 (rMany 5 Q0.2).2).2 _ (rIter_bd (B := 9223372036854775807) (fun q h => rPair_bd q _ h) i1 (rMany 5 Q0.2).2 (rMany_bd 5 Q0.2 _ hzQ0))).1).2⟩)⟩ (by show (rMany 5 Q0.2).1.toNat - (i1 + 1) < (rMany 5 Q0.2).1.toNat - i1; omega)
 have hx_i1 : i1 = (rMany 5 Q0.2).1.toNat := by omega
 subst hx_i1
 have hzQ1 := (rIter_bd (B := 9223372036854775807) (fun q h => rPair_bd q _ h) (rMany 5 Q0.2).1.toNat (rMany 5 Q0.2).2 (rMany_bd 5 Q0.2 _ hzQ0))
 try dsimp only
 generalize hQ1 : (rIter rPair (rMany 5 Q0.2).1.toNat (rMany 5 Q0.2).2) = Q1 at *
 refine m_f1 ?_
 refine Mtu (σ := Unit) (v := fun _ => .int .i64 (rMany 4 Q1.2).1) (F := fun _ => True) (r := fun _ => blkR b 238 [.string (rMany 4 Q1.2).2.1, .int .i64 (rMany 4 Q1.2).2.2]) Tryz.call223 (fun bs w hS => (snap_count Q1.2 4 b w (hS.res _ (.head _)) hzQ1).mono (fun e w' ⟨y, h1, h2, h3, h4⟩ => ⟨y, h1, h2, h3, h4, (by simp [blkR]), fun x hx => .inl hx⟩)) (J := ?_)
 rintro y _
 have hmn13 := rMany_n 4 (by decide) Q1.2
 refine m_rowA (α := CSession) 118 ?_
 refine m_nores (ownL (keptR 141) []) rfl (fun w x hx => by cases hx) ?_
 refine Ml (σ := Nat × Option Addr × Nat × List CSession) (fun ⟨i2, A2x, c2x, M2⟩ => i2 ≤ (rMany 4 Q1.2).1.toNat ∧ M2.map CSession.abs = (rIter rSess i2 (rMany 4 Q1.2).2).1 ∧ ∀ x, x ∈ M2 → ∀ k, k ∈ x.replies.xs → k.reply.text.size ≤ 9223372036854775807) (fun ⟨i2, A2x, c2x, M2⟩ => (rMany 4 Q1.2).1.toNat - i2) (fun ⟨i2, A2x, c2x, M2⟩ => [ownL (keptR 141) M2, rowA 118 A2x c2x (M2 : List CSession), blkR b 238 [.string (rIter rSess i2 (rMany 4 Q1.2).2).2.1, .int .i64 (rIter rSess i2 (rMany 4 Q1.2).2).2.2], rowA 128 A1x c1x (Q1.1 : List DPair), ownL (lineR 3) M0, rowA 115 A0x c0x (M0 : List CLock)]) [38, 37, 3, 2, 0] (fun ⟨i2, A2x, c2x, M2⟩ => [(38, vI (i2 : Int))]) (fun ⟨i2, A2x, c2x, M2⟩ => [(1, [vI (rNum q).1, .v (.slice A0x M0.length c0x), .v (.slice A1x (Q1.1).length c1x), .v (.slice A2x M2.length c2x)])]) (⟨0, none, 0, []⟩) ⟨(Nat.zero_le _), rfl, (fun x hx => by cases hx)⟩ (B := ?_)
 rintro ⟨i2, A2x, c2x, M2⟩ ⟨h2l, h2m, h2s⟩ _ on3
 have h2n : M2.length = i2 := by have h9 := congrArg List.length h2m; rw [List.length_map, rIter_len] at h9; exact h9
 refine Md ((i2 : Int) < (rMany 4 Q1.2).1) (T := fun h3 => ?_) (F := fun h3 => ?_)
 rotate_left
 · have hx_i2 : i2 = (rMany 4 Q1.2).1.toNat := by omega
   subst hx_i2
   have hzQ2 := (rIter_bd (B := 9223372036854775807) (fun q h => rSess_bd q _ h) (rMany 4 Q1.2).1.toNat (rMany 4 Q1.2).2 (rMany_bd 4 Q1.2 _ hzQ1))
   try dsimp only
   generalize hQ2 : (rIter rSess (rMany 4 Q1.2).1.toNat (rMany 4 Q1.2).2) = Q2 at *
   refine Mt [.agg #[.int .i64 (rNum q).1, .slice A0x M0.length c0x, .slice A1x (Q1.1).length c1x, .slice A2x M2.length c2x]] fun bs w hS => ?_
   have hR := rState_of hQ0 hQ1 hQ2
   rw [hR]
   have hS2 := hS.f5.f5.f5.f4.f4.f5
   refine ⟨((allR [ownL (keptR 141) M2, rowA 118 A2x c2x (M2 : List CSession), rowA 128 A1x c1x (Q1.1 : List DPair), ownL (lineR 3) M0, rowA 115 A0x c0x (M0 : List CLock)]).fp, (⟨(rNum q).1, ⟨A0x, c0x, M0⟩, ⟨A1x, c1x, Q1.1⟩, ⟨A2x, c2x, M2⟩⟩ : CState)), rfl, ⟨?_, h0s, h1s, h2s⟩, (hS2.turnedN (fun _ h => h)).as (fun hp => ?_) rfl⟩
   · show CState.abs (⟨(rNum q).1, ⟨A0x, c0x, M0⟩, ⟨A1x, c1x, Q1.1⟩, ⟨A2x, c2x, M2⟩⟩ : CState) = _; simp only [CState.abs, h0m, h2m]
   · exact ⟨out_locks (.tail _ (.tail _ (.tail _ (.tail _ (.head _))))) (.tail _ (.tail _ (.tail _ (.head _)))) hp (fun x hx => hx) h0s, allR_row (.tail _ (.tail _ (.head _))) (hp _ (.tail _ (.tail _ (.head _)))) h1s, out_sess (.tail _ (.head _)) (.head _) hp (fun x hx => hx) h2s⟩
 refine Mda 5 [] [] [ownL (keptR 141) M2, rowA 118 A2x c2x (M2 : List CSession), rowA 128 A1x c1x (Q1.1 : List DPair), ownL (lineR 3) M0, rowA 115 A0x c0x (M0 : List CLock)] Tryz_mixed (hR := (.cons_cons _ (.cons_cons _ (.cons _ (List.Sublist.refl _))))) (J := ?_)
 refine m_f2 ?_
 refine Mtn Tryz.call226 (fun bs w hS => snap_session (rIter rSess i2 (rMany 4 Q1.2).2).2 b w (hS.res _ (.head _)) (rIter_bd (B := 9223372036854775807) (fun q h => rSess_bd q _ h) i2 (rMany 4 Q1.2).2 (rMany_bd 4 Q1.2 _ hzQ1))) (hR := fun _ => (.cons _ (.cons _ (List.Sublist.refl _)))) (J := ?_)
 rintro y14 hF14
 refine M1 (hR := (.cons _ (.cons _ (List.Sublist.refl _)))) (J := ?_)
 refine Mz (J := ?_)
 refine m_f3 ?_
 refine Mal (α := CSession) 56 ([(⟨y14.client, y14.id, y14.acked, y14.last, y14.replies⟩ : CSession)]) (h63 := (by first | omega | (simp only [List.length_append, List.length_nil, List.length_cons, rIter_len]; omega))) (hb := (by first | omega | (simp only [List.length_append, List.length_nil, List.length_cons, rIter_len]; omega))) (J := ?_)
 intro A15 c15
 refine Mi (pR ((i2 : Int) + 1)) (J := ?_)
 refine m_f3 ?_
 refine m_f2 ?_
 refine m_join (ownL (keptR 141) (M2 ++ [(⟨y14.client, y14.id, y14.acked, y14.last, y14.replies⟩ : CSession)])) (ownL_app_fp (keptR 141) M2 (⟨y14.client, y14.id, y14.acked, y14.last, y14.replies⟩ : CSession)) (fun w => ownL_app_p (keptR 141) M2 (⟨y14.client, y14.id, y14.acked, y14.last, y14.replies⟩ : CSession) w) ?_
 refine m_f5 (m_f5 (m_f5 (m_f5 (m_f5 (m_f5 ?_)))))
 exact on3 (⟨i2 + 1, A15, c15, M2 ++ [(⟨y14.client, y14.id, y14.acked, y14.last, y14.replies⟩ : CSession)]⟩ : Nat × Option Addr × Nat × List CSession) ⟨(by show i2 + 1 ≤ (rMany 4 Q1.2).1.toNat; omega), (by rw [List.map_append, h2m]; exact congrArg (fun z => (rIter rSess i2 (rMany 4 Q1.2).2).1 ++ [z]) (show CSession.abs (⟨y14.client, y14.id, y14.acked, y14.last, y14.replies⟩ : CSession) = (rSess (rIter rSess i2 (rMany 4 Q1.2).2).2).1 from hF14.1)), (fun x hx => by rcases List.mem_append.1 hx with hx | hx; exact h2s x hx; rw [List.mem_singleton] at hx; subst hx; exact hF14.2)⟩ (by show (rMany 4 Q1.2).1.toNat - (i2 + 1) < (rMany 4 Q1.2).1.toNat - i2; omega)

theorem snap_Decode (s : ByteArray) (w : World) (hs : s.size ≤ 9223372036854775807) : Calls Tryz.prog 156 #[.string s] w fun e w' => ∃ y : CState, e = .returned (.tuple #[.agg #[.int .i64 y.index, .slice y.locks.A y.locks.n y.locks.c, .slice y.pairs.A y.pairs.n y.pairs.c, .slice y.sessions.A y.sessions.n y.sessions.c], .int .i64 (mUnsnap s).2]) ∧ y.abs = (mUnsnap s).1 ∧ FreshS w w' y := by
 refine M0 Tryz.func156 (J := ?_)
 refine Md ((5000 : Int) < (s.size : Int)) (T := fun h1 => ?_) (F := fun h1 => ?_)
 · refine Mt [.agg #[.int .i64 0, .slice none 0 0, .slice none 0 0, .slice none 0 0], .int .i64 1] fun bs w hS => ?_
   have hm := unsnap_big (by assumption)
   refine ⟨⟨0, Sl.nil, Sl.nil, Sl.nil⟩, ?_, ?_, hS.outS (y := (⟨0, Sl.nil, Sl.nil, Sl.nil⟩ : CState)) ⟨Sl.rd_nil _ _, Sl.rd_nil _ _, Sl.rd_nil _ _⟩⟩
   · rw [hm]; rfl
   · rw [hm]; rfl
 refine Md ((s.size : Int) < 4) (T := fun h2 => ?_) (F := fun h2 => ?_)
 · refine Mt [.agg #[.int .i64 0, .slice none 0 0, .slice none 0 0, .slice none 0 0], .int .i64 5] fun bs w hS => ?_
   have hm := unsnap_small (by assumption) (by assumption)
   refine ⟨⟨0, Sl.nil, Sl.nil, Sl.nil⟩, ?_, ?_, hS.outS (y := (⟨0, Sl.nil, Sl.nil, Sl.nil⟩ : CState)) ⟨Sl.rd_nil _ _, Sl.rd_nil _ _, Sl.rd_nil _ _⟩⟩
   · rw [hm]; rfl
   · rw [hm]; rfl
 have hz0 : (s.extract 0 ((s.size : Int) - 4).toNat).size ≤ 9223372036854775807 := by rw [ByteArray.size_extract]; omega
 refine Mi (pR ((s.size : Int) - 4)) (J := ?_)
 refine Mda 8 [] [] [] Tryz_mixed (J := ?_)
 refine Mih (pc (pG [(21, .sl 0 ((s.size : Int) - 4).toNat)] (oc (rfl : 0 = 0) (oc ((by omega) : (s.size : Int) - 4 = ((((s.size : Int) - 4).toNat : Nat) : Int)) (oc ((by omega) : ((s.size : Int) - 4).toNat ≤ s.size) on)))) (pG [(25, .sl ((s.size : Int) - 4).toNat s.size)] (oc ((by omega) : (s.size : Int) - 4 = ((((s.size : Int) - 4).toNat : Nat) : Int)) (oc (rfl : s.size = s.size) (oc ((by omega) : ((s.size : Int) - 4).toNat ≤ s.size) on))))) (J := ?_)
 refine Mp (vs := fun bs => [.string (s.extract 0 ((s.size : Int) - 4).toNat)]) Tryz.call198 (fun bs w hS => codec_Seal _ w (by first | assumption | omega | (simp only [emp_size]; omega))) (J := ?_)
 refine Mdn ((mSeal (s.extract 0 ((s.size : Int) - 4).toNat)) = (s.extract ((s.size : Int) - 4).toNat s.size)) (T := fun h3 => ?_) (F := fun h3 => ?_)
 rotate_left
 · refine Mt [.agg #[.int .i64 0, .slice none 0 0, .slice none 0 0, .slice none 0 0], .int .i64 15] fun bs w hS => ?_
   have hm := unsnap_seal h1 h2 h3
   refine ⟨⟨0, Sl.nil, Sl.nil, Sl.nil⟩, ?_, ?_, hS.outS (y := (⟨0, Sl.nil, Sl.nil, Sl.nil⟩ : CState)) ⟨Sl.rd_nil _ _, Sl.rd_nil _ _, Sl.rd_nil _ _⟩⟩
   · rw [hm]; rfl
   · rw [hm]; rfl
 refine Mi (pG [(30, .sl 0 ((s.size : Int) - 4).toNat)] (oc (rfl : 0 = 0) (oc ((by omega) : (s.size : Int) - 4 = ((((s.size : Int) - 4).toNat : Nat) : Int)) (oc ((by omega) : ((s.size : Int) - 4).toNat ≤ s.size) on)))) (J := ?_)
 refine Mon 1 Tryz.call199 (fun bs w hS hb => snap_state (rIn s) (bs.getD 1 0) w hb hz0) (J := ?_)
 rintro y1 hF1
 refine m_know (F := Rds.ok y1.2) (fun bs w hS => Rds.okof (hS.res _ (.head _))) fun hok1 => ?_
 refine Md ((rState (rIn s)).2.2 = 0) (T := fun h4 => ?_) (F := fun h4 => ?_)
 rotate_left
 · refine Mdn ((rState (rIn s)).2.2 = 0) (T := fun h8 => ?_) (F := fun h8 => ?_)
   · exact absurd h8 h4
   refine Mda 7 [] [0] [subR y1.1 y1.2] Tryz_mixed (J := ?_)
   refine Mz (J := ?_)
   refine Mt [.agg #[.int .i64 0, .slice none 0 0, .slice none 0 0, .slice none 0 0], .int .i64 (rState (rIn s)).2.2] fun bs w hS => ?_
   have hm := unsnap_bad (q := (rIn s)) rfl rfl h1 h2 h3 h8
   refine ⟨⟨0, Sl.nil, Sl.nil, Sl.nil⟩, ?_, ?_, hS.outS (y := (⟨0, Sl.nil, Sl.nil, Sl.nil⟩ : CState)) ⟨Sl.rd_nil _ _, Sl.rd_nil _ _, Sl.rd_nil _ _⟩⟩
   · rw [hm]; rfl
   · rw [hm]; rfl
 refine Mdn ((rState (rIn s)).2.1 = emp) (T := fun h5 => ?_) (F := fun h5 => ?_)
 rotate_left
 · refine Mq 54 true rfl (J := ?_)
   refine Mda 7 [] [0] [subR y1.1 y1.2] Tryz_mixed (J := ?_)
   refine Mz (J := ?_)
   refine Mt [.agg #[.int .i64 0, .slice none 0 0, .slice none 0 0, .slice none 0 0], .int .i64 4] fun bs w hS => ?_
   have hm := unsnap_more (q := (rIn s)) rfl rfl h1 h2 h3 h4 h5
   refine ⟨⟨0, Sl.nil, Sl.nil, Sl.nil⟩, ?_, ?_, hS.outS (y := (⟨0, Sl.nil, Sl.nil, Sl.nil⟩ : CState)) ⟨Sl.rd_nil _ _, Sl.rd_nil _ _, Sl.rd_nil _ _⟩⟩
   · rw [hm]; rfl
   · rw [hm]; rfl
 refine Mdn ((rState (rIn s)).2.2 = 0) (T := fun h6 => ?_) (F := fun h6 => ?_)
 rotate_left
 · exact absurd h4 h6
 refine Mp Tryz.call20 (fun bs w hS => machine_Check y1.2 w (hS.res _ (.head _))) (J := ?_)
 refine Mdn (mState y1.2.abs = 0) (T := fun h7 => ?_) (F := fun h7 => ?_)
 rotate_left
 · refine Mt [.agg #[.int .i64 0, .slice none 0 0, .slice none 0 0, .slice none 0 0], .int .i64 (mState y1.2.abs)] fun bs w hS => ?_
   have hy : y1.2.abs = (rState (rIn s)).1 := hF1.1
   have hm := unsnap_fault (y := y1.2.abs) (q := (rIn s)) rfl rfl h1 h2 h3 h6 h5 hy h7
   refine ⟨⟨0, Sl.nil, Sl.nil, Sl.nil⟩, ?_, ?_, hS.outS (y := (⟨0, Sl.nil, Sl.nil, Sl.nil⟩ : CState)) ⟨Sl.rd_nil _ _, Sl.rd_nil _ _, Sl.rd_nil _ _⟩⟩
   · rw [hm]; rfl
   · rw [hm]; rfl
 refine Mt [.agg #[.int .i64 y1.2.index, .slice y1.2.locks.A y1.2.locks.n y1.2.locks.c, .slice y1.2.pairs.A y1.2.pairs.n y1.2.pairs.c, .slice y1.2.sessions.A y1.2.sessions.n y1.2.sessions.c], .int .i64 0] fun bs w hS => ?_
 have hy : y1.2.abs = (rState (rIn s)).1 := hF1.1
 have hm := unsnap_ok (y := y1.2.abs) (q := (rIn s)) rfl rfl h1 h2 h3 h6 h5 hy h7
 refine ⟨y1.2, ?_, ?_, hS.outS (y := y1.2) (allR_sub (.head _) (hS.res _ (.head _)))⟩
 · rw [hm]; rfl
 · rw [hm]

set_option maxHeartbeats 1600000 in
theorem ref_SnapOf (s : ByteArray) (w : World) (hs : s.size ≤ 9223372036854775807) : Calls Tryz.prog 114 #[.string s] w fun e w' => ∃ y : CState, e = .returned (.tuple #[.agg #[.int .i64 y.index, .slice y.locks.A y.locks.n y.locks.c, .slice y.pairs.A y.pairs.n y.pairs.c, .slice y.sessions.A y.sessions.n y.sessions.c], .int .i64 (mUnsnap s).2]) ∧ y.abs = (mUnsnap s).1 ∧ FreshS w w' y := by
 refine M0 Tryz.func114 (J := ?_)
 refine Md ((5000 : Int) < (s.size : Int)) (T := fun h1 => ?_) (F := fun h1 => ?_)
 · refine Mt [.agg #[.int .i64 0, .slice none 0 0, .slice none 0 0, .slice none 0 0], .int .i64 1] fun bs w hS => ?_
   have hm := unsnap_big (by assumption)
   refine ⟨⟨0, Sl.nil, Sl.nil, Sl.nil⟩, ?_, ?_, hS.outS (y := (⟨0, Sl.nil, Sl.nil, Sl.nil⟩ : CState)) ⟨Sl.rd_nil _ _, Sl.rd_nil _ _, Sl.rd_nil _ _⟩⟩
   · rw [hm]; rfl
   · rw [hm]; rfl
 refine Md ((s.size : Int) < 4) (T := fun h2 => ?_) (F := fun h2 => ?_)
 · refine Mt [.agg #[.int .i64 0, .slice none 0 0, .slice none 0 0, .slice none 0 0], .int .i64 5] fun bs w hS => ?_
   have hm := unsnap_small (by assumption) (by assumption)
   refine ⟨⟨0, Sl.nil, Sl.nil, Sl.nil⟩, ?_, ?_, hS.outS (y := (⟨0, Sl.nil, Sl.nil, Sl.nil⟩ : CState)) ⟨Sl.rd_nil _ _, Sl.rd_nil _ _, Sl.rd_nil _ _⟩⟩
   · rw [hm]; rfl
   · rw [hm]; rfl
 have hz0 : (s.extract 0 ((s.size : Int) - 4).toNat).size ≤ 9223372036854775807 := by rw [ByteArray.size_extract]; omega
 refine Mda 12 [] [] [] Tryz_mixed (J := ?_)
 refine Mih (pc (pR ((s.size : Int) - 4)) (pc (pG [(30, .sl 0 ((s.size : Int) - 4).toNat)] (oc (rfl : 0 = 0) (oc ((by omega) : (s.size : Int) - 4 = ((((s.size : Int) - 4).toNat : Nat) : Int)) (oc ((by omega) : ((s.size : Int) - 4).toNat ≤ s.size) on)))) (pc (pR ((s.size : Int) - 4)) (pG [(36, .sl ((s.size : Int) - 4).toNat s.size)] (oc ((by omega) : (s.size : Int) - 4 = ((((s.size : Int) - 4).toNat : Nat) : Int)) (oc (rfl : s.size = s.size) (oc ((by omega) : ((s.size : Int) - 4).toNat ≤ s.size) on))))))) (J := ?_)
 refine Mp (vs := fun bs => [.string (s.extract 0 ((s.size : Int) - 4).toNat)]) Tryz.call158 (fun bs w hS => ref_SealOf _ w (by first | assumption | omega | (simp only [emp_size]; omega))) (J := ?_)
 refine Mdn ((mSeal (s.extract 0 ((s.size : Int) - 4).toNat)) = (s.extract ((s.size : Int) - 4).toNat s.size)) (T := fun h3 => ?_) (F := fun h3 => ?_)
 rotate_left
 · refine Mt [.agg #[.int .i64 0, .slice none 0 0, .slice none 0 0, .slice none 0 0], .int .i64 15] fun bs w hS => ?_
   have hm := unsnap_seal h1 h2 h3
   refine ⟨⟨0, Sl.nil, Sl.nil, Sl.nil⟩, ?_, ?_, hS.outS (y := (⟨0, Sl.nil, Sl.nil, Sl.nil⟩ : CState)) ⟨Sl.rd_nil _ _, Sl.rd_nil _ _, Sl.rd_nil _ _⟩⟩
   · rw [hm]; rfl
   · rw [hm]; rfl
 refine Mi (pc (pR ((s.size : Int) - 4)) (pG [(43, .sl 0 ((s.size : Int) - 4).toNat)] (oc (rfl : 0 = 0) (oc ((by omega) : (s.size : Int) - 4 = ((((s.size : Int) - 4).toNat : Nat) : Int)) (oc ((by omega) : ((s.size : Int) - 4).toNat ≤ s.size) on))))) (J := ?_)
 refine Mo 1 Tryz.call159 (fun bs w hS hb => ear_num (rIn s) (bs.getD 1 0) w hb hz0) (J := ?_)
 rintro y _
 refine Mo 1 Tryz.call160 (fun bs w hS hb => ear_many (rNum (rIn s)).2 5 (bs.getD 1 0) w hb (rNum_bd (rIn s) _ hz0)) (J := ?_)
 rintro y _
 have hmn3 := rMany_n 5 (by decide) (rNum (rIn s)).2
 refine m_rowA (α := CLock) 115 ?_
 refine m_nores (ownL (lineR 3) []) rfl (fun w x hx => by cases hx) ?_
 refine Ml (σ := Nat × Option Addr × Nat × List CLock) (fun ⟨i0, A0x, c0x, M0⟩ => i0 ≤ (rMany 5 (rNum (rIn s)).2).1.toNat ∧ M0.map CLock.abs = (rIter rLock i0 (rMany 5 (rNum (rIn s)).2).2).1 ∧ ∀ x, x ∈ M0 → x.name.size ≤ 9223372036854775807) (fun ⟨i0, A0x, c0x, M0⟩ => (rMany 5 (rNum (rIn s)).2).1.toNat - i0) (fun ⟨i0, A0x, c0x, M0⟩ => [ownL (lineR 3) M0, rowA 115 A0x c0x (M0 : List CLock)]) [7, 6, 5, 4, 2] (fun ⟨i0, A0x, c0x, M0⟩ => [(7, vI (i0 : Int))]) (fun ⟨i0, A0x, c0x, M0⟩ => [(1, [vS (rIter rLock i0 (rMany 5 (rNum (rIn s)).2).2).2.1, vI (rIter rLock i0 (rMany 5 (rNum (rIn s)).2).2).2.2]), (2, [vI (rNum (rIn s)).1, .v (.slice A0x M0.length c0x), .v (.slice none 0 0), .v (.slice none 0 0)])]) (⟨0, none, 0, []⟩) ⟨(Nat.zero_le _), rfl, (fun x hx => by cases hx)⟩ (B := ?_)
 rintro ⟨i0, A0x, c0x, M0⟩ ⟨h0l, h0m, h0s⟩ _ on1
 have h0n : M0.length = i0 := by have h9 := congrArg List.length h0m; rw [List.length_map, rIter_len] at h9; exact h9
 refine Md ((i0 : Int) < (rMany 5 (rNum (rIn s)).2).1) (T := fun h4 => ?_) (F := fun h4 => ?_)
 · refine Mo 1 Tryz.call161 (fun bs w hS hb => ear_str (rIter rLock i0 (rMany 5 (rNum (rIn s)).2).2).2 (bs.getD 1 0) w hb (rIter_bd (B := 9223372036854775807) (fun q h => rLock_bd q _ h) i0 (rMany 5 (rNum (rIn s)).2).2 (rMany_bd 5 (rNum (rIn s)).2 _ (rNum_bd (rIn s) _ hz0)))) (J := ?_)
   rintro y _
   refine Mo 1 Tryz.call159 (fun bs w hS hb => ear_num (rTxt (rIter rLock i0 (rMany 5 (rNum (rIn s)).2).2).2).2 (bs.getD 1 0) w hb (rTxt_bd (rIter rLock i0 (rMany 5 (rNum (rIn s)).2).2).2 _ (rIter_bd (B := 9223372036854775807) (fun q h => rLock_bd q _ h) i0 (rMany 5 (rNum (rIn s)).2).2 (rMany_bd 5 (rNum (rIn s)).2 _ (rNum_bd (rIn s) _ hz0)))).1) (J := ?_)
   rintro y _
   refine Mo 1 Tryz.call159 (fun bs w hS hb => ear_num (rNum (rTxt (rIter rLock i0 (rMany 5 (rNum (rIn s)).2).2).2).2).2 (bs.getD 1 0) w hb (rNum_bd (rTxt (rIter rLock i0 (rMany 5 (rNum (rIn s)).2).2).2).2 _ (rTxt_bd (rIter rLock i0 (rMany 5 (rNum (rIn s)).2).2).2 _ (rIter_bd (B := 9223372036854775807) (fun q h => rLock_bd q _ h) i0 (rMany 5 (rNum (rIn s)).2).2 (rMany_bd 5 (rNum (rIn s)).2 _ (rNum_bd (rIn s) _ hz0)))).1)) (J := ?_)
   rintro y _
   refine Mo 1 Tryz.call160 (fun bs w hS hb => ear_many (rNum (rNum (rTxt (rIter rLock i0 (rMany 5 (rNum (rIn s)).2).2).2).2).2).2 3 (bs.getD 1 0) w hb (rNum_bd (rNum (rTxt (rIter rLock i0 (rMany 5 (rNum (rIn s)).2).2).2).2).2 _ (rNum_bd (rTxt (rIter rLock i0 (rMany 5 (rNum (rIn s)).2).2).2).2 _ (rTxt_bd (rIter rLock i0 (rMany 5 (rNum (rIn s)).2).2).2 _ (rIter_bd (B := 9223372036854775807) (fun q h => rLock_bd q _ h) i0 (rMany 5 (rNum (rIn s)).2).2 (rMany_bd 5 (rNum (rIn s)).2 _ (rNum_bd (rIn s) _ hz0)))).1))) (J := ?_)
   rintro y _
   have hmn8 := rMany_n 3 (by decide) (rNum (rNum (rTxt (rIter rLock i0 (rMany 5 (rNum (rIn s)).2).2).2).2).2).2
   refine m_rowA (α := Int) 3 ?_
   refine Ml (σ := Nat × Option Addr × Nat) (fun ⟨i1, A1x, c1x⟩ => i1 ≤ (rMany 3 (rNum (rNum (rTxt (rIter rLock i0 (rMany 5 (rNum (rIn s)).2).2).2).2).2).2).1.toNat) (fun ⟨i1, A1x, c1x⟩ => (rMany 3 (rNum (rNum (rTxt (rIter rLock i0 (rMany 5 (rNum (rIn s)).2).2).2).2).2).2).1.toNat - i1) (fun ⟨i1, A1x, c1x⟩ => [rowA 3 A1x c1x ((rIter rNum i1 (rMany 3 (rNum (rNum (rTxt (rIter rLock i0 (rMany 5 (rNum (rIn s)).2).2).2).2).2).2).2).1 : List Int), ownL (lineR 3) M0, rowA 115 A0x c0x (M0 : List CLock)]) [10, 9, 8, 7, 6, 5, 4, 2] (fun ⟨i1, A1x, c1x⟩ => [(10, vI (i1 : Int))]) (fun ⟨i1, A1x, c1x⟩ => [(1, [vS (rIter rNum i1 (rMany 3 (rNum (rNum (rTxt (rIter rLock i0 (rMany 5 (rNum (rIn s)).2).2).2).2).2).2).2).2.1, vI (rIter rNum i1 (rMany 3 (rNum (rNum (rTxt (rIter rLock i0 (rMany 5 (rNum (rIn s)).2).2).2).2).2).2).2).2.2]), (3, [vS (rTxt (rIter rLock i0 (rMany 5 (rNum (rIn s)).2).2).2).1, vI (rNum (rTxt (rIter rLock i0 (rMany 5 (rNum (rIn s)).2).2).2).2).1, vI (rNum (rNum (rTxt (rIter rLock i0 (rMany 5 (rNum (rIn s)).2).2).2).2).2).1, .v (.slice A1x ((rIter rNum i1 (rMany 3 (rNum (rNum (rTxt (rIter rLock i0 (rMany 5 (rNum (rIn s)).2).2).2).2).2).2).2).1).length c1x)])]) (⟨0, none, 0⟩) (Nat.zero_le _) (B := ?_)
   rintro ⟨i1, A1x, c1x⟩ h1l _ on2
   have h1n : (rIter rNum i1 (rMany 3 (rNum (rNum (rTxt (rIter rLock i0 (rMany 5 (rNum (rIn s)).2).2).2).2).2).2).2).1.length = i1 := by exact rIter_len _ _ _
   refine Md ((i1 : Int) < (rMany 3 (rNum (rNum (rTxt (rIter rLock i0 (rMany 5 (rNum (rIn s)).2).2).2).2).2).2).1) (T := fun h5 => ?_) (F := fun h5 => ?_)
   · refine Mda 5 [] [1] [rowA 3 A1x c1x ((rIter rNum i1 (rMany 3 (rNum (rNum (rTxt (rIter rLock i0 (rMany 5 (rNum (rIn s)).2).2).2).2).2).2).2).1 : List Int), ownL (lineR 3) M0, rowA 115 A0x c0x (M0 : List CLock)] Tryz_mixed (J := ?_)
     refine Mo 1 Tryz.call159 (fun bs w hS hb => ear_num (rIter rNum i1 (rMany 3 (rNum (rNum (rTxt (rIter rLock i0 (rMany 5 (rNum (rIn s)).2).2).2).2).2).2).2).2 (bs.getD 1 0) w hb (rIter_bd (B := 9223372036854775807) (fun q h => rNum_bd q _ h) i1 (rMany 3 (rNum (rNum (rTxt (rIter rLock i0 (rMany 5 (rNum (rIn s)).2).2).2).2).2).2).2 (rMany_bd 3 (rNum (rNum (rTxt (rIter rLock i0 (rMany 5 (rNum (rIn s)).2).2).2).2).2).2 _ (rNum_bd (rNum (rTxt (rIter rLock i0 (rMany 5 (rNum (rIn s)).2).2).2).2).2 _ (rNum_bd (rTxt (rIter rLock i0 (rMany 5 (rNum (rIn s)).2).2).2).2 _ (rTxt_bd (rIter rLock i0 (rMany 5 (rNum (rIn s)).2).2).2 _ (rIter_bd (B := 9223372036854775807) (fun q h => rLock_bd q _ h) i0 (rMany 5 (rNum (rIn s)).2).2 (rMany_bd 5 (rNum (rIn s)).2 _ (rNum_bd (rIn s) _ hz0)))).1))))) (J := ?_)
     rintro y _
     refine M1 (J := ?_)
     refine Mz (J := ?_)
     refine Mal (α := Int) 8 ([(rNum (rIter rNum i1 (rMany 3 (rNum (rNum (rTxt (rIter rLock i0 (rMany 5 (rNum (rIn s)).2).2).2).2).2).2).2).2).1]) (h63 := (by first | omega | (simp only [List.length_append, List.length_nil, List.length_cons, rIter_len]; omega))) (hb := (by first | omega | (simp only [List.length_append, List.length_nil, List.length_cons, rIter_len]; omega))) (J := ?_)
     intro A10 c10
     refine Mi (pR ((i1 : Int) + 1)) (J := ?_)
     refine m_f2 (m_f2 (m_f2 ?_))
     exact on2 (⟨i1 + 1, A10, c10⟩ : Nat × Option Addr × Nat) (by show i1 + 1 ≤ (rMany 3 (rNum (rNum (rTxt (rIter rLock i0 (rMany 5 (rNum (rIn s)).2).2).2).2).2).2).1.toNat; omega) (by show (rMany 3 (rNum (rNum (rTxt (rIter rLock i0 (rMany 5 (rNum (rIn s)).2).2).2).2).2).2).1.toNat - (i1 + 1) < (rMany 3 (rNum (rNum (rTxt (rIter rLock i0 (rMany 5 (rNum (rIn s)).2).2).2).2).2).2).1.toNat - i1; omega)
   have hx_i1 : i1 = (rMany 3 (rNum (rNum (rTxt (rIter rLock i0 (rMany 5 (rNum (rIn s)).2).2).2).2).2).2).1.toNat := by omega
   subst hx_i1
   refine M1 (J := ?_)
   refine m_f2 ?_
   refine Mal (α := CLock) 56 ([(⟨(rTxt (rIter rLock i0 (rMany 5 (rNum (rIn s)).2).2).2).1, (rNum (rTxt (rIter rLock i0 (rMany 5 (rNum (rIn s)).2).2).2).2).1, (rNum (rNum (rTxt (rIter rLock i0 (rMany 5 (rNum (rIn s)).2).2).2).2).2).1, ⟨A1x, c1x, (rIter rNum (rMany 3 (rNum (rNum (rTxt (rIter rLock i0 (rMany 5 (rNum (rIn s)).2).2).2).2).2).2).1.toNat (rMany 3 (rNum (rNum (rTxt (rIter rLock i0 (rMany 5 (rNum (rIn s)).2).2).2).2).2).2).2).1⟩⟩ : CLock)]) (h63 := (by first | omega | (simp only [List.length_append, List.length_nil, List.length_cons, rIter_len]; omega))) (hb := (by first | omega | (simp only [List.length_append, List.length_nil, List.length_cons, rIter_len]; omega))) (J := ?_)
   intro A11 c11
   refine Mi (pR ((i0 : Int) + 1)) (J := ?_)
   refine m_f2 ?_
   refine m_f2 ?_
   refine m_join (ownL (lineR 3) (M0 ++ [(⟨(rTxt (rIter rLock i0 (rMany 5 (rNum (rIn s)).2).2).2).1, (rNum (rTxt (rIter rLock i0 (rMany 5 (rNum (rIn s)).2).2).2).2).1, (rNum (rNum (rTxt (rIter rLock i0 (rMany 5 (rNum (rIn s)).2).2).2).2).2).1, ⟨A1x, c1x, (rIter rNum (rMany 3 (rNum (rNum (rTxt (rIter rLock i0 (rMany 5 (rNum (rIn s)).2).2).2).2).2).2).1.toNat (rMany 3 (rNum (rNum (rTxt (rIter rLock i0 (rMany 5 (rNum (rIn s)).2).2).2).2).2).2).2).1⟩⟩ : CLock)])) (ownL_app_fp (lineR 3) M0 (⟨(rTxt (rIter rLock i0 (rMany 5 (rNum (rIn s)).2).2).2).1, (rNum (rTxt (rIter rLock i0 (rMany 5 (rNum (rIn s)).2).2).2).2).1, (rNum (rNum (rTxt (rIter rLock i0 (rMany 5 (rNum (rIn s)).2).2).2).2).2).1, ⟨A1x, c1x, (rIter rNum (rMany 3 (rNum (rNum (rTxt (rIter rLock i0 (rMany 5 (rNum (rIn s)).2).2).2).2).2).2).1.toNat (rMany 3 (rNum (rNum (rTxt (rIter rLock i0 (rMany 5 (rNum (rIn s)).2).2).2).2).2).2).2).1⟩⟩ : CLock)) (fun w => ownL_app_p (lineR 3) M0 (⟨(rTxt (rIter rLock i0 (rMany 5 (rNum (rIn s)).2).2).2).1, (rNum (rTxt (rIter rLock i0 (rMany 5 (rNum (rIn s)).2).2).2).2).1, (rNum (rNum (rTxt (rIter rLock i0 (rMany 5 (rNum (rIn s)).2).2).2).2).2).1, ⟨A1x, c1x, (rIter rNum (rMany 3 (rNum (rNum (rTxt (rIter rLock i0 (rMany 5 (rNum (rIn s)).2).2).2).2).2).2).1.toNat (rMany 3 (rNum (rNum (rTxt (rIter rLock i0 (rMany 5 (rNum (rIn s)).2).2).2).2).2).2).2).1⟩⟩ : CLock) w) ?_
   refine m_f1 (m_f1 ?_)
   exact on1 (⟨i0 + 1, A11, c11, M0 ++ [(⟨(rTxt (rIter rLock i0 (rMany 5 (rNum (rIn s)).2).2).2).1, (rNum (rTxt (rIter rLock i0 (rMany 5 (rNum (rIn s)).2).2).2).2).1, (rNum (rNum (rTxt (rIter rLock i0 (rMany 5 (rNum (rIn s)).2).2).2).2).2).1, ⟨A1x, c1x, (rIter rNum (rMany 3 (rNum (rNum (rTxt (rIter rLock i0 (rMany 5 (rNum (rIn s)).2).2).2).2).2).2).1.toNat (rMany 3 (rNum (rNum (rTxt (rIter rLock i0 (rMany 5 (rNum (rIn s)).2).2).2).2).2).2).2).1⟩⟩ : CLock)]⟩ : Nat × Option Addr × Nat × List CLock) ⟨(by show i0 + 1 ≤ (rMany 5 (rNum (rIn s)).2).1.toNat; omega), (by rw [List.map_append, h0m]; exact congrArg (fun z => (rIter rLock i0 (rMany 5 (rNum (rIn s)).2).2).1 ++ [z]) (show CLock.abs (⟨(rTxt (rIter rLock i0 (rMany 5 (rNum (rIn s)).2).2).2).1, (rNum (rTxt (rIter rLock i0 (rMany 5 (rNum (rIn s)).2).2).2).2).1, (rNum (rNum (rTxt (rIter rLock i0 (rMany 5 (rNum (rIn s)).2).2).2).2).2).1, ⟨A1x, c1x, (rIter rNum (rMany 3 (rNum (rNum (rTxt (rIter rLock i0 (rMany 5 (rNum (rIn s)).2).2).2).2).2).2).1.toNat (rMany 3 (rNum (rNum (rTxt (rIter rLock i0 (rMany 5 (rNum (rIn s)).2).2).2).2).2).2).2).1⟩⟩ : CLock) = (rLock (rIter rLock i0 (rMany 5 (rNum (rIn s)).2).2).2).1 from rfl)), (fun x hx => by rcases List.mem_append.1 hx with hx | hx; exact h0s x hx; rw [List.mem_singleton] at hx; subst hx; exact (rTxt_bd (rIter rLock i0 (rMany 5 (rNum (rIn s)).2).2).2 _ (rIter_bd (B := 9223372036854775807) (fun q h => rLock_bd q _ h) i0 (rMany 5 (rNum (rIn s)).2).2 (rMany_bd 5 (rNum (rIn s)).2 _ (rNum_bd (rIn s) _ hz0)))).2)⟩ (by show (rMany 5 (rNum (rIn s)).2).1.toNat - (i0 + 1) < (rMany 5 (rNum (rIn s)).2).1.toNat - i0; omega)
 have hx_i0 : i0 = (rMany 5 (rNum (rIn s)).2).1.toNat := by omega
 subst hx_i0
 have hzQ0 := (rIter_bd (B := 9223372036854775807) (fun q h => rLock_bd q _ h) (rMany 5 (rNum (rIn s)).2).1.toNat (rMany 5 (rNum (rIn s)).2).2 (rMany_bd 5 (rNum (rIn s)).2 _ (rNum_bd (rIn s) _ hz0)))
 try dsimp only
 generalize hQ0 : (rIter rLock (rMany 5 (rNum (rIn s)).2).1.toNat (rMany 5 (rNum (rIn s)).2).2) = Q0 at *
 refine Mo 1 Tryz.call160 (fun bs w hS hb => ear_many Q0.2 5 (bs.getD 1 0) w hb hzQ0) (J := ?_)
 rintro y _
 have hmn13 := rMany_n 5 (by decide) Q0.2
 refine m_rowA (α := DPair) 128 ?_
 refine Ml (σ := Nat × Option Addr × Nat) (fun ⟨i2, A2x, c2x⟩ => i2 ≤ (rMany 5 Q0.2).1.toNat ∧ ∀ x, x ∈ (rIter rPair i2 (rMany 5 Q0.2).2).1 → x.name.size ≤ 9223372036854775807 ∧ x.value.size ≤ 9223372036854775807) (fun ⟨i2, A2x, c2x⟩ => (rMany 5 Q0.2).1.toNat - i2) (fun ⟨i2, A2x, c2x⟩ => [rowA 128 A2x c2x ((rIter rPair i2 (rMany 5 Q0.2).2).1 : List DPair), ownL (lineR 3) M0, rowA 115 A0x c0x (M0 : List CLock)]) [11, 6, 5, 4, 2] (fun ⟨i2, A2x, c2x⟩ => [(11, vI (i2 : Int))]) (fun ⟨i2, A2x, c2x⟩ => [(1, [vS (rIter rPair i2 (rMany 5 Q0.2).2).2.1, vI (rIter rPair i2 (rMany 5 Q0.2).2).2.2]), (2, [vI (rNum (rIn s)).1, .v (.slice A0x M0.length c0x), .v (.slice A2x ((rIter rPair i2 (rMany 5 Q0.2).2).1).length c2x), .v (.slice none 0 0)])]) (⟨0, none, 0⟩) ⟨(Nat.zero_le _), (fun x hx => by cases hx)⟩ (B := ?_)
 rintro ⟨i2, A2x, c2x⟩ ⟨h2l, h2s⟩ _ on3
 have h2n : (rIter rPair i2 (rMany 5 Q0.2).2).1.length = i2 := by exact rIter_len _ _ _
 refine Md ((i2 : Int) < (rMany 5 Q0.2).1) (T := fun h6 => ?_) (F := fun h6 => ?_)
 · refine Mo 1 Tryz.call161 (fun bs w hS hb => ear_str (rIter rPair i2 (rMany 5 Q0.2).2).2 (bs.getD 1 0) w hb (rIter_bd (B := 9223372036854775807) (fun q h => rPair_bd q _ h) i2 (rMany 5 Q0.2).2 (rMany_bd 5 Q0.2 _ hzQ0))) (J := ?_)
   rintro y _
   refine Mo 1 Tryz.call161 (fun bs w hS hb => ear_str (rTxt (rIter rPair i2 (rMany 5 Q0.2).2).2).2 (bs.getD 1 0) w hb (rTxt_bd (rIter rPair i2 (rMany 5 Q0.2).2).2 _ (rIter_bd (B := 9223372036854775807) (fun q h => rPair_bd q _ h) i2 (rMany 5 Q0.2).2 (rMany_bd 5 Q0.2 _ hzQ0))).1) (J := ?_)
   rintro y _
   refine Mo 1 Tryz.call159 (fun bs w hS hb => ear_num (rTxt (rTxt (rIter rPair i2 (rMany 5 Q0.2).2).2).2).2 (bs.getD 1 0) w hb (rTxt_bd (rTxt (rIter rPair i2 (rMany 5 Q0.2).2).2).2 _ (rTxt_bd (rIter rPair i2 (rMany 5 Q0.2).2).2 _ (rIter_bd (B := 9223372036854775807) (fun q h => rPair_bd q _ h) i2 (rMany 5 Q0.2).2 (rMany_bd 5 Q0.2 _ hzQ0))).1).1) (J := ?_)
   rintro y _
   refine M1 (J := ?_)
   refine Mal (α := DPair) 40 ([(⟨(rTxt (rIter rPair i2 (rMany 5 Q0.2).2).2).1, (rTxt (rTxt (rIter rPair i2 (rMany 5 Q0.2).2).2).2).1, (rNum (rTxt (rTxt (rIter rPair i2 (rMany 5 Q0.2).2).2).2).2).1⟩ : DPair)]) (h63 := (by first | omega | (simp only [List.length_append, List.length_nil, List.length_cons, rIter_len]; omega))) (hb := (by first | omega | (simp only [List.length_append, List.length_nil, List.length_cons, rIter_len]; omega))) (J := ?_)
   intro A17 c17
   refine Mi (pR ((i2 : Int) + 1)) (J := ?_)
   refine m_f2 (m_f2 (m_f2 ?_))
   exact on3 (⟨i2 + 1, A17, c17⟩ : Nat × Option Addr × Nat) ⟨(by show i2 + 1 ≤ (rMany 5 Q0.2).1.toNat; omega), (fun x hx => by rcases List.mem_append.1 hx with hx | hx; exact h2s x hx; rw [List.mem_singleton] at hx; subst hx; exact ⟨(rTxt_bd (rIter rPair i2 (rMany 5 Q0.2).2).2 _ (rIter_bd (B := 9223372036854775807) (fun q h => rPair_bd q _ h) i2 (rMany 5 Q0.2).2 (rMany_bd 5 Q0.2 _ hzQ0))).2, (rTxt_bd (rTxt (rIter rPair i2 (rMany 5 Q0.2).2).2).2 _ (rTxt_bd (rIter rPair i2 (rMany 5 Q0.2).2).2 _ (rIter_bd (B := 9223372036854775807) (fun q h => rPair_bd q _ h) i2 (rMany 5 Q0.2).2 (rMany_bd 5 Q0.2 _ hzQ0))).1).2⟩)⟩ (by show (rMany 5 Q0.2).1.toNat - (i2 + 1) < (rMany 5 Q0.2).1.toNat - i2; omega)
 have hx_i2 : i2 = (rMany 5 Q0.2).1.toNat := by omega
 subst hx_i2
 have hzQ2 := (rIter_bd (B := 9223372036854775807) (fun q h => rPair_bd q _ h) (rMany 5 Q0.2).1.toNat (rMany 5 Q0.2).2 (rMany_bd 5 Q0.2 _ hzQ0))
 try dsimp only
 generalize hQ2 : (rIter rPair (rMany 5 Q0.2).1.toNat (rMany 5 Q0.2).2) = Q2 at *
 refine Mo 1 Tryz.call160 (fun bs w hS hb => ear_many Q2.2 4 (bs.getD 1 0) w hb hzQ2) (J := ?_)
 rintro y _
 have hmn19 := rMany_n 4 (by decide) Q2.2
 refine m_rowA (α := CSession) 118 ?_
 refine m_nores (ownL (keptR 141) []) rfl (fun w x hx => by cases hx) ?_
 refine Ml (σ := Nat × Option Addr × Nat × List CSession) (fun ⟨i3, A3x, c3x, M3⟩ => i3 ≤ (rMany 4 Q2.2).1.toNat ∧ M3.map CSession.abs = (rIter rSess i3 (rMany 4 Q2.2).2).1 ∧ ∀ x, x ∈ M3 → ∀ k, k ∈ x.replies.xs → k.reply.text.size ≤ 9223372036854775807) (fun ⟨i3, A3x, c3x, M3⟩ => (rMany 4 Q2.2).1.toNat - i3) (fun ⟨i3, A3x, c3x, M3⟩ => [ownL (keptR 141) M3, rowA 118 A3x c3x (M3 : List CSession), rowA 128 A2x c2x (Q2.1 : List DPair), ownL (lineR 3) M0, rowA 115 A0x c0x (M0 : List CLock)]) [13, 6, 5, 4, 2] (fun ⟨i3, A3x, c3x, M3⟩ => [(13, vI (i3 : Int))]) (fun ⟨i3, A3x, c3x, M3⟩ => [(1, [vS (rIter rSess i3 (rMany 4 Q2.2).2).2.1, vI (rIter rSess i3 (rMany 4 Q2.2).2).2.2]), (2, [vI (rNum (rIn s)).1, .v (.slice A0x M0.length c0x), .v (.slice A2x (Q2.1).length c2x), .v (.slice A3x M3.length c3x)])]) (⟨0, none, 0, []⟩) ⟨(Nat.zero_le _), rfl, (fun x hx => by cases hx)⟩ (B := ?_)
 rintro ⟨i3, A3x, c3x, M3⟩ ⟨h3l, h3m, h3s⟩ _ on4
 have h3n : M3.length = i3 := by have h9 := congrArg List.length h3m; rw [List.length_map, rIter_len] at h9; exact h9
 refine Md ((i3 : Int) < (rMany 4 Q2.2).1) (T := fun h7 => ?_) (F := fun h7 => ?_)
 rotate_left
 · have hx_i3 : i3 = (rMany 4 Q2.2).1.toNat := by omega
   subst hx_i3
   have hzQ3 := (rIter_bd (B := 9223372036854775807) (fun q h => rSess_bd q _ h) (rMany 4 Q2.2).1.toNat (rMany 4 Q2.2).2 (rMany_bd 4 Q2.2 _ hzQ2))
   try dsimp only
   generalize hQ3 : (rIter rSess (rMany 4 Q2.2).1.toNat (rMany 4 Q2.2).2) = Q3 at *
   refine Md (Q3.2.2 = 0) (T := fun h9 => ?_) (F := fun h9 => ?_)
   rotate_left
   · refine Md (Q3.2.2 = 0) (T := fun h13 => ?_) (F := fun h13 => ?_)
     · exact absurd h13 h9
     refine Mdn (Q3.2.2 = 0) (T := fun h14 => ?_) (F := fun h14 => ?_)
     · exact absurd h14 h9
     refine Mda 7 [] [0] [ownL (keptR 141) M3, rowA 118 A3x c3x (M3 : List CSession), rowA 128 A2x c2x (Q2.1 : List DPair), ownL (lineR 3) M0, rowA 115 A0x c0x (M0 : List CLock)] Tryz_mixed (J := ?_)
     refine Mz (J := ?_)
     refine Mt [.agg #[.int .i64 0, .slice none 0 0, .slice none 0 0, .slice none 0 0], .int .i64 Q3.2.2] fun bs w hS => ?_
     have hR := rState_of hQ0 hQ2 hQ3
     have hm := unsnap_bad (q := (rIn s)) rfl hR h1 h2 h3 h14
     refine ⟨⟨0, Sl.nil, Sl.nil, Sl.nil⟩, ?_, ?_, hS.outS (y := (⟨0, Sl.nil, Sl.nil, Sl.nil⟩ : CState)) ⟨Sl.rd_nil _ _, Sl.rd_nil _ _, Sl.rd_nil _ _⟩⟩
     · rw [hm]; rfl
     · rw [hm]; rfl
   refine Mdn (Q3.2.1 = emp) (T := fun h10 => ?_) (F := fun h10 => ?_)
   rotate_left
   · refine Mq 184 false rfl (J := ?_)
     refine Mq 194 true rfl (J := ?_)
     refine Mda 7 [] [0] [ownL (keptR 141) M3, rowA 118 A3x c3x (M3 : List CSession), rowA 128 A2x c2x (Q2.1 : List DPair), ownL (lineR 3) M0, rowA 115 A0x c0x (M0 : List CLock)] Tryz_mixed (J := ?_)
     refine Mz (J := ?_)
     refine Mt [.agg #[.int .i64 0, .slice none 0 0, .slice none 0 0, .slice none 0 0], .int .i64 4] fun bs w hS => ?_
     have hR := rState_of hQ0 hQ2 hQ3
     have hm := unsnap_more (q := (rIn s)) rfl hR h1 h2 h3 h9 h10
     refine ⟨⟨0, Sl.nil, Sl.nil, Sl.nil⟩, ?_, ?_, hS.outS (y := (⟨0, Sl.nil, Sl.nil, Sl.nil⟩ : CState)) ⟨Sl.rd_nil _ _, Sl.rd_nil _ _, Sl.rd_nil _ _⟩⟩
     · rw [hm]; rfl
     · rw [hm]; rfl
   refine Md (Q3.2.2 = 0) (T := fun h11 => ?_) (F := fun h11 => ?_)
   rotate_left
   · exact absurd h9 h11
   refine Mp Tryz.call30 (fun bs w hS => ref_StateFault (⟨(rNum (rIn s)).1, ⟨A0x, c0x, M0⟩, ⟨A2x, c2x, Q2.1⟩, ⟨A3x, c3x, M3⟩⟩ : CState) w ⟨out_locks (.tail _ (.tail _ (.tail _ (.tail _ (.head _))))) (.tail _ (.tail _ (.tail _ (.head _)))) hS.res (fun x hx => hx) h0s, allR_row (.tail _ (.tail _ (.head _))) (hS.res _ (.tail _ (.tail _ (.head _)))) h2s, out_sess (.tail _ (.head _)) (.head _) hS.res (fun x hx => hx) h3s⟩) (J := ?_)
   refine Mdn (mState (CState.abs (⟨(rNum (rIn s)).1, ⟨A0x, c0x, M0⟩, ⟨A2x, c2x, Q2.1⟩, ⟨A3x, c3x, M3⟩⟩ : CState)) = 0) (T := fun h12 => ?_) (F := fun h12 => ?_)
   rotate_left
   · refine Mda 7 [] [0] [ownL (keptR 141) M3, rowA 118 A3x c3x (M3 : List CSession), rowA 128 A2x c2x (Q2.1 : List DPair), ownL (lineR 3) M0, rowA 115 A0x c0x (M0 : List CLock)] Tryz_mixed (J := ?_)
     refine Mz (J := ?_)
     refine Mt [.agg #[.int .i64 0, .slice none 0 0, .slice none 0 0, .slice none 0 0], .int .i64 (mState (CState.abs (⟨(rNum (rIn s)).1, ⟨A0x, c0x, M0⟩, ⟨A2x, c2x, Q2.1⟩, ⟨A3x, c3x, M3⟩⟩ : CState)))] fun bs w hS => ?_
     have hR := rState_of hQ0 hQ2 hQ3
     have hy : (CState.abs (⟨(rNum (rIn s)).1, ⟨A0x, c0x, M0⟩, ⟨A2x, c2x, Q2.1⟩, ⟨A3x, c3x, M3⟩⟩ : CState)) = (⟨(rNum (rIn s)).1, Q0.1, Q2.1, Q3.1⟩ : DState) := by show CState.abs (⟨(rNum (rIn s)).1, ⟨A0x, c0x, M0⟩, ⟨A2x, c2x, Q2.1⟩, ⟨A3x, c3x, M3⟩⟩ : CState) = _; simp only [CState.abs, h0m, h3m]
     have hm := unsnap_fault (y := (CState.abs (⟨(rNum (rIn s)).1, ⟨A0x, c0x, M0⟩, ⟨A2x, c2x, Q2.1⟩, ⟨A3x, c3x, M3⟩⟩ : CState))) (q := (rIn s)) rfl hR h1 h2 h3 h11 h10 hy h12
     refine ⟨⟨0, Sl.nil, Sl.nil, Sl.nil⟩, ?_, ?_, hS.outS (y := (⟨0, Sl.nil, Sl.nil, Sl.nil⟩ : CState)) ⟨Sl.rd_nil _ _, Sl.rd_nil _ _, Sl.rd_nil _ _⟩⟩
     · rw [hm]; rfl
     · rw [hm]; rfl
   refine Mt [.agg #[.int .i64 (rNum (rIn s)).1, .slice A0x M0.length c0x, .slice A2x (Q2.1).length c2x, .slice A3x M3.length c3x], .int .i64 0] fun bs w hS => ?_
   have hR := rState_of hQ0 hQ2 hQ3
   have hy : (CState.abs (⟨(rNum (rIn s)).1, ⟨A0x, c0x, M0⟩, ⟨A2x, c2x, Q2.1⟩, ⟨A3x, c3x, M3⟩⟩ : CState)) = (⟨(rNum (rIn s)).1, Q0.1, Q2.1, Q3.1⟩ : DState) := by show CState.abs (⟨(rNum (rIn s)).1, ⟨A0x, c0x, M0⟩, ⟨A2x, c2x, Q2.1⟩, ⟨A3x, c3x, M3⟩⟩ : CState) = _; simp only [CState.abs, h0m, h3m]
   have hm := unsnap_ok (y := (CState.abs (⟨(rNum (rIn s)).1, ⟨A0x, c0x, M0⟩, ⟨A2x, c2x, Q2.1⟩, ⟨A3x, c3x, M3⟩⟩ : CState))) (q := (rIn s)) rfl hR h1 h2 h3 h11 h10 hy h12
   refine ⟨(⟨(rNum (rIn s)).1, ⟨A0x, c0x, M0⟩, ⟨A2x, c2x, Q2.1⟩, ⟨A3x, c3x, M3⟩⟩ : CState), ?_, ?_, hS.outS (y := (⟨(rNum (rIn s)).1, ⟨A0x, c0x, M0⟩, ⟨A2x, c2x, Q2.1⟩, ⟨A3x, c3x, M3⟩⟩ : CState)) ⟨out_locks (.tail _ (.tail _ (.tail _ (.tail _ (.head _))))) (.tail _ (.tail _ (.tail _ (.head _)))) hS.res (fun x hx => hx) h0s, allR_row (.tail _ (.tail _ (.head _))) (hS.res _ (.tail _ (.tail _ (.head _)))) h2s, out_sess (.tail _ (.head _)) (.head _) hS.res (fun x hx => hx) h3s⟩⟩
   · rw [hm]; rfl
   · rw [hm]
 refine Mo 1 Tryz.call159 (fun bs w hS hb => ear_num (rIter rSess i3 (rMany 4 Q2.2).2).2 (bs.getD 1 0) w hb (rIter_bd (B := 9223372036854775807) (fun q h => rSess_bd q _ h) i3 (rMany 4 Q2.2).2 (rMany_bd 4 Q2.2 _ hzQ2))) (J := ?_)
 rintro y _
 refine Mo 1 Tryz.call159 (fun bs w hS hb => ear_num (rNum (rIter rSess i3 (rMany 4 Q2.2).2).2).2 (bs.getD 1 0) w hb (rNum_bd (rIter rSess i3 (rMany 4 Q2.2).2).2 _ (rIter_bd (B := 9223372036854775807) (fun q h => rSess_bd q _ h) i3 (rMany 4 Q2.2).2 (rMany_bd 4 Q2.2 _ hzQ2)))) (J := ?_)
 rintro y _
 refine Mo 1 Tryz.call159 (fun bs w hS hb => ear_num (rNum (rNum (rIter rSess i3 (rMany 4 Q2.2).2).2).2).2 (bs.getD 1 0) w hb (rNum_bd (rNum (rIter rSess i3 (rMany 4 Q2.2).2).2).2 _ (rNum_bd (rIter rSess i3 (rMany 4 Q2.2).2).2 _ (rIter_bd (B := 9223372036854775807) (fun q h => rSess_bd q _ h) i3 (rMany 4 Q2.2).2 (rMany_bd 4 Q2.2 _ hzQ2))))) (J := ?_)
 rintro y _
 refine Mo 1 Tryz.call159 (fun bs w hS hb => ear_num (rNum (rNum (rNum (rIter rSess i3 (rMany 4 Q2.2).2).2).2).2).2 (bs.getD 1 0) w hb (rNum_bd (rNum (rNum (rIter rSess i3 (rMany 4 Q2.2).2).2).2).2 _ (rNum_bd (rNum (rIter rSess i3 (rMany 4 Q2.2).2).2).2 _ (rNum_bd (rIter rSess i3 (rMany 4 Q2.2).2).2 _ (rIter_bd (B := 9223372036854775807) (fun q h => rSess_bd q _ h) i3 (rMany 4 Q2.2).2 (rMany_bd 4 Q2.2 _ hzQ2)))))) (J := ?_)
 rintro y _
 refine Mo 1 Tryz.call160 (fun bs w hS hb => ear_many (rNum (rNum (rNum (rNum (rIter rSess i3 (rMany 4 Q2.2).2).2).2).2).2).2 4 (bs.getD 1 0) w hb (rNum_bd (rNum (rNum (rNum (rIter rSess i3 (rMany 4 Q2.2).2).2).2).2).2 _ (rNum_bd (rNum (rNum (rIter rSess i3 (rMany 4 Q2.2).2).2).2).2 _ (rNum_bd (rNum (rIter rSess i3 (rMany 4 Q2.2).2).2).2 _ (rNum_bd (rIter rSess i3 (rMany 4 Q2.2).2).2 _ (rIter_bd (B := 9223372036854775807) (fun q h => rSess_bd q _ h) i3 (rMany 4 Q2.2).2 (rMany_bd 4 Q2.2 _ hzQ2))))))) (J := ?_)
 rintro y _
 have hmn25 := rMany_n 4 (by decide) (rNum (rNum (rNum (rNum (rIter rSess i3 (rMany 4 Q2.2).2).2).2).2).2).2
 refine m_rowA (α := DKept) 141 ?_
 refine Ml (σ := Nat × Option Addr × Nat) (fun ⟨i4, A4x, c4x⟩ => i4 ≤ (rMany 4 (rNum (rNum (rNum (rNum (rIter rSess i3 (rMany 4 Q2.2).2).2).2).2).2).2).1.toNat ∧ ∀ x, x ∈ (rIter rKept i4 (rMany 4 (rNum (rNum (rNum (rNum (rIter rSess i3 (rMany 4 Q2.2).2).2).2).2).2).2).2).1 → x.reply.text.size ≤ 9223372036854775807) (fun ⟨i4, A4x, c4x⟩ => (rMany 4 (rNum (rNum (rNum (rNum (rIter rSess i3 (rMany 4 Q2.2).2).2).2).2).2).2).1.toNat - i4) (fun ⟨i4, A4x, c4x⟩ => [rowA 141 A4x c4x ((rIter rKept i4 (rMany 4 (rNum (rNum (rNum (rNum (rIter rSess i3 (rMany 4 Q2.2).2).2).2).2).2).2).2).1 : List DKept), ownL (keptR 141) M3, rowA 118 A3x c3x (M3 : List CSession), rowA 128 A2x c2x (Q2.1 : List DPair), ownL (lineR 3) M0, rowA 115 A0x c0x (M0 : List CLock)]) [16, 15, 14, 13, 6, 5, 4, 2] (fun ⟨i4, A4x, c4x⟩ => [(16, vI (i4 : Int))]) (fun ⟨i4, A4x, c4x⟩ => [(1, [vS (rIter rKept i4 (rMany 4 (rNum (rNum (rNum (rNum (rIter rSess i3 (rMany 4 Q2.2).2).2).2).2).2).2).2).2.1, vI (rIter rKept i4 (rMany 4 (rNum (rNum (rNum (rNum (rIter rSess i3 (rMany 4 Q2.2).2).2).2).2).2).2).2).2.2]), (3, [vI (rNum (rIter rSess i3 (rMany 4 Q2.2).2).2).1, vI (rNum (rNum (rIter rSess i3 (rMany 4 Q2.2).2).2).2).1, vI (rNum (rNum (rNum (rIter rSess i3 (rMany 4 Q2.2).2).2).2).2).1, vI (rNum (rNum (rNum (rNum (rIter rSess i3 (rMany 4 Q2.2).2).2).2).2).2).1, .v (.slice A4x ((rIter rKept i4 (rMany 4 (rNum (rNum (rNum (rNum (rIter rSess i3 (rMany 4 Q2.2).2).2).2).2).2).2).2).1).length c4x)])]) (⟨0, none, 0⟩) ⟨(Nat.zero_le _), (fun x hx => by cases hx)⟩ (B := ?_)
 rintro ⟨i4, A4x, c4x⟩ ⟨h4l, h4s⟩ _ on5
 have h4n : (rIter rKept i4 (rMany 4 (rNum (rNum (rNum (rNum (rIter rSess i3 (rMany 4 Q2.2).2).2).2).2).2).2).2).1.length = i4 := by exact rIter_len _ _ _
 refine Md ((i4 : Int) < (rMany 4 (rNum (rNum (rNum (rNum (rIter rSess i3 (rMany 4 Q2.2).2).2).2).2).2).2).1) (T := fun h8 => ?_) (F := fun h8 => ?_)
 rotate_left
 · have hx_i4 : i4 = (rMany 4 (rNum (rNum (rNum (rNum (rIter rSess i3 (rMany 4 Q2.2).2).2).2).2).2).2).1.toNat := by omega
   subst hx_i4
   refine M1 (J := ?_)
   refine m_f2 ?_
   refine Mal (α := CSession) 56 ([(⟨(rNum (rIter rSess i3 (rMany 4 Q2.2).2).2).1, (rNum (rNum (rIter rSess i3 (rMany 4 Q2.2).2).2).2).1, (rNum (rNum (rNum (rIter rSess i3 (rMany 4 Q2.2).2).2).2).2).1, (rNum (rNum (rNum (rNum (rIter rSess i3 (rMany 4 Q2.2).2).2).2).2).2).1, ⟨A4x, c4x, (rIter rKept (rMany 4 (rNum (rNum (rNum (rNum (rIter rSess i3 (rMany 4 Q2.2).2).2).2).2).2).2).1.toNat (rMany 4 (rNum (rNum (rNum (rNum (rIter rSess i3 (rMany 4 Q2.2).2).2).2).2).2).2).2).1⟩⟩ : CSession)]) (h63 := (by first | omega | (simp only [List.length_append, List.length_nil, List.length_cons, rIter_len]; omega))) (hb := (by first | omega | (simp only [List.length_append, List.length_nil, List.length_cons, rIter_len]; omega))) (J := ?_)
   intro A31 c31
   refine Mi (pR ((i3 : Int) + 1)) (J := ?_)
   refine m_f2 ?_
   refine m_f2 ?_
   refine m_join (ownL (keptR 141) (M3 ++ [(⟨(rNum (rIter rSess i3 (rMany 4 Q2.2).2).2).1, (rNum (rNum (rIter rSess i3 (rMany 4 Q2.2).2).2).2).1, (rNum (rNum (rNum (rIter rSess i3 (rMany 4 Q2.2).2).2).2).2).1, (rNum (rNum (rNum (rNum (rIter rSess i3 (rMany 4 Q2.2).2).2).2).2).2).1, ⟨A4x, c4x, (rIter rKept (rMany 4 (rNum (rNum (rNum (rNum (rIter rSess i3 (rMany 4 Q2.2).2).2).2).2).2).2).1.toNat (rMany 4 (rNum (rNum (rNum (rNum (rIter rSess i3 (rMany 4 Q2.2).2).2).2).2).2).2).2).1⟩⟩ : CSession)])) (ownL_app_fp (keptR 141) M3 (⟨(rNum (rIter rSess i3 (rMany 4 Q2.2).2).2).1, (rNum (rNum (rIter rSess i3 (rMany 4 Q2.2).2).2).2).1, (rNum (rNum (rNum (rIter rSess i3 (rMany 4 Q2.2).2).2).2).2).1, (rNum (rNum (rNum (rNum (rIter rSess i3 (rMany 4 Q2.2).2).2).2).2).2).1, ⟨A4x, c4x, (rIter rKept (rMany 4 (rNum (rNum (rNum (rNum (rIter rSess i3 (rMany 4 Q2.2).2).2).2).2).2).2).1.toNat (rMany 4 (rNum (rNum (rNum (rNum (rIter rSess i3 (rMany 4 Q2.2).2).2).2).2).2).2).2).1⟩⟩ : CSession)) (fun w => ownL_app_p (keptR 141) M3 (⟨(rNum (rIter rSess i3 (rMany 4 Q2.2).2).2).1, (rNum (rNum (rIter rSess i3 (rMany 4 Q2.2).2).2).2).1, (rNum (rNum (rNum (rIter rSess i3 (rMany 4 Q2.2).2).2).2).2).1, (rNum (rNum (rNum (rNum (rIter rSess i3 (rMany 4 Q2.2).2).2).2).2).2).1, ⟨A4x, c4x, (rIter rKept (rMany 4 (rNum (rNum (rNum (rNum (rIter rSess i3 (rMany 4 Q2.2).2).2).2).2).2).2).1.toNat (rMany 4 (rNum (rNum (rNum (rNum (rIter rSess i3 (rMany 4 Q2.2).2).2).2).2).2).2).2).1⟩⟩ : CSession) w) ?_
   refine m_f4 (m_f4 (m_f4 (m_f4 (m_f4 ?_))))
   exact on4 (⟨i3 + 1, A31, c31, M3 ++ [(⟨(rNum (rIter rSess i3 (rMany 4 Q2.2).2).2).1, (rNum (rNum (rIter rSess i3 (rMany 4 Q2.2).2).2).2).1, (rNum (rNum (rNum (rIter rSess i3 (rMany 4 Q2.2).2).2).2).2).1, (rNum (rNum (rNum (rNum (rIter rSess i3 (rMany 4 Q2.2).2).2).2).2).2).1, ⟨A4x, c4x, (rIter rKept (rMany 4 (rNum (rNum (rNum (rNum (rIter rSess i3 (rMany 4 Q2.2).2).2).2).2).2).2).1.toNat (rMany 4 (rNum (rNum (rNum (rNum (rIter rSess i3 (rMany 4 Q2.2).2).2).2).2).2).2).2).1⟩⟩ : CSession)]⟩ : Nat × Option Addr × Nat × List CSession) ⟨(by show i3 + 1 ≤ (rMany 4 Q2.2).1.toNat; omega), (by rw [List.map_append, h3m]; exact congrArg (fun z => (rIter rSess i3 (rMany 4 Q2.2).2).1 ++ [z]) (show CSession.abs (⟨(rNum (rIter rSess i3 (rMany 4 Q2.2).2).2).1, (rNum (rNum (rIter rSess i3 (rMany 4 Q2.2).2).2).2).1, (rNum (rNum (rNum (rIter rSess i3 (rMany 4 Q2.2).2).2).2).2).1, (rNum (rNum (rNum (rNum (rIter rSess i3 (rMany 4 Q2.2).2).2).2).2).2).1, ⟨A4x, c4x, (rIter rKept (rMany 4 (rNum (rNum (rNum (rNum (rIter rSess i3 (rMany 4 Q2.2).2).2).2).2).2).2).1.toNat (rMany 4 (rNum (rNum (rNum (rNum (rIter rSess i3 (rMany 4 Q2.2).2).2).2).2).2).2).2).1⟩⟩ : CSession) = (rSess (rIter rSess i3 (rMany 4 Q2.2).2).2).1 from rfl)), (fun x hx => by rcases List.mem_append.1 hx with hx | hx; exact h3s x hx; rw [List.mem_singleton] at hx; subst hx; exact h4s)⟩ (by show (rMany 4 Q2.2).1.toNat - (i3 + 1) < (rMany 4 Q2.2).1.toNat - i3; omega)
 refine Mo 1 Tryz.call159 (fun bs w hS hb => ear_num (rIter rKept i4 (rMany 4 (rNum (rNum (rNum (rNum (rIter rSess i3 (rMany 4 Q2.2).2).2).2).2).2).2).2).2 (bs.getD 1 0) w hb (rIter_bd (B := 9223372036854775807) (fun q h => rKept_bd q _ h) i4 (rMany 4 (rNum (rNum (rNum (rNum (rIter rSess i3 (rMany 4 Q2.2).2).2).2).2).2).2).2 (rMany_bd 4 (rNum (rNum (rNum (rNum (rIter rSess i3 (rMany 4 Q2.2).2).2).2).2).2).2 _ (rNum_bd (rNum (rNum (rNum (rIter rSess i3 (rMany 4 Q2.2).2).2).2).2).2 _ (rNum_bd (rNum (rNum (rIter rSess i3 (rMany 4 Q2.2).2).2).2).2 _ (rNum_bd (rNum (rIter rSess i3 (rMany 4 Q2.2).2).2).2 _ (rNum_bd (rIter rSess i3 (rMany 4 Q2.2).2).2 _ (rIter_bd (B := 9223372036854775807) (fun q h => rSess_bd q _ h) i3 (rMany 4 Q2.2).2 (rMany_bd 4 Q2.2 _ hzQ2))))))))) (J := ?_)
 rintro y _
 refine Mo 1 Tryz.call159 (fun bs w hS hb => ear_num (rNum (rIter rKept i4 (rMany 4 (rNum (rNum (rNum (rNum (rIter rSess i3 (rMany 4 Q2.2).2).2).2).2).2).2).2).2).2 (bs.getD 1 0) w hb (rNum_bd (rIter rKept i4 (rMany 4 (rNum (rNum (rNum (rNum (rIter rSess i3 (rMany 4 Q2.2).2).2).2).2).2).2).2).2 _ (rIter_bd (B := 9223372036854775807) (fun q h => rKept_bd q _ h) i4 (rMany 4 (rNum (rNum (rNum (rNum (rIter rSess i3 (rMany 4 Q2.2).2).2).2).2).2).2).2 (rMany_bd 4 (rNum (rNum (rNum (rNum (rIter rSess i3 (rMany 4 Q2.2).2).2).2).2).2).2 _ (rNum_bd (rNum (rNum (rNum (rIter rSess i3 (rMany 4 Q2.2).2).2).2).2).2 _ (rNum_bd (rNum (rNum (rIter rSess i3 (rMany 4 Q2.2).2).2).2).2 _ (rNum_bd (rNum (rIter rSess i3 (rMany 4 Q2.2).2).2).2 _ (rNum_bd (rIter rSess i3 (rMany 4 Q2.2).2).2 _ (rIter_bd (B := 9223372036854775807) (fun q h => rSess_bd q _ h) i3 (rMany 4 Q2.2).2 (rMany_bd 4 Q2.2 _ hzQ2)))))))))) (J := ?_)
 rintro y _
 refine Mo 1 Tryz.call159 (fun bs w hS hb => ear_num (rNum (rNum (rIter rKept i4 (rMany 4 (rNum (rNum (rNum (rNum (rIter rSess i3 (rMany 4 Q2.2).2).2).2).2).2).2).2).2).2).2 (bs.getD 1 0) w hb (rNum_bd (rNum (rIter rKept i4 (rMany 4 (rNum (rNum (rNum (rNum (rIter rSess i3 (rMany 4 Q2.2).2).2).2).2).2).2).2).2).2 _ (rNum_bd (rIter rKept i4 (rMany 4 (rNum (rNum (rNum (rNum (rIter rSess i3 (rMany 4 Q2.2).2).2).2).2).2).2).2).2 _ (rIter_bd (B := 9223372036854775807) (fun q h => rKept_bd q _ h) i4 (rMany 4 (rNum (rNum (rNum (rNum (rIter rSess i3 (rMany 4 Q2.2).2).2).2).2).2).2).2 (rMany_bd 4 (rNum (rNum (rNum (rNum (rIter rSess i3 (rMany 4 Q2.2).2).2).2).2).2).2 _ (rNum_bd (rNum (rNum (rNum (rIter rSess i3 (rMany 4 Q2.2).2).2).2).2).2 _ (rNum_bd (rNum (rNum (rIter rSess i3 (rMany 4 Q2.2).2).2).2).2 _ (rNum_bd (rNum (rIter rSess i3 (rMany 4 Q2.2).2).2).2 _ (rNum_bd (rIter rSess i3 (rMany 4 Q2.2).2).2 _ (rIter_bd (B := 9223372036854775807) (fun q h => rSess_bd q _ h) i3 (rMany 4 Q2.2).2 (rMany_bd 4 Q2.2 _ hzQ2))))))))))) (J := ?_)
 rintro y _
 refine Mo 1 Tryz.call161 (fun bs w hS hb => ear_str (rNum (rNum (rNum (rIter rKept i4 (rMany 4 (rNum (rNum (rNum (rNum (rIter rSess i3 (rMany 4 Q2.2).2).2).2).2).2).2).2).2).2).2).2 (bs.getD 1 0) w hb (rNum_bd (rNum (rNum (rIter rKept i4 (rMany 4 (rNum (rNum (rNum (rNum (rIter rSess i3 (rMany 4 Q2.2).2).2).2).2).2).2).2).2).2).2 _ (rNum_bd (rNum (rIter rKept i4 (rMany 4 (rNum (rNum (rNum (rNum (rIter rSess i3 (rMany 4 Q2.2).2).2).2).2).2).2).2).2).2 _ (rNum_bd (rIter rKept i4 (rMany 4 (rNum (rNum (rNum (rNum (rIter rSess i3 (rMany 4 Q2.2).2).2).2).2).2).2).2).2 _ (rIter_bd (B := 9223372036854775807) (fun q h => rKept_bd q _ h) i4 (rMany 4 (rNum (rNum (rNum (rNum (rIter rSess i3 (rMany 4 Q2.2).2).2).2).2).2).2).2 (rMany_bd 4 (rNum (rNum (rNum (rNum (rIter rSess i3 (rMany 4 Q2.2).2).2).2).2).2).2 _ (rNum_bd (rNum (rNum (rNum (rIter rSess i3 (rMany 4 Q2.2).2).2).2).2).2 _ (rNum_bd (rNum (rNum (rIter rSess i3 (rMany 4 Q2.2).2).2).2).2 _ (rNum_bd (rNum (rIter rSess i3 (rMany 4 Q2.2).2).2).2 _ (rNum_bd (rIter rSess i3 (rMany 4 Q2.2).2).2 _ (rIter_bd (B := 9223372036854775807) (fun q h => rSess_bd q _ h) i3 (rMany 4 Q2.2).2 (rMany_bd 4 Q2.2 _ hzQ2)))))))))))) (J := ?_)
 rintro y _
 refine M1 (J := ?_)
 refine Mal (α := DKept) 40 ([(⟨(rNum (rIter rKept i4 (rMany 4 (rNum (rNum (rNum (rNum (rIter rSess i3 (rMany 4 Q2.2).2).2).2).2).2).2).2).2).1, ⟨(rNum (rNum (rIter rKept i4 (rMany 4 (rNum (rNum (rNum (rNum (rIter rSess i3 (rMany 4 Q2.2).2).2).2).2).2).2).2).2).2).1, (rNum (rNum (rNum (rIter rKept i4 (rMany 4 (rNum (rNum (rNum (rNum (rIter rSess i3 (rMany 4 Q2.2).2).2).2).2).2).2).2).2).2).2).1, (rTxt (rNum (rNum (rNum (rIter rKept i4 (rMany 4 (rNum (rNum (rNum (rNum (rIter rSess i3 (rMany 4 Q2.2).2).2).2).2).2).2).2).2).2).2).2).1⟩⟩ : DKept)]) (h63 := (by first | omega | (simp only [List.length_append, List.length_nil, List.length_cons, rIter_len]; omega))) (hb := (by first | omega | (simp only [List.length_append, List.length_nil, List.length_cons, rIter_len]; omega))) (J := ?_)
 intro A30 c30
 refine Mi (pR ((i4 : Int) + 1)) (J := ?_)
 refine m_f5 (m_f5 (m_f5 (m_f5 (m_f5 (m_f5 ?_)))))
 exact on5 (⟨i4 + 1, A30, c30⟩ : Nat × Option Addr × Nat) ⟨(by show i4 + 1 ≤ (rMany 4 (rNum (rNum (rNum (rNum (rIter rSess i3 (rMany 4 Q2.2).2).2).2).2).2).2).1.toNat; omega), (fun x hx => by rcases List.mem_append.1 hx with hx | hx; exact h4s x hx; rw [List.mem_singleton] at hx; subst hx; exact (rTxt_bd (rNum (rNum (rNum (rIter rKept i4 (rMany 4 (rNum (rNum (rNum (rNum (rIter rSess i3 (rMany 4 Q2.2).2).2).2).2).2).2).2).2).2).2).2 _ (rNum_bd (rNum (rNum (rIter rKept i4 (rMany 4 (rNum (rNum (rNum (rNum (rIter rSess i3 (rMany 4 Q2.2).2).2).2).2).2).2).2).2).2).2 _ (rNum_bd (rNum (rIter rKept i4 (rMany 4 (rNum (rNum (rNum (rNum (rIter rSess i3 (rMany 4 Q2.2).2).2).2).2).2).2).2).2).2 _ (rNum_bd (rIter rKept i4 (rMany 4 (rNum (rNum (rNum (rNum (rIter rSess i3 (rMany 4 Q2.2).2).2).2).2).2).2).2).2 _ (rIter_bd (B := 9223372036854775807) (fun q h => rKept_bd q _ h) i4 (rMany 4 (rNum (rNum (rNum (rNum (rIter rSess i3 (rMany 4 Q2.2).2).2).2).2).2).2).2 (rMany_bd 4 (rNum (rNum (rNum (rNum (rIter rSess i3 (rMany 4 Q2.2).2).2).2).2).2).2 _ (rNum_bd (rNum (rNum (rNum (rIter rSess i3 (rMany 4 Q2.2).2).2).2).2).2 _ (rNum_bd (rNum (rNum (rIter rSess i3 (rMany 4 Q2.2).2).2).2).2 _ (rNum_bd (rNum (rIter rSess i3 (rMany 4 Q2.2).2).2).2 _ (rNum_bd (rIter rSess i3 (rMany 4 Q2.2).2).2 _ (rIter_bd (B := 9223372036854775807) (fun q h => rSess_bd q _ h) i3 (rMany 4 Q2.2).2 (rMany_bd 4 Q2.2 _ hzQ2)))))))))))).2)⟩ (by show (rMany 4 (rNum (rNum (rNum (rNum (rIter rSess i3 (rMany 4 Q2.2).2).2).2).2).2).2).1.toNat - (i4 + 1) < (rMany 4 (rNum (rNum (rNum (rNum (rIter rSess i3 (rMany 4 Q2.2).2).2).2).2).2).2).1.toNat - i4; omega)

theorem same_state {B B' : Nat → Prop} (a b : CState) (w : World) (ha : Rds.sub B w a) (hb : Rds.sub B' w b) (he : a.abs = b.abs) : Calls Tryz.prog 9 #[.agg #[.int .i64 a.index, .slice a.locks.A a.locks.n a.locks.c, .slice a.pairs.A a.pairs.n a.pairs.c, .slice a.sessions.A a.sessions.n a.sessions.c], .agg #[.int .i64 b.index, .slice b.locks.A b.locks.n b.locks.c, .slice b.pairs.A b.pairs.n b.pairs.c, .slice b.sessions.A b.sessions.n b.sessions.c]] w fun e w' => e = .returned (.bool true) ∧ Kp [] w w' := by
 have oka := Rds.okof ha
 have okb := Rds.okof hb
 refine M0 Tryz.func9 (J := ?_)
 refine Md (a.index = b.index) (T := fun h1 => ?_) (F := fun h1 => ?_)
 rotate_left
 · exact absurd (congrArg (fun q => q.index) he) h1
 refine Mp (vs := fun bs => [.slice a.locks.A a.locks.n a.locks.c, .slice b.locks.A b.locks.n b.locks.c]) Tryz.call43 (fun bs w hS => same_locks _ _ w (And.left (Rds.kp ha hS.kp)) (And.left (Rds.kp hb hS.kp)) (congrArg DState.locks he)) (J := ?_)
 refine Mq 17 true rfl (J := ?_)
 refine Mp Tryz.call44 (fun bs w hS => same_pairs a.pairs b.pairs w (And.left (And.right (Rds.kp ha hS.kp))) (And.left (And.right (Rds.kp hb hS.kp))) (congrArg DState.pairs he)) (J := ?_)
 refine Mq 24 true rfl (J := ?_)
 refine Mp (vs := fun bs => [.slice a.sessions.A a.sessions.n a.sessions.c, .slice b.sessions.A b.sessions.n b.sessions.c]) Tryz.call45 (fun bs w hS => same_sessions _ _ w (And.right (And.right (Rds.kp ha hS.kp))) (And.right (And.right (Rds.kp hb hS.kp))) (congrArg DState.sessions he)) (J := ?_)
 exact Mt [.bool true] fun bs w hS => ⟨rfl, hS.kp⟩

theorem repl_kept_ {B : Nat → Prop} (x : CReplica) (w : World) (hx : Rds.sub B w x) : Calls Tryz.prog 111 #[.agg #[.int .i64 x.log.base, .slice x.log.entries.A x.log.entries.n x.log.entries.c, .string x.snap, .int .i64 x.state.index, .slice x.state.locks.A x.state.locks.n x.state.locks.c, .slice x.state.pairs.A x.state.pairs.n x.state.pairs.c, .slice x.state.sessions.A x.state.sessions.n x.state.sessions.c]] w fun e w' => ∃ y : CState, e = .returned (.tuple #[.agg #[.int .i64 y.index, .slice y.locks.A y.locks.n y.locks.c, .slice y.pairs.A y.pairs.n y.pairs.c, .slice y.sessions.A y.sessions.n y.sessions.c], .int .i64 (mKeptS x.abs).2]) ∧ y.abs = (mKeptS x.abs).1 ∧ FreshS w w' y := by
 have qL : x.abs.log = x.log.abs := rfl
 have qS : x.abs.state = x.state.abs := rfl
 have qN : x.abs.snap = x.snap := rfl
 have qB : x.abs.log.base = x.log.base := rfl
 have qI : x.abs.state.index = x.state.index := rfl
 have qM : mLast x.abs.log = x.log.base + (x.log.entries.n : Int) := rfl
 have okx := Rds.okof hx
 have okl := okx.2.1
 have ncx := Sl.ok.nc okl
 have hnx : x.log.entries.n = x.log.entries.xs.length := rfl
 refine M0 Tryz.func111 (J := ?_)
 refine Md (x.log.base = 0) (T := fun h1 => ?_) (F := fun h1 => ?_)
 · refine Mdn (x.snap = emp) (T := fun h2 => ?_) (F := fun h2 => ?_)
   · refine Mt [.agg #[.int .i64 0, .slice none 0 0, .slice none 0 0, .slice none 0 0], .int .i64 0] fun bs w hS => ?_
     have hm := keptS_none (r := x.abs) h1 h2
     refine ⟨(⟨0, Sl.nil, Sl.nil, Sl.nil⟩ : CState), ?_, ?_, hS.outS (y := (⟨0, Sl.nil, Sl.nil, Sl.nil⟩ : CState)) ⟨Sl.rd_nil _ _, Sl.rd_nil _ _, Sl.rd_nil _ _⟩⟩
     · rw [hm]; rfl
     · rw [hm]; rfl
   refine Mt [.agg #[.int .i64 0, .slice none 0 0, .slice none 0 0, .slice none 0 0], .int .i64 9] fun bs w hS => ?_
   have hm := keptS_some (r := x.abs) h1 h2
   refine ⟨(⟨0, Sl.nil, Sl.nil, Sl.nil⟩ : CState), ?_, ?_, hS.outS (y := (⟨0, Sl.nil, Sl.nil, Sl.nil⟩ : CState)) ⟨Sl.rd_nil _ _, Sl.rd_nil _ _, Sl.rd_nil _ _⟩⟩
   · rw [hm]; rfl
   · rw [hm]; rfl
 refine Mu Tryz.call156 (fun bs w hS => snap_Decode x.snap w (And.left okx)) (J := ?_)
 rintro fp1 y1 hF1 hok1
 refine Mdn ((mUnsnap x.snap).2 = 0) (T := fun h3 => ?_) (F := fun h3 => ?_)
 rotate_left
 · refine Mt [.agg #[.int .i64 0, .slice none 0 0, .slice none 0 0, .slice none 0 0], .int .i64 9] fun bs w hS => ?_
   have hm := keptS_bad (r := x.abs) h1 h3
   refine ⟨(⟨0, Sl.nil, Sl.nil, Sl.nil⟩ : CState), ?_, ?_, hS.outS (y := (⟨0, Sl.nil, Sl.nil, Sl.nil⟩ : CState)) ⟨Sl.rd_nil _ _, Sl.rd_nil _ _, Sl.rd_nil _ _⟩⟩
   · rw [hm]; rfl
   · rw [hm]; rfl
 refine Mdn (y1.index = x.log.base) (T := fun h4 => ?_) (F := fun h4 => ?_)
 rotate_left
 · refine Mt [.agg #[.int .i64 0, .slice none 0 0, .slice none 0 0, .slice none 0 0], .int .i64 9] fun bs w hS => ?_
   have hm := keptS_off (r := x.abs) (i := y1.index) h1 (show y1.index = (mUnsnap x.abs.snap).1.index from congrArg DState.index hF1) h4
   refine ⟨(⟨0, Sl.nil, Sl.nil, Sl.nil⟩ : CState), ?_, ?_, hS.outS (y := (⟨0, Sl.nil, Sl.nil, Sl.nil⟩ : CState)) ⟨Sl.rd_nil _ _, Sl.rd_nil _ _, Sl.rd_nil _ _⟩⟩
   · rw [hm]; rfl
   · rw [hm]; rfl
 refine Mt [.agg #[.int .i64 y1.index, .slice y1.locks.A y1.locks.n y1.locks.c, .slice y1.pairs.A y1.pairs.n y1.pairs.c, .slice y1.sessions.A y1.sessions.n y1.sessions.c], .int .i64 0] fun bs w hS => ?_
 have hm := keptS_ok (r := x.abs) (i := y1.index) h1 h3 (show y1.index = (mUnsnap x.abs.snap).1.index from congrArg DState.index hF1) h4
 refine ⟨y1, ?_, ?_, hS.outS (allR_sub (.head _) (hS.res _ (.head _)))⟩
 · rw [hm]; rfl
 · rw [hm]; exact hF1

theorem replica_Check {B : Nat → Prop} (x : CReplica) (w : World) (hx : Rds.sub B w x) : Calls Tryz.prog 47 #[.agg #[.int .i64 x.log.base, .slice x.log.entries.A x.log.entries.n x.log.entries.c, .string x.snap, .int .i64 x.state.index, .slice x.state.locks.A x.state.locks.n x.state.locks.c, .slice x.state.pairs.A x.state.pairs.n x.state.pairs.c, .slice x.state.sessions.A x.state.sessions.n x.state.sessions.c]] w fun e w' => e = .returned (.int .i64 (mReplica x.abs)) ∧ Kp [] w w' := by
 have qL : x.abs.log = x.log.abs := rfl
 have qS : x.abs.state = x.state.abs := rfl
 have qN : x.abs.snap = x.snap := rfl
 have qB : x.abs.log.base = x.log.base := rfl
 have qI : x.abs.state.index = x.state.index := rfl
 have qM : mLast x.abs.log = x.log.base + (x.log.entries.n : Int) := rfl
 have okx := Rds.okof hx
 have okl := okx.2.1
 have ncx := Sl.ok.nc okl
 have hnx : x.log.entries.n = x.log.entries.xs.length := rfl
 refine M0 Tryz.func47 (J := ?_)
 refine Mp Tryz.call110 (fun bs w hS => log_Check x.log w (And.left (And.right (Rds.kp hx hS.kp)))) (J := ?_)
 refine Mdn (mLog x.log.abs = 0) (T := fun h1 => ?_) (F := fun h1 => ?_)
 rotate_left
 · refine Mt [.int .i64 (mLog x.log.abs)] fun bs w hS => ?_
   refine ⟨?_, hS.kp⟩
   have hm := repl_log (r := x.abs) h1
   rw [hm]
   rfl
 obtain ⟨hb1, hb2, hb3, hb4⟩ := mLog_bd h1
 have hb5 : x.log.abs.base = x.log.base := rfl
 have hb6 : x.log.abs.entries = x.log.entries.xs := rfl
 rw [hb5] at hb1 hb2
 rw [hb6] at hb3
 refine Mp Tryz.call20 (fun bs w hS => machine_Check x.state w ⟨(And.left (And.right (And.right (Rds.kp hx hS.kp)))), (And.left (And.right (And.right (And.right (Rds.kp hx hS.kp))))), (And.right (And.right (And.right (And.right (Rds.kp hx hS.kp)))))⟩) (J := ?_)
 refine Mdn (mState x.state.abs = 0) (T := fun h2 => ?_) (F := fun h2 => ?_)
 rotate_left
 · refine Mt [.int .i64 (mState x.state.abs)] fun bs w hS => ?_
   refine ⟨?_, hS.kp⟩
   have hm := repl_state (r := x.abs) h1 h2
   rw [hm]
   rfl
 refine Mda 16 [] [] [] Tryz_mixed (J := ?_)
 refine Md (x.state.index < x.log.base) (T := fun h3 => ?_) (F := fun h3 => ?_)
 · refine Mt [.int .i64 9] fun bs w hS => ?_
   refine ⟨?_, hS.kp⟩
   have hm := repl_out (r := x.abs) h1 h2 (by rw [qI, qB, qM]; omega)
   rw [hm]
   rfl
 refine Mp Tryz.call49 (fun bs w hS => log_Last x.log w (And.left (And.right (Rds.kp hx hS.kp))) (by first | exact ⟨by omega, by omega, by omega⟩ | omega)) (J := ?_)
 refine Md (x.log.base + (x.log.entries.n : Int) < x.state.index) (T := fun h4 => ?_) (F := fun h4 => ?_)
 · refine Mt [.int .i64 9] fun bs w hS => ?_
   refine ⟨?_, hS.kp⟩
   have hm := repl_out (r := x.abs) h1 h2 (by rw [qI, qB, qM]; omega)
   rw [hm]
   rfl
 refine Mu Tryz.call111 (fun bs w hS => repl_kept_ x w (Rds.kp hx hS.kp)) (J := ?_)
 rintro fp1 y1 hF1 hok1
 refine Mt [.int .i64 (mKeptS x.abs).2] fun bs w hS => ?_
 refine ⟨?_, hS.kp⟩
 have hm := repl_kept (r := x.abs) h1 h2 (by rw [qI, qB, qM]; omega)
 rw [hm]
 rfl

theorem ref_ReplicaFault {B : Nat → Prop} (x : CReplica) (w : World) (hx : Rds.sub B w x) : Calls Tryz.prog 50 #[.agg #[.int .i64 x.log.base, .slice x.log.entries.A x.log.entries.n x.log.entries.c, .string x.snap, .int .i64 x.state.index, .slice x.state.locks.A x.state.locks.n x.state.locks.c, .slice x.state.pairs.A x.state.pairs.n x.state.pairs.c, .slice x.state.sessions.A x.state.sessions.n x.state.sessions.c]] w fun e w' => e = .returned (.int .i64 (mReplica x.abs)) ∧ Kp [] w w' := by
 have qL : x.abs.log = x.log.abs := rfl
 have qS : x.abs.state = x.state.abs := rfl
 have qN : x.abs.snap = x.snap := rfl
 have qB : x.abs.log.base = x.log.base := rfl
 have qI : x.abs.state.index = x.state.index := rfl
 have qM : mLast x.abs.log = x.log.base + (x.log.entries.n : Int) := rfl
 have okx := Rds.okof hx
 have okl := okx.2.1
 have ncx := Sl.ok.nc okl
 have hnx : x.log.entries.n = x.log.entries.xs.length := rfl
 refine M0 Tryz.func50 (J := ?_)
 refine Mp Tryz.call113 (fun bs w hS => ref_LogFault x.log w (And.left (And.right (Rds.kp hx hS.kp)))) (J := ?_)
 refine Md (mLog x.log.abs = 0) (T := fun h1 => ?_) (F := fun h1 => ?_)
 rotate_left
 · refine Mdn (mLog x.log.abs = 0) (T := fun h8 => ?_) (F := fun h8 => ?_)
   · exact absurd h8 h1
   refine Mt [.int .i64 (mLog x.log.abs)] fun bs w hS => ?_
   refine ⟨?_, hS.kp⟩
   have hm := repl_log (r := x.abs) h8
   rw [hm]
   rfl
 obtain ⟨hb1, hb2, hb3, hb4⟩ := mLog_bd h1
 have hb5 : x.log.abs.base = x.log.base := rfl
 have hb6 : x.log.abs.entries = x.log.entries.xs := rfl
 rw [hb5] at hb1 hb2
 rw [hb6] at hb3
 refine Mp Tryz.call30 (fun bs w hS => ref_StateFault x.state w ⟨(And.left (And.right (And.right (Rds.kp hx hS.kp)))), (And.left (And.right (And.right (And.right (Rds.kp hx hS.kp))))), (And.right (And.right (And.right (And.right (Rds.kp hx hS.kp)))))⟩) (J := ?_)
 refine Mdn (mState x.state.abs = 0) (T := fun h2 => ?_) (F := fun h2 => ?_)
 rotate_left
 · refine Mt [.int .i64 (mState x.state.abs)] fun bs w hS => ?_
   refine ⟨?_, hS.kp⟩
   have hm := repl_state (r := x.abs) h1 h2
   rw [hm]
   rfl
 refine Mda 11 [] [] [] Tryz_mixed (J := ?_)
 refine Mp Tryz.call52 (fun bs w hS => ref_LastOf x.log w (And.left (And.right (Rds.kp hx hS.kp))) (by first | exact ⟨by omega, by omega, by omega⟩ | omega)) (J := ?_)
 refine Mp Tryz.call51 (fun bs w hS => ref_In x.state.index x.log.base (x.log.base + (x.log.entries.n : Int)) w) (J := ?_)
 refine Mbn (inB x.state.index x.log.base (x.log.base + (x.log.entries.n : Int))) (T := fun h3 => ?_) (F := fun h3 => ?_)
 rotate_left
 · simp only [inB, Bool.and_eq_true, Bool.and_eq_false_iff, decide_eq_true_eq, decide_eq_false_iff_not] at h3
   refine Mt [.int .i64 9] fun bs w hS => ?_
   refine ⟨?_, hS.kp⟩
   have hm := repl_out (r := x.abs) h1 h2 (by (try simp only [inB, Bool.and_eq_true, Bool.and_eq_false_iff, decide_eq_true_eq, decide_eq_false_iff_not] at h3); rw [qI, qB, qM]; omega)
   rw [hm]
   rfl
 simp only [inB, Bool.and_eq_true, Bool.and_eq_false_iff, decide_eq_true_eq, decide_eq_false_iff_not] at h3
 refine Md (x.log.base = 0) (T := fun h4 => ?_) (F := fun h4 => ?_)
 · refine Mdn (x.snap = emp) (T := fun h5 => ?_) (F := fun h5 => ?_)
   rotate_left
   · refine Mt [.int .i64 9] fun bs w hS => ?_
     refine ⟨?_, hS.kp⟩
     have hm := repl_kept (r := x.abs) h1 h2 (by (try simp only [inB, Bool.and_eq_true, Bool.and_eq_false_iff, decide_eq_true_eq, decide_eq_false_iff_not] at h3); rw [qI, qB, qM]; omega)
     have hk := keptS_some (r := x.abs) h4 h5
     rw [hm, hk]
     rfl
   have hzh5 : x.snap.size = 0 := by rw [h5]; rfl
   refine Mt [.int .i64 0] fun bs w hS => ?_
   refine ⟨?_, hS.kp⟩
   have hm := repl_kept (r := x.abs) h1 h2 (by (try simp only [inB, Bool.and_eq_true, Bool.and_eq_false_iff, decide_eq_true_eq, decide_eq_false_iff_not] at h3); rw [qI, qB, qM]; omega)
   have hk := keptS_none (r := x.abs) h4 h5
   rw [hm, hk]
   rfl
 refine Mu Tryz.call114 (fun bs w hS => ref_SnapOf x.snap w (And.left okx)) (J := ?_)
 rintro fp1 y1 hF1 hok1
 refine Mdn ((mUnsnap x.snap).2 = 0) (T := fun h6 => ?_) (F := fun h6 => ?_)
 rotate_left
 · refine Mt [.int .i64 9] fun bs w hS => ?_
   refine ⟨?_, hS.kp⟩
   have hm := repl_kept (r := x.abs) h1 h2 (by (try simp only [inB, Bool.and_eq_true, Bool.and_eq_false_iff, decide_eq_true_eq, decide_eq_false_iff_not] at h3); rw [qI, qB, qM]; omega)
   have hk := keptS_bad (r := x.abs) h4 h6
   rw [hm, hk]
   rfl
 refine Mdn (y1.index = x.log.base) (T := fun h7 => ?_) (F := fun h7 => ?_)
 rotate_left
 · refine Mt [.int .i64 9] fun bs w hS => ?_
   refine ⟨?_, hS.kp⟩
   have hm := repl_kept (r := x.abs) h1 h2 (by (try simp only [inB, Bool.and_eq_true, Bool.and_eq_false_iff, decide_eq_true_eq, decide_eq_false_iff_not] at h3); rw [qI, qB, qM]; omega)
   have hk := keptS_off (r := x.abs) (i := y1.index) h4 (show y1.index = (mUnsnap x.abs.snap).1.index from congrArg DState.index hF1) h7
   rw [hm, hk]
   rfl
 refine Mt [.int .i64 0] fun bs w hS => ?_
 refine ⟨?_, hS.kp⟩
 have hm := repl_kept (r := x.abs) h1 h2 (by (try simp only [inB, Bool.and_eq_true, Bool.and_eq_false_iff, decide_eq_true_eq, decide_eq_false_iff_not] at h3); rw [qI, qB, qM]; omega)
 have hk := keptS_ok (r := x.abs) (i := y1.index) h4 h6 (show y1.index = (mUnsnap x.abs.snap).1.index from congrArg DState.index hF1) h7
 rw [hm, hk]
 rfl

theorem ref_StateCopy {B : Nat → Prop} (x : CState) (w : World) (hx : Rds.sub B w x) (hsm : Rds.small x) : Calls Tryz.prog 6 #[.agg #[.int .i64 x.index, .slice x.locks.A x.locks.n x.locks.c, .slice x.pairs.A x.pairs.n x.pairs.c, .slice x.sessions.A x.sessions.n x.sessions.c]] w fun e w' => ∃ y : CState, e = .returned (y.val) ∧ y.abs = x.abs ∧ FreshS w w' y := by
 have okx := Rds.okof hx
 have hsp : x.pairs.xs.length ≤ 1048576 := hsm.2.1.1
 refine M0 Tryz.func6 (J := ?_)
 refine Mda 12 [] [] [] Tryz_mixed (J := ?_)
 refine Mu Tryz.call18 (fun bs w hS => ref_LocksCopyS x.locks w (And.left (Rds.kp hx hS.kp)) (And.left hsm)) (J := ?_)
 rintro fp1 y1 hF1 hok1
 refine m_rowA (α := DPair) 128 ?_
 refine Ma (α := DPair) (L2 := x.pairs.xs) 40 (fun bs w hS => Sl.rd.src (s := x.pairs) (And.left (And.right (Rds.kp hx hS.kp)))) (J := ?_)
 intro A2 c2
 refine Mu Tryz.call19 (fun bs w hS => ref_SessionsCopyS x.sessions w (And.right (And.right (Rds.kp hx hS.kp))) (And.right (And.right hsm))) (J := ?_)
 rintro fp3 y3 hF3 hok3
 refine Mt [.agg #[.int .i64 x.index, .slice y1.A y1.n y1.c, .slice A2 ([] ++ x.pairs.xs).length c2, .slice y3.A y3.n y3.c]] fun bs w hS => ?_
 have hab : CState.abs (⟨x.index, y1, ⟨A2, c2, [] ++ x.pairs.xs⟩, y3⟩ : CState) = CState.abs x := by simp [CState.abs, *]
 exact ⟨(⟨x.index, y1, ⟨A2, c2, [] ++ x.pairs.xs⟩, y3⟩ : CState), rfl, hab, hS.outS (y := (⟨x.index, y1, ⟨A2, c2, [] ++ x.pairs.xs⟩, y3⟩ : CState)) ⟨(allR_sub (.tail _ (.tail _ (.head _))) (hS.res _ (.tail _ (.tail _ (.head _))))), (allR_row (.tail _ (.head _)) (hS.res _ (.tail _ (.head _))) (fun z hz => Sl.rd.mem (s := x.pairs) (And.left (And.right (Rds.kp hx hS.kp))) z (by simpa using hz))), (allR_sub (.head _) (hS.res _ (.head _)))⟩⟩

theorem machine_Copy {B : Nat → Prop} (x : CState) (w : World) (hx : Rds.sub B w x) (hsm : Rds.small x) : Calls Tryz.prog 22 #[.agg #[.int .i64 x.index, .slice x.locks.A x.locks.n x.locks.c, .slice x.pairs.A x.pairs.n x.pairs.c, .slice x.sessions.A x.sessions.n x.sessions.c]] w fun e w' => ∃ y : CState, e = .returned (y.val) ∧ y.abs = x.abs ∧ FreshS w w' y := by
 have okx := Rds.okof hx
 refine M0 Tryz.func22 (J := ?_)
 refine Mda 12 [] [] [] Tryz_mixed (J := ?_)
 refine Mu Tryz.call68 (fun bs w hS => lock_CopyS x.locks w (And.left (Rds.kp hx hS.kp)) (And.left hsm)) (J := ?_)
 rintro fp1 y1 hF1 hok1
 refine Mf Tryz.call69 (fun bs w hS => clone_Pair x.pairs w (And.left (And.right (Rds.kp hx hS.kp))) (And.left (And.left (And.right hsm)))) (J := ?_)
 rintro y2 hF2
 refine Mu Tryz.call70 (fun bs w hS => session_CopyS x.sessions w (And.right (And.right (Rds.kp hx hS.kp))) (And.right (And.right hsm))) (J := ?_)
 rintro fp4 y4 hF4 hok4
 refine Mt [.agg #[.int .i64 x.index, .slice y1.A y1.n y1.c, .slice y2.A y2.n y2.c, .slice y4.A y4.n y4.c]] fun bs w hS => ?_
 have hab : CState.abs (⟨x.index, y1, y2, y4⟩ : CState) = CState.abs x := by simp [CState.abs, *]
 exact ⟨(⟨x.index, y1, y2, y4⟩ : CState), rfl, hab, hS.outS (y := (⟨x.index, y1, y2, y4⟩ : CState)) ⟨(allR_sub (.tail _ (.tail _ (.head _))) (hS.res _ (.tail _ (.tail _ (.head _))))), (allR_row (.tail _ (.head _)) (hS.res _ (.tail _ (.head _))) (fun z hz => Sl.rd.mem (And.left (And.right (Rds.kp hx hS.kp))) z (hF2 ▸ hz))), (allR_sub (.head _) (hS.res _ (.head _)))⟩⟩

theorem ref_ReplicaCopy {B : Nat → Prop} (x : CReplica) (w : World) (hx : Rds.sub B w x) (hsm : Rds.small x) : Calls Tryz.prog 10 #[.agg #[.int .i64 x.log.base, .slice x.log.entries.A x.log.entries.n x.log.entries.c, .string x.snap, .int .i64 x.state.index, .slice x.state.locks.A x.state.locks.n x.state.locks.c, .slice x.state.pairs.A x.state.pairs.n x.state.pairs.c, .slice x.state.sessions.A x.state.sessions.n x.state.sessions.c]] w fun e w' => ∃ y : CReplica, e = .returned (y.val) ∧ y.abs = x.abs ∧ FreshS w w' y := by
 have okx := Rds.okof hx
 refine M0 Tryz.func10 (J := ?_)
 refine Mda 9 [] [] [] Tryz_mixed (J := ?_)
 refine Mu Tryz.call46 (fun bs w hS => ref_LogCopy x.log w (And.left (And.right (Rds.kp hx hS.kp))) (And.left hsm)) (J := ?_)
 rintro fp1 y1 hF1 hok1
 refine Mu Tryz.call6 (fun bs w hS => ref_StateCopy x.state w ⟨(And.left (And.right (And.right (Rds.kp hx hS.kp)))), (And.left (And.right (And.right (And.right (Rds.kp hx hS.kp))))), (And.right (And.right (And.right (And.right (Rds.kp hx hS.kp)))))⟩ ⟨(And.left (And.right hsm)), (And.left (And.right (And.right hsm))), (And.right (And.right (And.right hsm)))⟩) (J := ?_)
 rintro fp2 y2 hF2 hok2
 refine Mt [.agg #[.int .i64 y1.base, .slice y1.entries.A y1.entries.n y1.entries.c, .string x.snap, .int .i64 y2.index, .slice y2.locks.A y2.locks.n y2.locks.c, .slice y2.pairs.A y2.pairs.n y2.pairs.c, .slice y2.sessions.A y2.sessions.n y2.sessions.c]] fun bs w hS => ?_
 have hab : CReplica.abs (⟨⟨y1.base, y1.entries⟩, x.snap, ⟨y2.index, y2.locks, y2.pairs, y2.sessions⟩⟩ : CReplica) = CReplica.abs x := by simp [CReplica.abs, *]
 exact ⟨(⟨⟨y1.base, y1.entries⟩, x.snap, ⟨y2.index, y2.locks, y2.pairs, y2.sessions⟩⟩ : CReplica), rfl, hab, hS.outS (y := (⟨⟨y1.base, y1.entries⟩, x.snap, ⟨y2.index, y2.locks, y2.pairs, y2.sessions⟩⟩ : CReplica)) ⟨(And.left okx), (allR_sub (y := y1) (.tail _ (.head _)) (hS.res _ (.tail _ (.head _)))), (And.left (allR_sub (y := y2) (.head _) (hS.res _ (.head _)))), (And.left (And.right (allR_sub (y := y2) (.head _) (hS.res _ (.head _))))), (And.right (And.right (allR_sub (y := y2) (.head _) (hS.res _ (.head _)))))⟩⟩

theorem replica_Copy {B : Nat → Prop} (x : CReplica) (w : World) (hx : Rds.sub B w x) (hsm : Rds.small x) : Calls Tryz.prog 48 #[.agg #[.int .i64 x.log.base, .slice x.log.entries.A x.log.entries.n x.log.entries.c, .string x.snap, .int .i64 x.state.index, .slice x.state.locks.A x.state.locks.n x.state.locks.c, .slice x.state.pairs.A x.state.pairs.n x.state.pairs.c, .slice x.state.sessions.A x.state.sessions.n x.state.sessions.c]] w fun e w' => ∃ y : CReplica, e = .returned (y.val) ∧ y.abs = x.abs ∧ FreshS w w' y := by
 have okx := Rds.okof hx
 refine M0 Tryz.func48 (J := ?_)
 refine Mda 9 [] [] [] Tryz_mixed (J := ?_)
 refine Mu Tryz.call112 (fun bs w hS => log_Copy x.log w (And.left (And.right (Rds.kp hx hS.kp))) (And.left hsm)) (J := ?_)
 rintro fp1 y1 hF1 hok1
 refine Mu Tryz.call22 (fun bs w hS => machine_Copy x.state w ⟨(And.left (And.right (And.right (Rds.kp hx hS.kp)))), (And.left (And.right (And.right (And.right (Rds.kp hx hS.kp))))), (And.right (And.right (And.right (And.right (Rds.kp hx hS.kp)))))⟩ ⟨(And.left (And.right hsm)), (And.left (And.right (And.right hsm))), (And.right (And.right (And.right hsm)))⟩) (J := ?_)
 rintro fp2 y2 hF2 hok2
 refine Mt [.agg #[.int .i64 y1.base, .slice y1.entries.A y1.entries.n y1.entries.c, .string x.snap, .int .i64 y2.index, .slice y2.locks.A y2.locks.n y2.locks.c, .slice y2.pairs.A y2.pairs.n y2.pairs.c, .slice y2.sessions.A y2.sessions.n y2.sessions.c]] fun bs w hS => ?_
 have hab : CReplica.abs (⟨⟨y1.base, y1.entries⟩, x.snap, ⟨y2.index, y2.locks, y2.pairs, y2.sessions⟩⟩ : CReplica) = CReplica.abs x := by simp [CReplica.abs, *]
 exact ⟨(⟨⟨y1.base, y1.entries⟩, x.snap, ⟨y2.index, y2.locks, y2.pairs, y2.sessions⟩⟩ : CReplica), rfl, hab, hS.outS (y := (⟨⟨y1.base, y1.entries⟩, x.snap, ⟨y2.index, y2.locks, y2.pairs, y2.sessions⟩⟩ : CReplica)) ⟨(And.left okx), (allR_sub (y := y1) (.tail _ (.head _)) (hS.res _ (.tail _ (.head _)))), (And.left (allR_sub (y := y2) (.head _) (hS.res _ (.head _)))), (And.left (And.right (allR_sub (y := y2) (.head _) (hS.res _ (.head _))))), (And.right (And.right (allR_sub (y := y2) (.head _) (hS.res _ (.head _)))))⟩⟩

theorem same_replica {B B' : Nat → Prop} (a b : CReplica) (w : World) (ha : Rds.sub B w a) (hb : Rds.sub B' w b) (he : a.abs = b.abs) : Calls Tryz.prog 13 #[.agg #[.int .i64 a.log.base, .slice a.log.entries.A a.log.entries.n a.log.entries.c, .string a.snap, .int .i64 a.state.index, .slice a.state.locks.A a.state.locks.n a.state.locks.c, .slice a.state.pairs.A a.state.pairs.n a.state.pairs.c, .slice a.state.sessions.A a.state.sessions.n a.state.sessions.c], .agg #[.int .i64 b.log.base, .slice b.log.entries.A b.log.entries.n b.log.entries.c, .string b.snap, .int .i64 b.state.index, .slice b.state.locks.A b.state.locks.n b.state.locks.c, .slice b.state.pairs.A b.state.pairs.n b.state.pairs.c, .slice b.state.sessions.A b.state.sessions.n b.state.sessions.c]] w fun e w' => e = .returned (.bool true) ∧ Kp [] w w' := by
 have oka := Rds.okof ha
 have okb := Rds.okof hb
 refine M0 Tryz.func13 (J := ?_)
 refine Md (a.snap = b.snap) (T := fun h1 => ?_) (F := fun h1 => ?_)
 rotate_left
 · exact absurd (congrArg (fun q => q.snap) he) h1
 refine Mp Tryz.call53 (fun bs w hS => same_log a.log b.log w (And.left (And.right (Rds.kp ha hS.kp))) (And.left (And.right (Rds.kp hb hS.kp))) (congrArg DReplica.log he)) (J := ?_)
 refine Mq 17 true rfl (J := ?_)
 refine Mp Tryz.call9 (fun bs w hS => same_state a.state b.state w ⟨(And.left (And.right (And.right (Rds.kp ha hS.kp)))), (And.left (And.right (And.right (And.right (Rds.kp ha hS.kp))))), (And.right (And.right (And.right (And.right (Rds.kp ha hS.kp)))))⟩ ⟨(And.left (And.right (And.right (Rds.kp hb hS.kp)))), (And.left (And.right (And.right (And.right (Rds.kp hb hS.kp))))), (And.right (And.right (And.right (And.right (Rds.kp hb hS.kp)))))⟩ (congrArg DReplica.state he)) (J := ?_)
 exact Mt [.bool true] fun bs w hS => ⟨rfl, hS.kp⟩

theorem idxF_Session {B : Nat → Prop} (s : Sl (Fl CSession)) (p : Fl CSession → Bool) (kf : Nat) (caps : Array Value) (w : World) (hs : s.rd B w) (hcall : ∀ args w, (callFunc kf args).run Tryz.prog w = .ok (.enter kf args) w)
    (hf : ∀ (w' : World) (x : (Fl CSession)), x ∈ s.xs → Kp [] w w' → Calls Tryz.prog kf (#[.agg #[.int .i64 x.v.client, .int .i64 x.v.id, .int .i64 x.v.acked, .int .i64 x.v.last, .slice x.v.replies.A x.v.replies.n x.v.replies.c]] ++ caps) w' fun e w'' => e = .returned (.bool (p x)) ∧ Kp [] w' w'') : Calls Tryz.prog 137 #[.slice s.A s.n s.c, .func (.func kf) #[] caps] w fun e w' => e = .returned (.int .i64 (mIdx p s.xs)) ∧ Kp [] w w' := by
 have oks := Sl.rd.ok hs
 have ncs := Sl.ok.nc oks
 have hns : s.n = s.xs.length := rfl
 refine M0 Tryz.func137 (J := ?_)
 refine Ml (σ := Nat) (fun i => i ≤ s.n ∧ ∀ j, j < i → p (s.at j) = false) (fun i => s.n - i) (fun _ => []) [8, 7, 0, 1] (fun i => [(8, vI (i : Int))]) (fun _ => []) 0 ⟨Nat.zero_le _, fun j hj => absurd hj (Nat.not_lt_zero _)⟩ (B := ?_)
 rintro i ⟨hi, hI⟩ _ on1
 refine Md ((i : Int) < (s.n : Int)) (T := fun h1 => ?_) (F := fun h1 => ?_)
 rotate_left
 · refine Mt [.int .i64 (-1)] fun bs w hS => ?_
   refine ⟨?_, hS.kp⟩
   rw [mIdx_none fun j hj => hI j (by omega)]
   rfl
 refine Mi (pA 14 15 (i : Int) i (rdk hs)) (J := ?_)
 refine Mv hcall (fun bs w hS => hf w (s.at i) (List.mem_of_getElem? (Sl.at_some (show i < s.n by omega))) hS.kp) (J := ?_)
 refine Mb (p (s.at i)) (T := fun h2 => ?_) (F := fun h2 => ?_)
 · refine Mt [.int .i64 (i : Int)] fun bs w hS => ?_
   refine ⟨?_, hS.kp⟩
   rw [mIdx_here (i := i) (by omega) (by assumption) hI]
   rfl
 refine Mi (pR ((i : Int) + 1)) (J := ?_)
 exact on1 (i + 1) ⟨by omega, fun j hj => by rcases Nat.lt_succ_iff_lt_or_eq.1 hj with h | h; exact hI j h; subst h; assumption⟩ (by omega)
theorem idx_Session {B : Nat → Prop} (s : Sl CSession) (p : CSession → Bool) (kf : Nat) (caps : Array Value) (w : World) (hs : s.rd B w) (hcall : ∀ args w, (callFunc kf args).run Tryz.prog w = .ok (.enter kf args) w)
    (hf : ∀ (w' : World) (x : CSession), x ∈ s.xs → Kp [] w w' → Calls Tryz.prog kf (#[.agg #[.int .i64 x.client, .int .i64 x.id, .int .i64 x.acked, .int .i64 x.last, .slice x.replies.A x.replies.n x.replies.c]] ++ caps) w' fun e w'' => e = .returned (.bool (p x)) ∧ Kp [] w' w'') : Calls Tryz.prog 137 #[.slice s.A s.n s.c, .func (.func kf) #[] caps] w fun e w' => e = .returned (.int .i64 (mIdx p s.xs)) ∧ Kp [] w w' := by
  have h := idxF_Session (⟨s.A, s.c, fls s.xs⟩ : Sl (Fl CSession)) (fun x => p x.v) kf caps w hs.fl hcall (fun w' x hx hk => hf w' x.v (by obtain ⟨y, hy, rfl⟩ := List.mem_map.1 hx; exact hy) hk)
  simp only [mIdx_fl, Sl.n, List.length_map] at h
  exact h

theorem delF_Session (A : Option Addr) (c : Nat) (L : List (Fl CSession)) (p : Fl CSession → Bool) (kf : Nat) (caps : Array Value) (w : World) (hrow : (rowA 118 A c L).p w) (hlt : ∀ b, b ∈ (rowA 118 A c L).fp → b < w.heap.size) (hn : L.length ≤ 1048576) (hcall : ∀ args w, (callFunc kf args).run Tryz.prog w = .ok (.enter kf args) w)
    (hf : ∀ (w' : World) (x : (Fl CSession)), x ∈ L → Kp (rowA 118 A c L).fp w w' → Calls Tryz.prog kf (#[.agg #[.int .i64 x.v.client, .int .i64 x.v.id, .int .i64 x.v.acked, .int .i64 x.v.last, .slice x.v.replies.A x.v.replies.n x.v.replies.c]] ++ caps) w' fun e w'' => e = .returned (.bool (p x)) ∧ Kp [] w' w'') :
    Calls Tryz.prog 71 #[.slice A L.length c, .func (.func kf) #[] caps] w fun e w' => e = .returned (.slice A (L.filter fun x => !p x).length c) ∧ Turned (rowA 118 A c L) w w' (rowA 118 A c (L.filter fun x => !p x)) := by
 have hrok := rowA_rok hrow
 have nc := hrok.2
 refine Mj Tryz.func71 (WS.start1 w _ hrow (by cases A <;> simp [rowA, rowR]) hlt) (J := ?_)
 refine Mp Tryz.call137 (fun bs w hS => idxF_Session (⟨A, c, L⟩ : Sl (Fl CSession)) p kf caps w (Rr (B := anyB) (hS.res _ (.head _)) (fun _ _ => trivial) (fun _ _ => trivial)) hcall (fun w' x hx hk => hf w' x hx (hS.kp.step hk (fun i hi => by cases hi)))) (J := ?_)
 refine Md (mIdx p L = (-1)) (T := fun h1 => ?_) (F := fun h1 => ?_)
 · refine Mt [.slice A L.length c] fun bs w hS => ?_
   have hid : L.filter (fun x => !p x) = L := delF_none (by assumption)
   rw [hid]
   exact ⟨rfl, hS.turned⟩
 obtain ⟨i0, hi1, hi2, hi3, hi4⟩ := delF_some (p := p) h1
 refine Mi (pR ((mIdx p L) + 1)) (J := ?_)
 refine Mk 6 (show (vI ((mIdx p L) + 1)) = vI (((i0 : Int)) + 1) by rw [hi4]) (J := ?_)
 refine Mk 5 (show (vI (mIdx p L)) = vI ((i0 : Int)) by rw [hi4]) (J := ?_)
 refine Ml (σ := Nat × Nat × List (Fl CSession)) (fun ⟨i, j, M⟩ => i < j ∧ j ≤ L.length ∧ M.length = L.length ∧ M.take i = (L.take j).filter (fun x => !p x) ∧ M.drop j = L.drop j) (fun ⟨i, j, M⟩ => L.length - j) (fun ⟨i, j, M⟩ => [rowA 118 A c (M : List (Fl CSession))]) [6, 5, 0, 1] (fun ⟨i, j, M⟩ => [(6, vI (j : Int)), (5, vI (i : Int))]) (fun _ => []) (⟨i0, i0 + 1, L⟩) ⟨by omega, by omega, rfl, delF_start hi1 hi2 hi3, rfl⟩ (B := ?_)
 rintro ⟨i, j, M⟩ ⟨h1, h2, hM, hT, hD⟩ _ on1
 refine Md ((j : Int) < (L.length : Int)) (T := fun h2 => ?_) (F := fun h2 => ?_)
 rotate_left
 · refine Mi (pG [(38, .sl i L.length)] (oc (rfl : (i : Int) = (i : Int)) (oc (rfl : L.length = L.length) (oc ((by omega) : i ≤ L.length) on)))) (J := ?_)
   refine Mcl i (L.length - i) (by omega) (by omega) (J := ?_)
   refine Mi (pG [(41, .sl 0 i)] (oc (rfl : 0 = 0) (oc (rfl : (i : Int) = (i : Int)) (oc ((by omega) : i ≤ c) on)))) (J := ?_)
   refine Mt [.slice A i c] fun bs w hS => ?_
   have hid : M.take i = L.filter (fun x => !p x) := by rw [hT, show j = L.length by omega, List.take_length]
   have hil : (L.filter (fun x => !p x)).length = i := by rw [← hid, List.length_take]; omega
   have hS2 := hS
   rw [hid] at hS2
   refine ⟨?_, hS2.turned⟩
   rw [hil]
   rfl
 refine Mi (pc (pIo 24 (j : Int) j L.length (.head _)) (pEo 25 j (.head _))) (J := ?_)
 refine Mv hcall (fun bs w hS => hf w (M.getD j default) (by rw [getD_drop hD (by omega)]; exact mem_of_getD (by omega)) hS.kp) (J := ?_)
 refine Mbn (p (M.getD j default)) (T := fun h3 => ?_) (F := fun h3 => ?_)
 · refine Mi (pR ((j : Int) + 1)) (J := ?_)
   have hjL : M.getD j default = L.getD j default := getD_drop hD (by omega)
   exact on1 (⟨i, j + 1, M⟩ : Nat × Nat × List (Fl CSession)) ⟨by omega, by omega, hM, delF_skip (by omega) hT (hjL ▸ by assumption), drop_next hD⟩ (by show L.length - (j + 1) < L.length - j; omega)
 refine Mi (pIo 33 (i : Int) i L.length (.head _)) (J := ?_)
 refine Mse i (M.getD j default) (by omega) (J := ?_)
 intro L2 hL2 hl2
 refine Mi (pc (pR ((i : Int) + 1)) (pR ((j : Int) + 1))) (J := ?_)
 have hjL : M.getD j default = L.getD j default := getD_drop hD (by omega)
 exact on1 (⟨i + 1, j + 1, L2⟩ : Nat × Nat × List (Fl CSession)) ⟨by omega, by omega, by omega, by rw [hL2]; exact delF_keep h1 (by omega) hM hT (hjL ▸ by assumption) hjL, by rw [hL2]; exact delF_drop h1 hD⟩ (by show L.length - (j + 1) < L.length - j; omega)
theorem del_Session (A : Option Addr) (c : Nat) (L : List CSession) (p : CSession → Bool) (kf : Nat) (caps : Array Value) (w : World) (hrow : (rowA 118 A c L).p w) (hlt : ∀ b, b ∈ (rowA 118 A c L).fp → b < w.heap.size) (hn : L.length ≤ 1048576) (hcall : ∀ args w, (callFunc kf args).run Tryz.prog w = .ok (.enter kf args) w)
    (hf : ∀ (w' : World) (x : CSession), x ∈ L → Kp (rowA 118 A c L).fp w w' → Calls Tryz.prog kf (#[.agg #[.int .i64 x.client, .int .i64 x.id, .int .i64 x.acked, .int .i64 x.last, .slice x.replies.A x.replies.n x.replies.c]] ++ caps) w' fun e w'' => e = .returned (.bool (p x)) ∧ Kp [] w' w'') :
    Calls Tryz.prog 71 #[.slice A L.length c, .func (.func kf) #[] caps] w fun e w' => e = .returned (.slice A (L.filter fun x => !p x).length c) ∧ Turned (rowA 118 A c L) w w' (rowA 118 A c (L.filter fun x => !p x)) := by
  have h := delF_Session A c (fls L) (fun x => p x.v) kf caps w (by rw [rowA_fl]; exact hrow) (by rw [rowA_fl]; exact hlt) (by simpa using hn) hcall (fun w' x hx hk => hf w' x.v (by obtain ⟨y, hy, rfl⟩ := List.mem_map.1 hx; exact hy) (by rwa [rowA_fl] at hk))
  have e1 : (fls L).filter (fun x => !(p x.v)) = fls (L.filter fun x => !p x) := fls_filter (fun x => !p x) L
  simp only [e1, rowA_fl, List.length_map] at h
  exact h

theorem clo_session_Fresh_1 (x : CSession) (n : Int) (b : Nat) (w : World) (hb : (blkR b 3 [.int .i64 n]).p w) (h0 : 0 ≤ n ∧ n ≤ 1073741824) (h1 : 1 ≤ x.last ∧ x.last ≤ n) : Calls Tryz.prog 72 #[.agg #[.int .i64 x.client, .int .i64 x.id, .int .i64 x.acked, .int .i64 x.last, .slice x.replies.A x.replies.n x.replies.c], .pointer (some (⟨b, 0, none⟩ : Addr))] w fun e w' => e = .returned (.bool (stale n x.abs)) ∧ Kp [] w w' := by
 refine M0 Tryz.func72 (J := ?_)
 refine Mi (pc (pX 4 [.int .i64 n] (fun w hk hr => (blkR_pre (blkR_kp hb hk) 1 rfl))) (pc (pR (n + 1)) (pR ((n + 1) - x.last)))) (J := ?_)
 exact Mt [.bool (decide ((40 : Int) < (n + 1) - x.last))] fun bs w hS => ⟨rfl, hS.kp⟩

theorem session_Fresh {B : Nat → Prop} (s : Sl CSession) (n : Int) (w : World) (hs : s.rd B w) : Calls Tryz.prog 23 #[.slice s.A s.n s.c, .int .i64 n] w fun e w' => ∃ y : Sl CSession, e = .returned (.tuple #[y.val, .int .i64 (mFresh (s.xs.map CSession.abs) n).2]) ∧ y.xs.map CSession.abs = (mFresh (s.xs.map CSession.abs) n).1 ∧ FreshS w w' y := by
 have oks := Sl.rd.ok hs
 have ncs := Sl.ok.nc oks
 have hns : s.n = s.xs.length := rfl
 have hml : (s.xs.map CSession.abs).length = s.n := by simp
 refine M0 Tryz.func23 (J := ?_)
 refine Mp Tryz.call63 (fun bs w hS => session_Check s n w (Sl.rd.kp hs hS.kp)) (J := ?_)
 refine Mdn (mSess (s.xs.map CSession.abs) n = 0) (T := fun h1 => ?_) (F := fun h1 => ?_)
 rotate_left
 · refine Mt [.slice none 0 0, .int .i64 (mSess (s.xs.map CSession.abs) n)] fun bs w hS => ?_
   refine ⟨Sl.nil, ?_, ?_, hS.outS (Sl.rd_nil _ _)⟩
   · simp only [retOf, den, List.map_cons, List.map_nil]; rw [fresh_bad (by assumption)]; rfl
   · rw [fresh_bad (by assumption)]; rfl
 obtain ⟨hi0, hi1, hln, hall⟩ := mSess_bd h1
 have hn1 : 0 ≤ n ∧ n ≤ 1073741824 := ⟨hi0, hi1⟩
 have hbds : ∀ x, x ∈ s.xs.map CSession.abs → 1 ≤ x.last ∧ x.last ≤ n := fun x hx => by obtain ⟨j, hj, rfl⟩ := List.getElem_of_mem hx; have := sessF_bd (hall j hj); rw [List.getD_eq_getElem?_getD, List.getElem?_eq_getElem hj] at this; simp only [Option.getD_some] at this; omega
 refine Mf (σ := Sl CSession) (v := fun y1 => .slice y1.A y1.n y1.c) (F := fun y1 => y1.xs.map CSession.abs = s.xs.map CSession.abs) (r := fun y1 => sessR 118 141 y1) Tryz.call70 (fun bs w hS => session_Copy s w (Sl.rd.kp hs hS.kp) (small_sess (by assumption))) (J := ?_)
 rintro y1 hF1
 refine m_split2 ?_
 have hnm1 := sess_texts (hs) hF1
 refine m_know (F := ∀ i, i < y1.n → Rds.ok (y1.at i)) (fun bs w hS i hi => Rds.okof (Sl.rd.sub (own_sess (A := y1.A) (c := y1.c) (L := y1.xs) (hS.res _ (.head _)) (hS.res _ (.tail _ (.head _))) hnm1) hi)) fun okown1 => ?_
 refine m_know (F := RowOk y1.A y1.c (y1.xs : List CSession)) (fun bs w hS => rowA_rok (hS.res _ (.tail _ (.head _)))) fun hrow1 => ?_
 have nchrow1 := hrow1.2
 have hnn := map_n hF1
 have hnx : y1.n = y1.xs.length := rfl
 have hlast : ∀ x, x ∈ y1.xs → 1 ≤ x.last ∧ x.last ≤ n := fun x hx => hbds x.abs (hF1 ▸ List.mem_map.2 ⟨x, hx, rfl⟩)
 have hok1 : Sl.ok y1 := ⟨nchrow1.1, by unfold maxLen; exact nchrow1.2, fun i hi => ⟨hrow1.1 i hi, okown1 i hi⟩⟩
 refine m_f1 ?_
 refine Mtu (σ := Unit) (v := fun _ => .slice y1.A (y1.xs.filter fun x : CSession => !stale n x.abs).length y1.c) (F := fun _ => True) (r := fun _ => rowA 118 y1.A y1.c (y1.xs.filter fun x : CSession => !stale n x.abs : List CSession)) (vs := fun bs => [.slice y1.A y1.n y1.c, .func (.func 72) #[] #[.pointer (some (adr bs 0 0))]]) Tryz.call71 (fun bs w hS => (del_Session y1.A y1.c y1.xs (fun x : CSession => stale n x.abs) 72 #[.pointer (some (adr bs 0 0))] w (hS.res _ (.head _)) hS.head1.2.2 (by show y1.n ≤ _; omega) Tryz.call72 (fun w' x hx hk => clo_session_Fresh_1 x n (bs.getD 0 0) w' (show (blkR _ _ _).p w' from hS.blkIn (i := 0) (b := ⟨3, [vI n]⟩) hk (by kernel_rfl) (by simp)) hn1 (hlast x hx))).mono (fun e w' ⟨h1, h2⟩ => ⟨(), h1, trivial, h2⟩)) (J := ?_)
 rintro _ _
 refine Mt [.slice y1.A (y1.xs.filter fun x : CSession => !stale n x.abs).length y1.c, .int .i64 0] fun bs w hS => ?_
 have hm := fresh_ok (l := s.xs.map CSession.abs) (index := n) (by assumption)
 rw [hm]
 refine ⟨⟨y1.A, y1.c, y1.xs.filter fun x : CSession => !stale n x.abs⟩, rfl, ?_, hS.outS (y := (⟨y1.A, y1.c, y1.xs.filter fun x : CSession => !stale n x.abs⟩ : Sl CSession)) (out_sess (L0 := y1.xs) (.head _) (.tail _ (.head _)) hS.res (fun x hx => (List.mem_filter.1 hx).1) hnm1)⟩
 show (List.filter _ _).map _ = _
 rw [filter_abs, hF1]

theorem ref_FreshOf {B : Nat → Prop} (s : Sl CSession) (n : Int) (w : World) (hs : s.rd B w) : Calls Tryz.prog 32 #[.slice s.A s.n s.c, .int .i64 n] w fun e w' => ∃ y : Sl CSession, e = .returned (.tuple #[y.val, .int .i64 (mFresh (s.xs.map CSession.abs) n).2]) ∧ y.xs.map CSession.abs = (mFresh (s.xs.map CSession.abs) n).1 ∧ FreshS w w' y := by
 have oks := Sl.rd.ok hs
 have ncs := Sl.ok.nc oks
 have hns : s.n = s.xs.length := rfl
 have hml : (s.xs.map CSession.abs).length = s.n := by simp
 refine M0 Tryz.func32 (J := ?_)
 refine Mp Tryz.call92 (fun bs w hS => ref_SessionsFault s n w (Sl.rd.kp hs hS.kp)) (J := ?_)
 refine Mdn (mSess (s.xs.map CSession.abs) n = 0) (T := fun h1 => ?_) (F := fun h1 => ?_)
 rotate_left
 · refine Mt [.slice none 0 0, .int .i64 (mSess (s.xs.map CSession.abs) n)] fun bs w hS => ?_
   refine ⟨Sl.nil, ?_, ?_, hS.outS (Sl.rd_nil _ _)⟩
   · simp only [retOf, den, List.map_cons, List.map_nil]; rw [fresh_bad (by assumption)]; rfl
   · rw [fresh_bad (by assumption)]; rfl
 obtain ⟨hi0, hi1, hln, hall⟩ := mSess_bd h1
 have hbds : ∀ x, x ∈ s.xs.map CSession.abs → 1 ≤ x.last ∧ x.last ≤ n := fun x hx => by obtain ⟨j, hj, rfl⟩ := List.getElem_of_mem hx; have := sessF_bd (hall j hj); rw [List.getD_eq_getElem?_getD, List.getElem?_eq_getElem hj] at this; simp only [Option.getD_some] at this; omega
 refine Mf (σ := Sl CSession) (v := fun y1 => .slice y1.A y1.n y1.c) (F := fun y1 => y1.xs.map CSession.abs = s.xs.map CSession.abs) (r := fun y1 => sessR 118 141 y1) Tryz.call19 (fun bs w hS => ref_SessionsCopy s w (Sl.rd.kp hs hS.kp) (small_sess (by assumption))) (J := ?_)
 rintro y1 hF1
 refine m_split2 ?_
 have hnm1 := sess_texts (hs) hF1
 refine m_know (F := ∀ i, i < y1.n → Rds.ok (y1.at i)) (fun bs w hS i hi => Rds.okof (Sl.rd.sub (own_sess (A := y1.A) (c := y1.c) (L := y1.xs) (hS.res _ (.head _)) (hS.res _ (.tail _ (.head _))) hnm1) hi)) fun okown1 => ?_
 refine m_know (F := RowOk y1.A y1.c (y1.xs : List CSession)) (fun bs w hS => rowA_rok (hS.res _ (.tail _ (.head _)))) fun hrow1 => ?_
 have nchrow1 := hrow1.2
 have hnn := map_n hF1
 have hnx : y1.n = y1.xs.length := rfl
 have hlast : ∀ x, x ∈ y1.xs → 1 ≤ x.last ∧ x.last ≤ n := fun x hx => hbds x.abs (hF1 ▸ List.mem_map.2 ⟨x, hx, rfl⟩)
 have hok1 : Sl.ok y1 := ⟨nchrow1.1, by unfold maxLen; exact nchrow1.2, fun i hi => ⟨hrow1.1 i hi, okown1 i hi⟩⟩
 refine m_rowA (α := CSession) 118 ?_
 refine Ml (σ := Nat × Option Addr × Nat × List CSession) (fun ⟨i, A, c, L⟩ => i ≤ y1.n ∧ L = (y1.xs.take i).filter (fun x => !stale n x.abs)) (fun ⟨i, A, c, L⟩ => y1.n - i) (fun ⟨i, A, c, L⟩ => [rowA 118 A c (L : List CSession), ownL (keptR 141) y1.xs, rowA 118 y1.A y1.c (y1.xs : List CSession)]) [9, 8, 7, 1] (fun ⟨i, A, c, L⟩ => [(9, vI (i : Int)), (7, .v (.slice A L.length c))]) (fun _ => []) (⟨0, none, 0, []⟩) ⟨Nat.zero_le _, rfl⟩ (B := ?_)
 rintro ⟨i, A, c, L⟩ ⟨hi, hI⟩ _ on1
 have hLn : L.length ≤ i := by rw [hI]; exact Nat.le_trans (List.length_filter_le _ _) (by rw [List.length_take]; omega)
 refine Md ((i : Int) < (y1.n : Int)) (T := fun h2 => ?_) (F := fun h2 => ?_)
 rotate_left
 · refine Mt [.slice A L.length c, .int .i64 0] fun bs w hS => ?_
   have hm := fresh_ok (l := s.xs.map CSession.abs) (index := n) (by assumption)
   rw [hm]
   have hLe : L = y1.xs.filter fun x => !stale n x.abs := by rw [hI, take_all (by omega)]
   refine ⟨⟨A, c, L⟩, rfl, ?_, hS.outS (y := (⟨A, c, L⟩ : Sl CSession)) (out_sess (L0 := y1.xs) (.head _) (.tail _ (.head _)) hS.res (fun x hx => by rw [hLe] at hx; exact (List.mem_filter.1 hx).1) hnm1)⟩
   show L.map _ = _
   rw [hLe, filter_abs, hF1]
 have hla := hlast (y1.xs.getD i default) (mem_of_getD (by omega))
 refine Mi (pc (pIo 26 (i : Int) i y1.n (.tail _ (.tail _ (.head _)))) (pc (pFo 28 i 3 1 (.tail _ (.tail _ (.head _)))) (pR ((y1.xs.getD i default).last + 40)))) (J := ?_)
 refine Md (n < (y1.xs.getD i default).last + 40) (T := fun h3 => ?_) (F := fun h3 => ?_)
 rotate_left
 · refine Mi (pR ((i : Int) + 1)) (J := ?_)
   exact on1 (⟨i + 1, A, c, L⟩ : Nat × Option Addr × Nat × List CSession) ⟨by omega, by first | exact fresh_in hI (by omega) (decide_eq_false (show ¬ (40 < n + 1 - (y1.xs.getD i default).last) by omega)) | exact fresh_out hI (by omega) (decide_eq_true (show 40 < n + 1 - (y1.xs.getD i default).last by omega))⟩ (by show y1.n - (i + 1) < y1.n - i; omega)
 refine Mi (pc (pIo 35 (i : Int) i y1.n (.tail _ (.tail _ (.head _)))) (pEo 36 i (.tail _ (.tail _ (.head _))))) (J := ?_)
 refine M1 (J := ?_)
 refine Mal (α := CSession) 56 ([(⟨(y1.xs.getD i default).client, (y1.xs.getD i default).id, (y1.xs.getD i default).acked, (y1.xs.getD i default).last, (y1.xs.getD i default).replies⟩ : CSession)]) (J := ?_)
 intro A3 c3
 refine Mi (pR ((i : Int) + 1)) (J := ?_)
 exact on1 (⟨i + 1, A3, c3, L ++ [(⟨(y1.xs.getD i default).client, (y1.xs.getD i default).id, (y1.xs.getD i default).acked, (y1.xs.getD i default).last, (y1.xs.getD i default).replies⟩ : CSession)]⟩ : Nat × Option Addr × Nat × List CSession) ⟨by omega, by first | exact fresh_in hI (by omega) (decide_eq_false (show ¬ (40 < n + 1 - (y1.xs.getD i default).last) by omega)) | exact fresh_out hI (by omega) (decide_eq_true (show 40 < n + 1 - (y1.xs.getD i default).last by omega))⟩ (by show y1.n - (i + 1) < y1.n - i; omega)

theorem pair_Get {B : Nat → Prop} (s : Sl DPair) (t : ByteArray) (w : World) (hs : s.rd B w) : Calls Tryz.prog 86 #[.slice s.A s.n s.c, .string t] w fun e w' => e = .returned (.tuple #[.agg #[.int .i64 (mGot s.xs t).1.code, .int .i64 (mGot s.xs t).1.n, .string (mGot s.xs t).1.text], .int .i64 (mGot s.xs t).2]) ∧ Kp [] w w' := by
 have oks := Sl.rd.ok hs
 have ncs := Sl.ok.nc oks
 have hns : s.n = s.xs.length := rfl
 refine M0 Tryz.func86 (J := ?_)
 refine Mp Tryz.call65 (fun bs w hS => pair_Check s w (Sl.rd.kp hs hS.kp)) (J := ?_)
 refine Mdn (mPairs s.xs = 0) (T := fun h1 => ?_) (F := fun h1 => ?_)
 rotate_left
 · refine Mt [.agg #[.int .i64 0, .int .i64 0, .string emp], .int .i64 (mPairs s.xs)] fun bs w hS => ?_
   refine ⟨?_, hS.kp⟩
   simp only [retOf, den, List.map_cons, List.map_nil]
   rw [got_bad (by assumption)]
 have hln := (mPairs_bd h1).1
 refine Mp Tryz.call151 (fun bs w hS => pair_find s t w (Sl.rd.kp hs hS.kp) (by omega)) (J := ?_)
 refine Mbn (mBSf (fun x : DPair => cmpS x.name t) s.xs) (T := fun h2 => ?_) (F := fun h2 => ?_)
 rotate_left
 · refine Mt [.agg #[.int .i64 6, .int .i64 0, .string emp], .int .i64 0] fun bs w hS => ?_
   refine ⟨?_, hS.kp⟩
   simp only [retOf, den, List.map_cons, List.map_nil]
   have hb := (bsf_pair (l := s.xs) (by assumption) t).1
   rw [h2] at hb
   rw [got_none (by assumption) (by have := of_decide_eq_false hb.symm; omega)]
 have hlt := mBSf_lt h2
 refine Mda 13 [] [0] [] Tryz_mixed (J := ?_)
 refine Mih (pc (pI 26 ((mBS (fun x : DPair => cmpS x.name t) s.xs : Nat) : Int) (((mBS (fun x : DPair => cmpS x.name t) s.xs : Nat) : Int)).toNat (rdk hs)) (pc (pF 28 (((mBS (fun x : DPair => cmpS x.name t) s.xs : Nat) : Int)).toNat 2 1 (rdk hs)) (pc (pI 31 ((mBS (fun x : DPair => cmpS x.name t) s.xs : Nat) : Int) (((mBS (fun x : DPair => cmpS x.name t) s.xs : Nat) : Int)).toNat (rdk hs)) (pF 33 (((mBS (fun x : DPair => cmpS x.name t) s.xs : Nat) : Int)).toNat 1 1 (rdk hs))))) (J := ?_)
 refine Mt [.agg #[.int .i64 0, .int .i64 (s.at (((mBS (fun x : DPair => cmpS x.name t) s.xs : Nat) : Int)).toNat).version, .string (s.at (((mBS (fun x : DPair => cmpS x.name t) s.xs : Nat) : Int)).toNat).value], .int .i64 0] fun bs w hS => ?_
 refine ⟨?_, hS.kp⟩
 simp only [retOf, den, List.map_cons, List.map_nil]
 have hb := (bsf_pair (l := s.xs) (by assumption) t).1
 rw [h2] at hb
 have hc := (bsf_pair (l := s.xs) (by assumption) t).2 (by assumption)
 have hd := of_decide_eq_true hb.symm
 rw [got_here (by assumption) (by omega), ← hc, Int.toNat_natCast]
 rfl

theorem ref_GotOf {B : Nat → Prop} (s : Sl DPair) (t : ByteArray) (w : World) (hs : s.rd B w) : Calls Tryz.prog 40 #[.slice s.A s.n s.c, .string t] w fun e w' => e = .returned (.tuple #[.agg #[.int .i64 (mGot s.xs t).1.code, .int .i64 (mGot s.xs t).1.n, .string (mGot s.xs t).1.text], .int .i64 (mGot s.xs t).2]) ∧ Kp [] w w' := by
 have oks := Sl.rd.ok hs
 have ncs := Sl.ok.nc oks
 have hns : s.n = s.xs.length := rfl
 have hbd := mIdx_bd (fun x : DPair => decide (x.name = t)) s.xs
 refine M0 Tryz.func40 (J := ?_)
 refine Mp Tryz.call94 (fun bs w hS => ref_PairsFault s w (Sl.rd.kp hs hS.kp)) (J := ?_)
 refine Mdn (mPairs s.xs = 0) (T := fun h1 => ?_) (F := fun h1 => ?_)
 rotate_left
 · refine Mt [.agg #[.int .i64 0, .int .i64 0, .string emp], .int .i64 (mPairs s.xs)] fun bs w hS => ?_
   refine ⟨?_, hS.kp⟩
   simp only [retOf, den, List.map_cons, List.map_nil]
   rw [got_bad (by assumption)]
 have hln := (mPairs_bd h1).1
 refine Mp Tryz.call106 (fun bs w hS => tackroomref_pairAt s t w (Sl.rd.kp hs hS.kp)) (J := ?_)
 refine Md (mIdx (fun x : DPair => decide (x.name = t)) s.xs < 0) (T := fun h2 => ?_) (F := fun h2 => ?_)
 · refine Mt [.agg #[.int .i64 6, .int .i64 0, .string emp], .int .i64 0] fun bs w hS => ?_
   refine ⟨?_, hS.kp⟩
   simp only [retOf, den, List.map_cons, List.map_nil]
   rw [got_none (by assumption) (by assumption)]
 refine Mda 13 [] [0] [] Tryz_mixed (J := ?_)
 refine Mih (pc (pI 22 (mIdx (fun x : DPair => decide (x.name = t)) s.xs) (mIdx (fun x : DPair => decide (x.name = t)) s.xs).toNat (rdk hs)) (pc (pF 24 (mIdx (fun x : DPair => decide (x.name = t)) s.xs).toNat 2 1 (rdk hs)) (pc (pI 27 (mIdx (fun x : DPair => decide (x.name = t)) s.xs) (mIdx (fun x : DPair => decide (x.name = t)) s.xs).toNat (rdk hs)) (pF 29 (mIdx (fun x : DPair => decide (x.name = t)) s.xs).toNat 1 1 (rdk hs))))) (J := ?_)
 refine Mt [.agg #[.int .i64 0, .int .i64 (s.at (mIdx (fun x : DPair => decide (x.name = t)) s.xs).toNat).version, .string (s.at (mIdx (fun x : DPair => decide (x.name = t)) s.xs).toNat).value], .int .i64 0] fun bs w hS => ?_
 refine ⟨?_, hS.kp⟩
 simp only [retOf, den, List.map_cons, List.map_nil]
 rw [got_here (by assumption) (by assumption)]
 rfl

theorem has_Session {B : Nat → Prop} (s : Sl CSession) (p : CSession → Bool) (kf : Nat) (caps : Array Value) (w : World) (hs : s.rd B w) (hcall : ∀ args w, (callFunc kf args).run Tryz.prog w = .ok (.enter kf args) w)
    (hf : ∀ (w' : World) (x : CSession), x ∈ s.xs → Kp [] w w' → Calls Tryz.prog kf (#[.agg #[.int .i64 x.client, .int .i64 x.id, .int .i64 x.acked, .int .i64 x.last, .slice x.replies.A x.replies.n x.replies.c]] ++ caps) w' fun e w'' => e = .returned (.bool (p x)) ∧ Kp [] w' w'') : Calls Tryz.prog 73 #[.slice s.A s.n s.c, .func (.func kf) #[] caps] w fun e w' => e = .returned (.bool (decide ((0 : Int) ≤ mIdx p s.xs))) ∧ Kp [] w w' := by
 have oks := Sl.rd.ok hs
 have ncs := Sl.ok.nc oks
 have hns : s.n = s.xs.length := rfl
 refine M0 Tryz.func73 (J := ?_)
 refine Mp Tryz.call137 (fun bs w hS => idx_Session s p kf caps w (Sl.rd.kp hs hS.kp) hcall (fun w' x hx hk => hf w' x hx (hS.kp.step hk (fun i hi => by cases hi)))) (J := ?_)
 exact Mt [.bool (decide ((0 : Int) ≤ mIdx p s.xs))] fun bs w hS => ⟨rfl, hS.kp⟩

theorem clo_machine_gone_1 (x : CSession) (p : CSession) (b : Nat) (w : World) (hb : (blkR b 118 [.int .i64 p.client, .int .i64 p.id, .int .i64 p.acked, .int .i64 p.last, .slice p.replies.A p.replies.n p.replies.c]).p w) : Calls Tryz.prog 74 #[.agg #[.int .i64 x.client, .int .i64 x.id, .int .i64 x.acked, .int .i64 x.last, .slice x.replies.A x.replies.n x.replies.c], .pointer (some (⟨b, 0, none⟩ : Addr))] w fun e w' => e = .returned (.bool (decide (x.client = p.client))) ∧ Kp [] w w' := by
 refine M0 Tryz.func74 (J := ?_)
 refine Mi (pX 7 [.int .i64 p.client] (fun w hk hr => (blkR_fld (blkR_kp hb hk) 0 1 rfl))) (J := ?_)
 exact Mt [.bool (decide (x.client = p.client))] fun bs w hS => ⟨rfl, hS.kp⟩

end Go.Proofs.YtbjakddkfgjkaaaGreat.W
