/-
  The functions that the law ReplicaApplies reaches, walked: each returns what its model says.
  Conditions: those that each theorem states.
-/
import Derived.Test.YtbjakddkfgjkaaaGreatWReplicaAppliesa
set_option linter.unusedVariables false
set_option linter.unusedSimpArgs false
set_option maxRecDepth 100000
set_option maxHeartbeats 2000000
namespace Go.Proofs.YtbjakddkfgjkaaaGreat.W
open Go.Proofs.YtbjakddkfgjkaaaGreat.Fw Go.RowKit
attribute [local irreducible] JM nx

theorem ref_ReadyOf {B : Nat → Prop} (s : Sl CSession) (n : Int) (c : DCommand) (w : World) (hs : s.rd B w) (ht : inR c.client) (hc : Rds.sub B w c) : Calls Tryz.prog 36 #[s.val, vi n, c.val] w fun e w' => ∃ y : Sl CSession, e = .returned (.tuple #[y.val, ((mReady (s.xs.map CSession.abs) n c).2.1).val, vb (mReady (s.xs.map CSession.abs) n c).2.2.1, vi (mReady (s.xs.map CSession.abs) n c).2.2.2]) ∧ y.xs.map CSession.abs = (mReady (s.xs.map CSession.abs) n c).1 ∧ FreshS w w' y := by
 have oks := Sl.rd.ok hs
 have ncs := Sl.ok.nc oks
 have hns : s.n = s.xs.length := rfl
 have hml : (s.xs.map CSession.abs).length = s.n := by simp
 refine M0 ?_ Tryz.func36
 refine Mp ?_ Tryz.call92 (fun bs w hS => ref_SessionsFault s n w (Sl.rd.kp hs hS.kp))
 refine Md (mSess (s.xs.map CSession.abs) n = 0) (fun h1 => ?_) fun h1 => ?_
 rotate_left
 · refine My false true ?_ (df h1)
   refine Mt [vn, vz 0, vb false, vi (mSess (s.xs.map CSession.abs) n)] fun bs w hS => ?_
   have hm := ready_bad (c := c) h1
   refine ⟨Sl.nil, ?_, ?_, hS.outS (Sl.rd_nil _ _)⟩
   · rw [hm] <;> rfl
   · rw [hm] <;> rfl
 obtain ⟨hi0, hi1, hln, hall⟩ := mSess_bd h1
 have hln2 : s.xs.length ≤ 4 := by simpa using hln
 refine Md ((1073741824 : Int) ≤ n) (fun h2 => ?_) fun h2 => ?_
 · refine Mq 41 true ?_ rfl
   refine Mt [vn, vz 0, vb false, vi 2] fun bs w hS => ?_
   have hm := ready_inv (c := c) h1 (by unfold rInv; simp only [iT, iF] at *; omega)
   refine ⟨Sl.nil, ?_, ?_, hS.outS (Sl.rd_nil _ _)⟩
   · rw [hm] <;> rfl
   · rw [hm] <;> rfl
 refine Mp ?_ Tryz.call51 (fun bs w hS => ref_In c.seq 1 1048576 w)
 refine Mbn (inB c.seq 1 1048576) (fun h3 => ?_) fun h3 => ?_
 rotate_left
 · simp only [iT, iF] at h3
   refine Mq 41 true ?_ rfl
   refine Mt [vn, vz 0, vb false, vi 2] fun bs w hS => ?_
   have hm := ready_inv (c := c) h1 (by unfold rInv; simp only [iT, iF] at *; omega)
   refine ⟨Sl.nil, ?_, ?_, hS.outS (Sl.rd_nil _ _)⟩
   · rw [hm] <;> rfl
   · rw [hm] <;> rfl
 simp only [iT, iF] at h3
 refine Mi ?_ (pR (c.seq - 1))
 refine Mp ?_ Tryz.call51 (fun bs w hS => ref_In c.acked 0 (c.seq - 1) w)
 refine Mbn (inB c.acked 0 (c.seq - 1)) (fun h4 => ?_) fun h4 => ?_
 rotate_left
 · simp only [iT, iF] at h4
   refine Mq 41 true ?_ rfl
   refine Mt [vn, vz 0, vb false, vi 2] fun bs w hS => ?_
   have hm := ready_inv (c := c) h1 (by unfold rInv; simp only [iT, iF] at *; omega)
   refine ⟨Sl.nil, ?_, ?_, hS.outS (Sl.rd_nil _ _)⟩
   · rw [hm] <;> rfl
   · rw [hm] <;> rfl
 simp only [iT, iF] at h4
 refine My true true ?_ (dt h1)
 refine Mf ?_ Tryz.call19 (fun bs w hS => ref_SessionsCopy s w (Sl.rd.kp hs hS.kp) (small_sess (by assumption)))
 rintro y1 hF1
 refine m_split2 ?_
 obtain ⟨A1, c1, S1⟩ := y1
 have hF1 : S1.map CSession.abs = s.xs.map CSession.abs := hF1
 refine m_perm (R' := [ownL (keptR 141) S1, rowA 118 A1 c1 (S1 : List CSession)]) (List.Perm.refl _) ?_
 have hnm1 := sess_texts (y := (⟨A1, c1, S1⟩ : Sl CSession)) (hs) hF1
 have hlen1 : S1.length = s.xs.length := by simpa using congrArg List.length hF1
 refine m_know (F := ∀ i, i < S1.length → Rds.ok (S1.getD i default)) (fun bs w hS i hi => Rds.okof (B := anyB) (w := w) (own_elt (hS.res _ i0) hnm1 (mem_of_getD hi))) fun okown1 => ?_
 refine m_know (F := RowOk A1 c1 (S1 : List CSession)) (fun bs w hS => rowA_rok (hS.res _ i1)) fun hrow1 => ?_
 have nchrow1 := hrow1.2
 have hml1 : (S1.map CSession.abs).length = S1.length := by simp
 have hm1 : mSess (S1.map CSession.abs) n = 0 := by rw [hF1]; assumption
 refine Mp ?_ Tryz.call98 (fun bs w hS => tackroomref_sessionAt (⟨A1, c1, S1⟩ : Sl CSession) c.client w (own_sess (hS.res _ i0) (hS.res _ i1) hnm1))
 have hJe : mIdx (fun x : CSession => decide (x.client = c.client)) S1 = mIdx (fun x : DSession => decide (x.client = c.client)) (S1.map CSession.abs) := mIdx_map CSession.abs (fun x : DSession => decide (x.client = c.client)) S1
 rw [hJe]
 have hJb := mIdx_bd (fun x : DSession => decide (x.client = c.client)) (S1.map CSession.abs)
 generalize hJ : mIdx (fun x : DSession => decide (x.client = c.client)) (S1.map CSession.abs) = J at hJb ⊢
 rw [List.length_map] at hJb
 refine Mdr 12 ?_ Tryz_mixed
 refine Md (J < 0) (fun h6 => ?_) fun h6 => ?_
 · have h0J : ¬ 0 ≤ J := by omega
   refine Mz ?_
   refine Mt [.slice A1 S1.length c1, vz 11, vb false, vi 0] fun bs w hS => ?_
   have hv : ¬ rInv n c := by grind [rInv]
   rw [← hF1]
   have hm := ready_none (l := S1.map CSession.abs) (c := c) hm1 hv (by show mIdx _ _ < 0; rw [hJ]; omega)
   refine ⟨⟨A1, c1, S1⟩, ?_, ?_, hS.outS (y := (⟨A1, c1, S1⟩ : Sl CSession)) (out_sessG i1 hS.res (fun x hx => ?_))⟩
   · rw [hm] <;> rfl
   · exact (congrArg Prod.fst hm).symm
   · exact own_in i0 hS.res hnm1 hx
 have h0J : 0 ≤ J := by omega
 have hk5 := sess_all hm1 (k := J.toNat) (by omega)
 have hk6 : (S1.getD J.toNat default).replies.xs.length ≤ 4 := mReplies_len hk5.2.2.2.2
 have hk7 : (S1.getD J.toNat default).replies.n = (S1.getD J.toNat default).replies.xs.length := rfl
 refine Mih ?_ (pc (pIo 55 J J.toNat S1.length i1) (pFo 57 J.toNat 1 1 i1))
 refine Mz ?_
 refine Mdn ((S1.getD J.toNat default).id = c.session) (fun h7 => ?_) fun h7 => ?_
 rotate_left
 · refine Mt [.slice A1 S1.length c1, vz 11, vb false, vi 0] fun bs w hS => ?_
   have hv : ¬ rInv n c := by grind [rInv]
   rw [← hF1]
   have hm := ready_other (c := c) hm1 hv (K := J.toNat) (by show (mIdx _ _).toNat = _; rw [hJ]) h7
   refine ⟨⟨A1, c1, S1⟩, ?_, ?_, hS.outS (y := (⟨A1, c1, S1⟩ : Sl CSession)) (out_sessG i1 hS.res (fun x hx => ?_))⟩
   · rw [hm] <;> rfl
   · exact (congrArg Prod.fst hm).symm
   · exact own_in i0 hS.res hnm1 hx
 refine Mi ?_ (pc (pR (n + 1)) (pIo 68 J J.toNat S1.length i1))
 refine m_f1 ?_
 refine Ms J.toNat 3 (⟨(S1.getD J.toNat default).client, (S1.getD J.toNat default).id, (S1.getD J.toNat default).acked, n + 1, (S1.getD J.toNat default).replies⟩ : CSession) ?_ (by omega)
 intro L3 hL3 hlL3
 have hgL3 : L3.getD J.toNat default = (⟨(S1.getD J.toNat default).client, (S1.getD J.toNat default).id, (S1.getD J.toNat default).acked, n + 1, (S1.getD J.toNat default).replies⟩ : CSession) := by rw [hL3]; exact getD_set (by omega)
 have hbL3 : L3 = List.set S1 J.toNat (⟨(S1.getD J.toNat default).client, (S1.getD J.toNat default).id, (S1.getD J.toNat default).acked, n + 1, (S1.getD J.toNat default).replies⟩ : CSession) := by rw [hL3]
 refine Mdr 8 ?_ Tryz_mixed
 refine Mih ?_ (pc (pIo 74 J J.toNat S1.length i0) (pFk 76 J.toNat 2 1 hgL3 i0))
 refine Mz ?_
 refine Md ((S1.getD J.toNat default).acked < c.acked) (fun h8 => ?_) fun h8 => ?_
 rotate_left
 · have hak : kAck (S1.getD J.toNat default).abs c = (S1.getD J.toNat default).acked := ack_same (d := (S1.getD J.toNat default).abs) h8
   refine m_rowA (α := DKept) 141 ?_
   refine Ml (σ := Nat × Option Addr × Nat × List DKept) (fun ⟨i, A, c9, L⟩ => i ≤ (S1.getD J.toNat default).replies.n ∧ L = ((S1.getD J.toNat default).replies.xs.take i).filter (fun z : DKept => !decide (z.seq ≤ (S1.getD J.toNat default).acked))) (fun ⟨i, A, c9, L⟩ => (S1.getD J.toNat default).replies.n - i) (fun ⟨i, A, c9, L⟩ => [rowA 141 A c9 (L : List DKept), rowA 118 A1 c1 (L3 : List CSession), ownL (keptR 141) S1]) [14, 13, 12, 11, 7, 5] (fun ⟨i, A, c9, L⟩ => [(14, vI (i : Int)), (13, .v (.slice A L.length c9))]) (fun _ => []) ?_ (⟨0, none, 0, []⟩) ⟨Nat.zero_le _, rfl⟩
   rintro ⟨i, A, c9, L⟩ ⟨hi, hI⟩ _ on3
   have hLn : L.length ≤ i := by rw [hI]; exact Nat.le_trans (List.length_filter_le _ _) (by rw [List.length_take]; omega)
   refine Mi ?_ (pc (pIo 87 J J.toNat S1.length i1) (pFk 89 J.toNat 4 1 hgL3 i1))
   refine Md ((i : Int) < (((S1.getD J.toNat default).replies.n : Nat) : Int)) (fun h15 => ?_) fun h15 => ?_
   · refine Mdr 15 ?_ Tryz_mixed
     refine Mih ?_ (pc (pIo 96 J J.toNat S1.length i1) (pc (pFk 98 J.toNat 4 1 hgL3 i1) (pc (pI 100 (i : Int) i (s := (S1.getD J.toNat default).replies) (fun w hk hr => (own_elt (hr _ i2) hnm1 (mem_of_getD (i := J.toNat) (by omega))))) (pc (pF 102 i 0 1 (s := (S1.getD J.toNat default).replies) (fun w hk hr => (own_elt (hr _ i2) hnm1 (mem_of_getD (i := J.toNat) (by omega))))) (pc (pIo 105 J J.toNat S1.length i1) (pFk 107 J.toNat 2 1 hgL3 i1))))))
     refine Mz ?_
     refine Md ((S1.getD J.toNat default).acked < ((S1.getD J.toNat default).replies.at i).seq) (fun h16 => ?_) fun h16 => ?_
     rotate_left
     · refine Mi ?_ (pR ((i : Int) + 1))
       exact on3 ⟨i + 1, A, c9, L⟩ ⟨by omega, by first | exact filtS_in (s := (S1.getD J.toNat default).replies) (p := (fun z : DKept => decide (z.seq ≤ (S1.getD J.toNat default).acked))) hI (by omega) (decide_eq_false (by omega)) | exact filtS_out (s := (S1.getD J.toNat default).replies) (p := (fun z : DKept => decide (z.seq ≤ (S1.getD J.toNat default).acked))) hI (by omega) (decide_eq_true (by omega))⟩ (by show (S1.getD J.toNat default).replies.n - (i + 1) < (S1.getD J.toNat default).replies.n - i; omega)
     refine Mi ?_ (pc (pIo 112 J J.toNat S1.length i1) (pc (pFk 114 J.toNat 4 1 hgL3 i1) (pA 116 117 (i : Int) i (s := (S1.getD J.toNat default).replies) (fun w hk hr => (own_elt (hr _ i2) hnm1 (mem_of_getD (i := J.toNat) (by omega)))))))
     refine M1 ?_
     refine Mal (α := DKept) 40 ([(⟨((S1.getD J.toNat default).replies.at i).seq, ⟨((S1.getD J.toNat default).replies.at i).reply.code, ((S1.getD J.toNat default).replies.at i).reply.n, ((S1.getD J.toNat default).replies.at i).reply.text⟩⟩ : DKept)]) ?_
     intro A7 c7
     refine Mi ?_ (pR ((i : Int) + 1))
     exact on3 ⟨i + 1, A7, c7, L ++ [(⟨((S1.getD J.toNat default).replies.at i).seq, ⟨((S1.getD J.toNat default).replies.at i).reply.code, ((S1.getD J.toNat default).replies.at i).reply.n, ((S1.getD J.toNat default).replies.at i).reply.text⟩⟩ : DKept)]⟩ ⟨by omega, by first | exact filtS_in (s := (S1.getD J.toNat default).replies) (p := (fun z : DKept => decide (z.seq ≤ (S1.getD J.toNat default).acked))) hI (by omega) (decide_eq_false (by omega)) | exact filtS_out (s := (S1.getD J.toNat default).replies) (p := (fun z : DKept => decide (z.seq ≤ (S1.getD J.toNat default).acked))) hI (by omega) (decide_eq_true (by omega))⟩ (by show (S1.getD J.toNat default).replies.n - (i + 1) < (S1.getD J.toNat default).replies.n - i; omega)
   have hLX : L = (S1.getD J.toNat default).replies.xs.filter (fun z : DKept => !decide (z.seq ≤ (S1.getD J.toNat default).acked)) := by rw [hI, take_all (by omega)]
   have hll : kLeft (S1.getD J.toNat default).abs c = L := (left_more hak).trans hLX.symm
   refine m_know (F := RowOk A c9 (L : List DKept)) (fun bs w hS => rowA_rok (hS.res _ i0)) fun hrowK => ?_
   have nchrowK := hrowK.2
   refine Mi ?_ (pIo 123 J J.toNat S1.length i1)
   refine m_f1 ?_
   refine Ms J.toNat 4 (⟨(S1.getD J.toNat default).client, (S1.getD J.toNat default).id, (S1.getD J.toNat default).acked, n + 1, ⟨A, c9, L⟩⟩ : CSession) ?_ (by omega) (hg := hgL3)
   intro L8 hL8 hlL8
   have hgL8 : L8.getD J.toNat default = (⟨(S1.getD J.toNat default).client, (S1.getD J.toNat default).id, (S1.getD J.toNat default).acked, n + 1, ⟨A, c9, L⟩⟩ : CSession) := by rw [hL8]; exact getD_set (by omega)
   have hbL8 : L8 = List.set S1 J.toNat (⟨(S1.getD J.toNat default).client, (S1.getD J.toNat default).id, (S1.getD J.toNat default).acked, n + 1, ⟨A, c9, L⟩⟩ : CSession) := by rw [hL8, hbL3, List.set_set]
   refine Mdr 8 ?_ Tryz_mixed
   refine Mih ?_ (pc (pIo 129 J J.toNat S1.length i0) (pFk 131 J.toNat 2 1 hgL8 i0))
   refine Mz ?_
   refine Md (c.seq ≤ (S1.getD J.toNat default).acked) (fun h17 => ?_) fun h17 => ?_
   · refine Mt [.slice A1 S1.length c1, vz 12, vb false, vi 0] fun bs w hS => ?_
     clear on3
     have hv : ¬ rInv n c := by grind [rInv]
     rw [← hF1]
     have ha := ans_old hak h17
     have hm := ready_one (c := c) hm1 hv (K := J.toNat) (by show ¬ mIdx _ _ < 0; rw [hJ]; omega) (by show (mIdx _ _).toNat = _; rw [hJ]) h7 (kSess_of hak hll) ha
     have hvx := setS_map hbL8
     refine ⟨⟨A1, c1, L8⟩, ?_, ?_, hS.outS (y := (⟨A1, c1, L8⟩ : Sl CSession)) (out_sessG i0 hS.res (fun x hx => ?_))⟩
     · have hll2 : S1.length = L8.length := by rw [hbL8, List.length_set]
       rw [hm]
       exact congrArg (fun q => Ending.returned (.tuple #[.slice A1 q c1, vz 12, vb false, vi 0])) hll2
     · exact Eq.trans hvx (congrArg Prod.fst hm).symm
     · rw [hbL8] at hx
       rcases mem_set hx with hx | hx
       · subst hx; exact allR_row i1 (hS.res _ i1) (fun z hz => hnm1 _ (mem_of_getD (L := S1) (i := J.toNat) (by omega)) z (by rw [hLX] at hz; exact (List.mem_filter.1 hz).1))
       · exact own_in i2 hS.res hnm1 hx
   refine Ml (σ := Nat) (fun j => j ≤ L.length ∧ ∀ i0, i0 < j → ¬ (L.getD i0 default).seq = c.seq) (fun j => L.length - j) (fun j => [rowA 118 A1 c1 (L8 : List CSession), rowA 141 A c9 (L : List DKept), ownL (keptR 141) S1]) [15, 13, 12, 11, 7, 5] (fun j => [(15, vI (j : Int))]) (fun _ => []) ?_ 0 ⟨Nat.zero_le _, fun i0 h0 => absurd h0 (Nat.not_lt_zero _)⟩
   rintro j ⟨hj0, hX⟩ _ on4
   refine Md ((j : Int) < (L.length : Int)) (fun h18 => ?_) fun h18 => ?_
   · refine Mdr 8 ?_ Tryz_mixed
     refine Mih ?_ (pc (pIo 143 (j : Int) j L.length i1) (pFo 145 j 0 1 i1))
     refine Mz ?_
     refine Md ((L.getD j default).seq = c.seq) (fun h19 => ?_) fun h19 => ?_
     rotate_left
     · refine Mi ?_ (pR ((j : Int) + 1))
       exact on4 (j + 1) ⟨by omega, fun i0 h0 => by rcases Nat.lt_succ_iff_lt_or_eq.1 h0 with h | h; exact hX i0 h; subst h; assumption⟩ (by show L.length - (j + 1) < L.length - j; omega)
     refine Mda 10 [] [1] [rowA 118 A1 c1 (L8 : List CSession), rowA 141 A c9 (L : List DKept), ownL (keptR 141) S1] Tryz_mixed ?_
     refine Mih ?_ (pc (pIo 152 (j : Int) j L.length i1) (pFo 154 j 1 3 i1))
     refine Mz ?_
     refine Mt [.slice A1 S1.length c1, (L.getD j default).reply.val, vb false, vi 0] fun bs w hS => ?_
     clear on3 on4
     have hv : ¬ rInv n c := by grind [rInv]
     rw [← hF1]
     have ha := ans_kept hak hll (idx_at (mIdxL_here (L := L) (p := fun z : DKept => decide (z.seq = c.seq)) (i := j) (by omega) (decide_eq_true h19) (fun i0 h0 => decide_eq_false (hX i0 h0)))) h17 (by omega)
     have hm := ready_one (c := c) hm1 hv (K := J.toNat) (by show ¬ mIdx _ _ < 0; rw [hJ]; omega) (by show (mIdx _ _).toNat = _; rw [hJ]) h7 (kSess_of hak hll) ha
     have hvx := setS_map hbL8
     refine ⟨⟨A1, c1, L8⟩, ?_, ?_, hS.outS (y := (⟨A1, c1, L8⟩ : Sl CSession)) (out_sessG i0 hS.res (fun x hx => ?_))⟩
     · have hll2 : S1.length = L8.length := by rw [hbL8, List.length_set]
       rw [hm]
       exact congrArg (fun q => Ending.returned (.tuple #[.slice A1 q c1, (L.getD j default).reply.val, vb false, vi 0])) hll2
     · exact Eq.trans hvx (congrArg Prod.fst hm).symm
     · rw [hbL8] at hx
       rcases mem_set hx with hx | hx
       · subst hx; exact allR_row i1 (hS.res _ i1) (fun z hz => hnm1 _ (mem_of_getD (L := S1) (i := J.toNat) (by omega)) z (by rw [hLX] at hz; exact (List.mem_filter.1 hz).1))
       · exact own_in i2 hS.res hnm1 hx
   refine Mdr 9 ?_ Tryz_mixed
   refine Mih ?_ (pc (pIo 159 J J.toNat S1.length i0) (pc (pFk 161 J.toNat 2 1 hgL8 i0) (pR ((S1.getD J.toNat default).acked + 4))))
   refine Mz ?_
   refine Md ((S1.getD J.toNat default).acked + 4 < c.seq) (fun h20 => ?_) fun h20 => ?_
   rotate_left
   · refine Mt [.slice A1 S1.length c1, vz 0, vb true, vi 0] fun bs w hS => ?_
     clear on3 on4
     have hv : ¬ rInv n c := by grind [rInv]
     rw [← hF1]
     have ha := ans_new hak hll (idx_at (mIdxL_none (L := L) (p := fun z : DKept => decide (z.seq = c.seq)) fun i0 h0 => decide_eq_false (hX i0 (by omega)))) h17 (by omega) h20
     have hm := ready_one (c := c) hm1 hv (K := J.toNat) (by show ¬ mIdx _ _ < 0; rw [hJ]; omega) (by show (mIdx _ _).toNat = _; rw [hJ]) h7 (kSess_of hak hll) ha
     have hvx := setS_map hbL8
     refine ⟨⟨A1, c1, L8⟩, ?_, ?_, hS.outS (y := (⟨A1, c1, L8⟩ : Sl CSession)) (out_sessG i0 hS.res (fun x hx => ?_))⟩
     · have hll2 : S1.length = L8.length := by rw [hbL8, List.length_set]
       rw [hm]
       exact congrArg (fun q => Ending.returned (.tuple #[.slice A1 q c1, vz 0, vb true, vi 0])) hll2
     · exact Eq.trans hvx (congrArg Prod.fst hm).symm
     · rw [hbL8] at hx
       rcases mem_set hx with hx | hx
       · subst hx; exact allR_row i1 (hS.res _ i1) (fun z hz => hnm1 _ (mem_of_getD (L := S1) (i := J.toNat) (by omega)) z (by rw [hLX] at hz; exact (List.mem_filter.1 hz).1))
       · exact own_in i2 hS.res hnm1 hx
   refine Mt [.slice A1 S1.length c1, vz 2, vb false, vi 0] fun bs w hS => ?_
   clear on3 on4
   have hv : ¬ rInv n c := by grind [rInv]
   rw [← hF1]
   have ha := ans_far hak hll (idx_at (mIdxL_none (L := L) (p := fun z : DKept => decide (z.seq = c.seq)) fun i0 h0 => decide_eq_false (hX i0 (by omega)))) h17 (by omega) h20
   have hm := ready_one (c := c) hm1 hv (K := J.toNat) (by show ¬ mIdx _ _ < 0; rw [hJ]; omega) (by show (mIdx _ _).toNat = _; rw [hJ]) h7 (kSess_of hak hll) ha
   have hvx := setS_map hbL8
   refine ⟨⟨A1, c1, L8⟩, ?_, ?_, hS.outS (y := (⟨A1, c1, L8⟩ : Sl CSession)) (out_sessG i0 hS.res (fun x hx => ?_))⟩
   · have hll2 : S1.length = L8.length := by rw [hbL8, List.length_set]
     rw [hm]
     exact congrArg (fun q => Ending.returned (.tuple #[.slice A1 q c1, vz 2, vb false, vi 0])) hll2
   · exact Eq.trans hvx (congrArg Prod.fst hm).symm
   · rw [hbL8] at hx
     rcases mem_set hx with hx | hx
     · subst hx; exact allR_row i1 (hS.res _ i1) (fun z hz => hnm1 _ (mem_of_getD (L := S1) (i := J.toNat) (by omega)) z (by rw [hLX] at hz; exact (List.mem_filter.1 hz).1))
     · exact own_in i2 hS.res hnm1 hx
 have hak := ack_up (d := (S1.getD J.toNat default).abs) (c := c) h8
 have hak2 := hak
 refine Mi ?_ (pIo 82 J J.toNat S1.length i0)
 refine Ms J.toNat 2 (⟨(S1.getD J.toNat default).client, (S1.getD J.toNat default).id, c.acked, n + 1, (S1.getD J.toNat default).replies⟩ : CSession) ?_ (by omega) (hg := hgL3)
 intro L4 hL4 hlL4
 have hgL4 : L4.getD J.toNat default = (⟨(S1.getD J.toNat default).client, (S1.getD J.toNat default).id, c.acked, n + 1, (S1.getD J.toNat default).replies⟩ : CSession) := by rw [hL4]; exact getD_set (by omega)
 have hbL4 : L4 = List.set S1 J.toNat (⟨(S1.getD J.toNat default).client, (S1.getD J.toNat default).id, c.acked, n + 1, (S1.getD J.toNat default).replies⟩ : CSession) := by rw [hL4, hbL3, List.set_set]
 refine m_rowA (α := DKept) 141 ?_
 refine Ml (σ := Nat × Option Addr × Nat × List DKept) (fun ⟨i, A, c9, L⟩ => i ≤ (S1.getD J.toNat default).replies.n ∧ L = ((S1.getD J.toNat default).replies.xs.take i).filter (fun z : DKept => !decide (z.seq ≤ c.acked))) (fun ⟨i, A, c9, L⟩ => (S1.getD J.toNat default).replies.n - i) (fun ⟨i, A, c9, L⟩ => [rowA 141 A c9 (L : List DKept), rowA 118 A1 c1 (L4 : List CSession), ownL (keptR 141) S1]) [14, 13, 12, 11, 7, 5] (fun ⟨i, A, c9, L⟩ => [(14, vI (i : Int)), (13, .v (.slice A L.length c9))]) (fun _ => []) ?_ (⟨0, none, 0, []⟩) ⟨Nat.zero_le _, rfl⟩
 rintro ⟨i, A, c9, L⟩ ⟨hi, hI⟩ _ on1
 have hLn : L.length ≤ i := by rw [hI]; exact Nat.le_trans (List.length_filter_le _ _) (by rw [List.length_take]; omega)
 refine Mi ?_ (pc (pIo 87 J J.toNat S1.length i1) (pFk 89 J.toNat 4 1 hgL4 i1))
 refine Md ((i : Int) < (((S1.getD J.toNat default).replies.n : Nat) : Int)) (fun h9 => ?_) fun h9 => ?_
 · refine Mdr 15 ?_ Tryz_mixed
   refine Mih ?_ (pc (pIo 96 J J.toNat S1.length i1) (pc (pFk 98 J.toNat 4 1 hgL4 i1) (pc (pI 100 (i : Int) i (s := (S1.getD J.toNat default).replies) (fun w hk hr => (own_elt (hr _ i2) hnm1 (mem_of_getD (i := J.toNat) (by omega))))) (pc (pF 102 i 0 1 (s := (S1.getD J.toNat default).replies) (fun w hk hr => (own_elt (hr _ i2) hnm1 (mem_of_getD (i := J.toNat) (by omega))))) (pc (pIo 105 J J.toNat S1.length i1) (pFk 107 J.toNat 2 1 hgL4 i1))))))
   refine Mz ?_
   refine Md (c.acked < ((S1.getD J.toNat default).replies.at i).seq) (fun h10 => ?_) fun h10 => ?_
   rotate_left
   · refine Mi ?_ (pR ((i : Int) + 1))
     exact on1 ⟨i + 1, A, c9, L⟩ ⟨by omega, by first | exact filtS_in (s := (S1.getD J.toNat default).replies) (p := (fun z : DKept => decide (z.seq ≤ c.acked))) hI (by omega) (decide_eq_false (by omega)) | exact filtS_out (s := (S1.getD J.toNat default).replies) (p := (fun z : DKept => decide (z.seq ≤ c.acked))) hI (by omega) (decide_eq_true (by omega))⟩ (by show (S1.getD J.toNat default).replies.n - (i + 1) < (S1.getD J.toNat default).replies.n - i; omega)
   refine Mi ?_ (pc (pIo 112 J J.toNat S1.length i1) (pc (pFk 114 J.toNat 4 1 hgL4 i1) (pA 116 117 (i : Int) i (s := (S1.getD J.toNat default).replies) (fun w hk hr => (own_elt (hr _ i2) hnm1 (mem_of_getD (i := J.toNat) (by omega)))))))
   refine M1 ?_
   refine Mal (α := DKept) 40 ([(⟨((S1.getD J.toNat default).replies.at i).seq, ⟨((S1.getD J.toNat default).replies.at i).reply.code, ((S1.getD J.toNat default).replies.at i).reply.n, ((S1.getD J.toNat default).replies.at i).reply.text⟩⟩ : DKept)]) ?_
   intro A5 c5
   refine Mi ?_ (pR ((i : Int) + 1))
   exact on1 ⟨i + 1, A5, c5, L ++ [(⟨((S1.getD J.toNat default).replies.at i).seq, ⟨((S1.getD J.toNat default).replies.at i).reply.code, ((S1.getD J.toNat default).replies.at i).reply.n, ((S1.getD J.toNat default).replies.at i).reply.text⟩⟩ : DKept)]⟩ ⟨by omega, by first | exact filtS_in (s := (S1.getD J.toNat default).replies) (p := (fun z : DKept => decide (z.seq ≤ c.acked))) hI (by omega) (decide_eq_false (by omega)) | exact filtS_out (s := (S1.getD J.toNat default).replies) (p := (fun z : DKept => decide (z.seq ≤ c.acked))) hI (by omega) (decide_eq_true (by omega))⟩ (by show (S1.getD J.toNat default).replies.n - (i + 1) < (S1.getD J.toNat default).replies.n - i; omega)
 have hLX : L = (S1.getD J.toNat default).replies.xs.filter (fun z : DKept => !decide (z.seq ≤ c.acked)) := by rw [hI, take_all (by omega)]
 have hll : kLeft (S1.getD J.toNat default).abs c = L := (left_more hak).trans hLX.symm
 refine m_know (F := RowOk A c9 (L : List DKept)) (fun bs w hS => rowA_rok (hS.res _ i0)) fun hrowK => ?_
 have nchrowK := hrowK.2
 refine Mi ?_ (pIo 123 J J.toNat S1.length i1)
 refine m_f1 ?_
 refine Ms J.toNat 4 (⟨(S1.getD J.toNat default).client, (S1.getD J.toNat default).id, c.acked, n + 1, ⟨A, c9, L⟩⟩ : CSession) ?_ (by omega) (hg := hgL4)
 intro L6 hL6 hlL6
 have hgL6 : L6.getD J.toNat default = (⟨(S1.getD J.toNat default).client, (S1.getD J.toNat default).id, c.acked, n + 1, ⟨A, c9, L⟩⟩ : CSession) := by rw [hL6]; exact getD_set (by omega)
 have hbL6 : L6 = List.set S1 J.toNat (⟨(S1.getD J.toNat default).client, (S1.getD J.toNat default).id, c.acked, n + 1, ⟨A, c9, L⟩⟩ : CSession) := by rw [hL6, hbL4, List.set_set]
 refine Mdr 8 ?_ Tryz_mixed
 refine Mih ?_ (pc (pIo 129 J J.toNat S1.length i0) (pFk 131 J.toNat 2 1 hgL6 i0))
 refine Mz ?_
 refine Md (c.seq ≤ c.acked) (fun h11 => ?_) fun h11 => ?_
 · refine Mt [.slice A1 S1.length c1, vz 12, vb false, vi 0] fun bs w hS => ?_
   clear on1
   have hv : ¬ rInv n c := by grind [rInv]
   rw [← hF1]
   have ha := ans_old hak h11
   have hm := ready_one (c := c) hm1 hv (K := J.toNat) (by show ¬ mIdx _ _ < 0; rw [hJ]; omega) (by show (mIdx _ _).toNat = _; rw [hJ]) h7 (kSess_of hak hll) ha
   have hvx := setS_map hbL6
   refine ⟨⟨A1, c1, L6⟩, ?_, ?_, hS.outS (y := (⟨A1, c1, L6⟩ : Sl CSession)) (out_sessG i0 hS.res (fun x hx => ?_))⟩
   · have hll2 : S1.length = L6.length := by rw [hbL6, List.length_set]
     rw [hm]
     exact congrArg (fun q => Ending.returned (.tuple #[.slice A1 q c1, vz 12, vb false, vi 0])) hll2
   · exact Eq.trans hvx (congrArg Prod.fst hm).symm
   · rw [hbL6] at hx
     rcases mem_set hx with hx | hx
     · subst hx; exact allR_row i1 (hS.res _ i1) (fun z hz => hnm1 _ (mem_of_getD (L := S1) (i := J.toNat) (by omega)) z (by rw [hLX] at hz; exact (List.mem_filter.1 hz).1))
     · exact own_in i2 hS.res hnm1 hx
 refine Ml (σ := Nat) (fun j => j ≤ L.length ∧ ∀ i0, i0 < j → ¬ (L.getD i0 default).seq = c.seq) (fun j => L.length - j) (fun j => [rowA 118 A1 c1 (L6 : List CSession), rowA 141 A c9 (L : List DKept), ownL (keptR 141) S1]) [15, 13, 12, 11, 7, 5] (fun j => [(15, vI (j : Int))]) (fun _ => []) ?_ 0 ⟨Nat.zero_le _, fun i0 h0 => absurd h0 (Nat.not_lt_zero _)⟩
 rintro j ⟨hj0, hX⟩ _ on2
 refine Md ((j : Int) < (L.length : Int)) (fun h12 => ?_) fun h12 => ?_
 · refine Mdr 8 ?_ Tryz_mixed
   refine Mih ?_ (pc (pIo 143 (j : Int) j L.length i1) (pFo 145 j 0 1 i1))
   refine Mz ?_
   refine Md ((L.getD j default).seq = c.seq) (fun h13 => ?_) fun h13 => ?_
   rotate_left
   · refine Mi ?_ (pR ((j : Int) + 1))
     exact on2 (j + 1) ⟨by omega, fun i0 h0 => by rcases Nat.lt_succ_iff_lt_or_eq.1 h0 with h | h; exact hX i0 h; subst h; assumption⟩ (by show L.length - (j + 1) < L.length - j; omega)
   refine Mda 10 [] [1] [rowA 118 A1 c1 (L6 : List CSession), rowA 141 A c9 (L : List DKept), ownL (keptR 141) S1] Tryz_mixed ?_
   refine Mih ?_ (pc (pIo 152 (j : Int) j L.length i1) (pFo 154 j 1 3 i1))
   refine Mz ?_
   refine Mt [.slice A1 S1.length c1, (L.getD j default).reply.val, vb false, vi 0] fun bs w hS => ?_
   clear on1 on2
   have hv : ¬ rInv n c := by grind [rInv]
   rw [← hF1]
   have ha := ans_kept hak hll (idx_at (mIdxL_here (L := L) (p := fun z : DKept => decide (z.seq = c.seq)) (i := j) (by omega) (decide_eq_true h13) (fun i0 h0 => decide_eq_false (hX i0 h0)))) h11 (by omega)
   have hm := ready_one (c := c) hm1 hv (K := J.toNat) (by show ¬ mIdx _ _ < 0; rw [hJ]; omega) (by show (mIdx _ _).toNat = _; rw [hJ]) h7 (kSess_of hak hll) ha
   have hvx := setS_map hbL6
   refine ⟨⟨A1, c1, L6⟩, ?_, ?_, hS.outS (y := (⟨A1, c1, L6⟩ : Sl CSession)) (out_sessG i0 hS.res (fun x hx => ?_))⟩
   · have hll2 : S1.length = L6.length := by rw [hbL6, List.length_set]
     rw [hm]
     exact congrArg (fun q => Ending.returned (.tuple #[.slice A1 q c1, (L.getD j default).reply.val, vb false, vi 0])) hll2
   · exact Eq.trans hvx (congrArg Prod.fst hm).symm
   · rw [hbL6] at hx
     rcases mem_set hx with hx | hx
     · subst hx; exact allR_row i1 (hS.res _ i1) (fun z hz => hnm1 _ (mem_of_getD (L := S1) (i := J.toNat) (by omega)) z (by rw [hLX] at hz; exact (List.mem_filter.1 hz).1))
     · exact own_in i2 hS.res hnm1 hx
 refine Mdr 9 ?_ Tryz_mixed
 refine Mih ?_ (pc (pIo 159 J J.toNat S1.length i0) (pc (pFk 161 J.toNat 2 1 hgL6 i0) (pR (c.acked + 4))))
 refine Mz ?_
 refine Md (c.acked + 4 < c.seq) (fun h14 => ?_) fun h14 => ?_
 rotate_left
 · refine Mt [.slice A1 S1.length c1, vz 0, vb true, vi 0] fun bs w hS => ?_
   clear on1 on2
   have hv : ¬ rInv n c := by grind [rInv]
   rw [← hF1]
   have ha := ans_new hak hll (idx_at (mIdxL_none (L := L) (p := fun z : DKept => decide (z.seq = c.seq)) fun i0 h0 => decide_eq_false (hX i0 (by omega)))) h11 (by omega) h14
   have hm := ready_one (c := c) hm1 hv (K := J.toNat) (by show ¬ mIdx _ _ < 0; rw [hJ]; omega) (by show (mIdx _ _).toNat = _; rw [hJ]) h7 (kSess_of hak hll) ha
   have hvx := setS_map hbL6
   refine ⟨⟨A1, c1, L6⟩, ?_, ?_, hS.outS (y := (⟨A1, c1, L6⟩ : Sl CSession)) (out_sessG i0 hS.res (fun x hx => ?_))⟩
   · have hll2 : S1.length = L6.length := by rw [hbL6, List.length_set]
     rw [hm]
     exact congrArg (fun q => Ending.returned (.tuple #[.slice A1 q c1, vz 0, vb true, vi 0])) hll2
   · exact Eq.trans hvx (congrArg Prod.fst hm).symm
   · rw [hbL6] at hx
     rcases mem_set hx with hx | hx
     · subst hx; exact allR_row i1 (hS.res _ i1) (fun z hz => hnm1 _ (mem_of_getD (L := S1) (i := J.toNat) (by omega)) z (by rw [hLX] at hz; exact (List.mem_filter.1 hz).1))
     · exact own_in i2 hS.res hnm1 hx
 refine Mt [.slice A1 S1.length c1, vz 2, vb false, vi 0] fun bs w hS => ?_
 clear on1 on2
 have hv : ¬ rInv n c := by grind [rInv]
 rw [← hF1]
 have ha := ans_far hak hll (idx_at (mIdxL_none (L := L) (p := fun z : DKept => decide (z.seq = c.seq)) fun i0 h0 => decide_eq_false (hX i0 (by omega)))) h11 (by omega) h14
 have hm := ready_one (c := c) hm1 hv (K := J.toNat) (by show ¬ mIdx _ _ < 0; rw [hJ]; omega) (by show (mIdx _ _).toNat = _; rw [hJ]) h7 (kSess_of hak hll) ha
 have hvx := setS_map hbL6
 refine ⟨⟨A1, c1, L6⟩, ?_, ?_, hS.outS (y := (⟨A1, c1, L6⟩ : Sl CSession)) (out_sessG i0 hS.res (fun x hx => ?_))⟩
 · have hll2 : S1.length = L6.length := by rw [hbL6, List.length_set]
   rw [hm]
   exact congrArg (fun q => Ending.returned (.tuple #[.slice A1 q c1, vz 2, vb false, vi 0])) hll2
 · exact Eq.trans hvx (congrArg Prod.fst hm).symm
 · rw [hbL6] at hx
   rcases mem_set hx with hx | hx
   · subst hx; exact allR_row i1 (hS.res _ i1) (fun z hz => hnm1 _ (mem_of_getD (L := S1) (i := J.toNat) (by omega)) z (by rw [hLX] at hz; exact (List.mem_filter.1 hz).1))
   · exact own_in i2 hS.res hnm1 hx

theorem same_texts {B B' : Nat → Prop} (a b : Sl ByteArray) (w : World) (ha : a.rd B w) (hb : b.rd B' w) (he : a.xs = b.xs) : Calls Tryz.prog 61 #[a.val, b.val] w fun e w' => e = .returned (vb true) ∧ Kp [] w w' := by
 have oka := Sl.rd.ok ha
 have okb := Sl.rd.ok hb
 have hn := xs_n he
 have nca := Sl.ok.nc oka
 refine M0 ?_ Tryz.func61
 refine Mdn ((a.n : Int) = (b.n : Int)) (fun h1 => ?_) fun h1 => ?_
 rotate_left
 · exfalso; first | omega | exact h1 (xs_at he i)
 refine Ml (σ := Nat) (fun i => True) (fun i => a.n - i) (fun _ => []) [5, 0, 1] (fun i => [(5, vI (i : Int))]) (fun _ => []) ?_ 0 trivial
 rintro i _ _ on1
 have hat := xs_at he i
 refine Md ((i : Int) < (a.n : Int)) (fun h2 => ?_) fun h2 => ?_
 rotate_left
 · exact Mt [vb true] fun bs w hS => ⟨rfl, hS.kp⟩
 refine Mda 9 [] [] [] Tryz_mixed ?_
 refine Mih ?_ (pc (pA 19 20 (i : Int) i (rdk ha)) (pA 23 24 (i : Int) i (rdk hb)))
 refine Mdn ((a.at i) = (b.at i)) (fun h3 => ?_) fun h3 => ?_
 rotate_left
 · exfalso; first | omega | exact h3 (xs_at he i)
 refine Mi ?_ (pR ((i : Int) + 1))
 exact on1 (i + 1) trivial (by omega)

theorem cloneS_ByteArray (A : Option Addr) (n c : Nat) (L : List ByteArray) (w : World) (hl : L.length = n) (hsrc : SrcAt w A n (L.flatMap Lay.cells)) (hb : n * 16 ≤ 140737488355328) : Calls Tryz.prog 157 #[.slice A n c] w fun e w' => ∃ y : Sl ByteArray, e = .returned y.val ∧ y.xs = L ∧ Kp [] w w' ∧ Fresh w w' (rowA 9 y.A y.c y.xs) := by
 refine M0 ?_ Tryz.func157
 refine Mi ?_ (pG [(4, .val (.bool A.isNone))] (oc ((eq_nil Tryz.underlying35) : ∀ w, (do eqGuard .eql 35 (.tmp 3) (.const vn) (.slice A n c) vn; binOp .eql 35 (.slice A n c) vn : Sem Value).run Tryz.prog w = .ok (.bool A.isNone) w) on))
 refine Mb A.isNone (fun h1 => ?_) fun h1 => ?_
 · refine Mt [vn] fun bs w hS => ?_
   have hnil : L = [] := by cases hA : A with | none => rw [hA] at hsrc; have h0 : n = 0 := hsrc; exact List.eq_nil_of_length_eq_zero (by omega) | some a => rw [hA] at h1; cases h1
   exact ⟨Sl.nil, rfl, hnil.symm, hS.kp, rowA_nil 9 w⟩
 refine Mlz ?_ (α := ByteArray) (e := 9)
 intro A1
 refine Ma ?_ (α := ByteArray) (L2 := L) 16 (fun bs w hS => (SrcAt.kp hsrc hS.kp)) (hn2 := hl)
 intro A2 c2
 exact Mt [.slice A2 ([] ++ L).length c2] fun bs w hS => ⟨⟨A2, c2, [] ++ L⟩, rfl, by simp, hS.kp, hS.out1⟩
theorem clone_ByteArray {B : Nat → Prop} (s : Sl ByteArray) (w : World) (hs : s.rd B w) (hb : s.n * 16 ≤ 140737488355328) : Calls Tryz.prog 157 #[s.val] w fun e w' => ∃ y : Sl ByteArray, e = .returned y.val ∧ y.xs = s.xs ∧ Kp [] w w' ∧ Fresh w w' (rowA 9 y.A y.c y.xs) := cloneS_ByteArray s.A s.n s.c s.xs w rfl hs.src hb

theorem same_log {B B' : Nat → Prop} (a b : CLog) (w : World) (ha : Rds.sub B w a) (hb : Rds.sub B' w b) (he : a.abs = b.abs) : Calls Tryz.prog 53 #[a.val, b.val] w fun e w' => e = .returned (vb true) ∧ Kp [] w w' := by
 have oka := Rds.okof ha
 have okb := Rds.okof hb
 refine M0 ?_ Tryz.func53
 refine Md (a.base = b.base) (fun h1 => ?_) fun h1 => ?_
 rotate_left
 · exact absurd (congrArg (fun q => q.base) he) h1
 refine Mp ?_ Tryz.call61 (fun bs w hS => same_texts _ _ w (Rds.kp ha hS.kp) (Rds.kp hb hS.kp) (congrArg DLog.entries he))
 exact Mt [vb true] fun bs w hS => ⟨rfl, hS.kp⟩

theorem codec_Seal (s : ByteArray) (w : World) (hs : s.size ≤ 9223372036854775807) : Calls Tryz.prog 198 #[vs s] w fun e w' => e = .returned (vs (mSeal s)) ∧ Kp [] w w' := by
 refine M0 ?_ Tryz.func198
 refine Ml (σ := Nat) (fun k => k ≤ s.size) (fun k => s.size - k) (fun _ => []) [8, 7, 4, 3, 0] (fun k => [(8, vI (k : Int)), (4, vI (sealTo s k).2), (3, vI (sealTo s k).1)]) (fun _ => []) ?_ 0 (Nat.zero_le _)
 rintro k hk _ on1
 have hb := sealTo_bd s k
 have hu := (s.data.getD k 0).toNat_lt
 refine Md ((k : Int) < (s.size : Int)) (fun h1 => ?_) fun h1 => ?_
 rotate_left
 · refine Mi ?_ (pc (pP ((0 : Int) ≤ 8)) (pc (pP (8 ≤ (64 : Int))) (pc (pP ((0 : Int) ≤ 8)) (pP (8 ≤ (64 : Int))))))
   refine M1 ?_
   refine Mstl (eS := 5) [((sealTo s k).2 / 2 ^ (8 : Int).toNat) % 256, (sealTo s k).2 % 256, ((sealTo s k).1 / 2 ^ (8 : Int).toNat) % 256, (sealTo s k).1 % 256] ?_
   refine Mt [vs (bstr ([((sealTo s k).2 / 2 ^ (8 : Int).toNat) % 256, (sealTo s k).2 % 256, ((sealTo s k).1 / 2 ^ (8 : Int).toNat) % 256, (sealTo s k).1 % 256]))] fun bs w hS => ?_
   refine ⟨?_, hS.kp⟩
   have e : k = s.size := by omega
   subst e
   simp [retOf, den, mSeal]
 refine Mi ?_ (pc (pG [(14, .sidx k)] (oc (rfl : (k : Int) = (k : Int)) (oc ((by omega) : k < s.size) on))) (pc (pP (0 ≤ ((s.data.getD k 0).toNat : Int))) (pc (pP (((s.data.getD k 0).toNat : Int) ≤ 255)) (pc (pR ((sealTo s k).1 + ((s.data.getD k 0).toNat : Int))) (pc (pP (0 ≤ (sealTo s k).1 + ((s.data.getD k 0).toNat : Int))) (pc (pP ((0 : Int) < 65521)) (pc (pR ((sealTo s k).2 + (((sealTo s k).1 + ((s.data.getD k 0).toNat : Int)) % 65521))) (pc (pP (0 ≤ (sealTo s k).2 + (((sealTo s k).1 + ((s.data.getD k 0).toNat : Int)) % 65521))) (pc (pP ((0 : Int) < 65521)) (pR ((k : Int) + 1)))))))))))
 exact on1 (k + 1) (by omega) (by omega)

theorem ref_SealOf (s : ByteArray) (w : World) (hs : s.size ≤ 9223372036854775807) : Calls Tryz.prog 158 #[vs s] w fun e w' => e = .returned (vs (mSeal s)) ∧ Kp [] w w' := by
 refine M0 ?_ Tryz.func158
 refine Ml (σ := Nat) (fun k => k ≤ s.size) (fun k => s.size - k) (fun _ => []) [5, 4, 3, 0] (fun k => [(5, vI (k : Int)), (4, vI (sealTo s k).2), (3, vI (sealTo s k).1)]) (fun _ => []) ?_ 0 (Nat.zero_le _)
 rintro k hk _ on1
 have hb := sealTo_bd s k
 have hu := (s.data.getD k 0).toNat_lt
 refine Md ((k : Int) < (s.size : Int)) (fun h1 => ?_) fun h1 => ?_
 · refine Mi ?_ (pc (pG [(15, .sidx k)] (oc (rfl : (k : Int) = (k : Int)) (oc ((by omega) : k < s.size) on))) (pc (pP (0 ≤ ((s.data.getD k 0).toNat : Int))) (pc (pP (((s.data.getD k 0).toNat : Int) ≤ 255)) (pc (pR ((sealTo s k).1 + ((s.data.getD k 0).toNat : Int))) (pc (pP (0 ≤ (sealTo s k).1 + ((s.data.getD k 0).toNat : Int))) (pc (pP ((0 : Int) < 65521)) (pc (pR ((sealTo s k).2 + (((sealTo s k).1 + ((s.data.getD k 0).toNat : Int)) % 65521))) (pc (pP (0 ≤ (sealTo s k).2 + (((sealTo s k).1 + ((s.data.getD k 0).toNat : Int)) % 65521))) (pc (pP ((0 : Int) < 65521)) (pR ((k : Int) + 1)))))))))))
   exact on1 (k + 1) (by omega) (by omega)
 refine Mi ?_ (pc (pP (0 ≤ (sealTo s k).2)) (pc (pP ((sealTo s k).2 ≤ 9223372036854775807)) (pc (pP ((0 : Int) < 256)) (pc (pP (0 ≤ (sealTo s k).2)) (pc (pP ((0 : Int) < 256)) (pc (pP (0 ≤ (sealTo s k).1)) (pc (pP ((sealTo s k).1 ≤ 9223372036854775807)) (pc (pP ((0 : Int) < 256)) (pc (pP (0 ≤ (sealTo s k).1)) (pP ((0 : Int) < 256)))))))))))
 refine M1 ?_
 refine Mstl (eS := 5) [((sealTo s k).2 / 256) % 256, ((sealTo s k).2 % 256) % 256, ((sealTo s k).1 / 256) % 256, ((sealTo s k).1 % 256) % 256] ?_
 refine Mt [vs (bstr ([((sealTo s k).2 / 256) % 256, ((sealTo s k).2 % 256) % 256, ((sealTo s k).1 / 256) % 256, ((sealTo s k).1 % 256) % 256]))] fun bs w hS => ?_
 refine ⟨?_, hS.kp⟩
 have e : k = s.size := by omega
 subst e
 simp [retOf, den, mSeal]

theorem insR_Session (A : Option Addr) (c : Nat) (L : List CSession) (i : Nat) (ii : Int) (x : CSession) (vb tv : Nat) (w : World) (hrow : (rowA 118 A c L).p w) (hlt : ∀ b, b ∈ (rowA 118 A c L).fp → b < w.heap.size) (ei : ii = (i : Int)) (hi : i ≤ L.length) (hn : L.length ≤ 1048575) (hv : (blkR vb tv (Lay.cells x)).p w) (hvn : vb ∉ (rowA 118 A c L).fp) :
    Calls Tryz.prog 77 #[.slice A L.length c, vi ii, .slice (some (⟨vb, 0, none⟩ : Addr)) 1 1] w fun e w' => ∃ y : Option Addr × Nat, e = .returned (.slice y.1 (L.take i ++ [x] ++ L.drop i).length y.2) ∧ Turned (rowA 118 A c L) w w' (rowA 118 y.1 y.2 (L.take i ++ [x] ++ L.drop i)) := by
 subst ei
 have hrok := rowA_rok hrow
 have nc := hrok.2
 have hvk : ∀ w', Kp (rowA 118 A c L).fp w w' → (blkR vb tv (Lay.cells x)).p w' := fun w' hk => blkR_kpn hv hk hvn
 have hvs : ∀ w', Kp (rowA 118 A c L).fp w w' → SrcAt w' (some (⟨vb, 0, none⟩ : Addr)) 1 ([x].flatMap Lay.cells) := fun w' hk => blkR_src1 (hvk w' hk)
 refine Mj ?_ Tryz.func77 (WS.start1 w _ hrow (by cases A <;> simp [rowA, rowR]) hlt)
 refine Mi ?_ (pG [(12, .sl i L.length)] (oc (rfl : (i : Int) = (i : Int)) (oc (rfl : L.length = L.length) (oc ((by omega) : i ≤ L.length) on))))
 refine Mq 16 false ?_ rfl
 refine Md ((i : Int) = (L.length : Int)) (fun h1 => ?_) fun h1 => ?_
 · refine Ma ?_ (α := CSession) (L2 := [x]) 56 (fun bs w hS => hvs w hS.kp) (h63 := by show L.length + 1 ≤ _; omega) (hb := by show (L.length + 1) * _ ≤ _; omega)
   intro A1 c1
   refine Mt [.slice A1 (L ++ [x]).length c1] fun bs w hS => ?_
   have hid : i = L.length := by omega
   subst hid
   rw [List.take_length, List.drop_length, List.append_nil]
   exact ⟨(A1, c1), rfl, hS.turned⟩
 refine Mi ?_ (pR ((L.length : Int) + 1))
 refine Md ((c : Int) < (L.length : Int) + 1) (fun h2 => ?_) fun h2 => ?_
 · refine Mi ?_ (pc (pG [(34, .sl 0 i)] (oc (rfl : 0 = 0) (oc (rfl : (i : Int) = (i : Int)) (oc ((by omega) : i ≤ c) on)))) (pc (pR ((L.length : Int) + 1)) (pR (((L.length : Int) + 1) - (i : Int)))))
   refine Mapz (α := CSession) 24 3 56 i (L.length + 1 - i) ?_ (((L.length : Int) + 1) - (i : Int)) (by omega) (by omega) hi (by omega) (by omega) (by omega)
   intro g2 c2 zs hc2 hc2m hlen0
   refine Mi ?_ (pG [(43, .sl i (i + (L.length + 1 - i)))] (oc (rfl : (i : Int) = (i : Int)) (oc (rfl : i + (L.length + 1 - i) = i + (L.length + 1 - i)) (oc ((by omega) : i ≤ i + (L.length + 1 - i)) on))))
   refine Mcp (A1 := (if c2 = i then (some (⟨g2, 0, none⟩ : Addr)) else (some (⟨g2, 0, none⟩ : Addr)).map (·.add (i * 5)))) (A2 := (some (⟨vb, 0, none⟩ : Addr))) (n1 := (i + (L.length + 1 - i)) - i) (k := 1) (q := 1) (vs := [x].flatMap Lay.cells) 56 (i * Lay.size CSession) ?_ (by rw [if_neg (by omega)]; show some (Addr.add _ (i * 5)) = _; rw [addr_at]; rfl) (by simp only [Nat.min_def]; split <;> omega) (fun bs w hS => hvs w hS.kp) (by rw [one_len, Nat.one_mul]) (flat_one _) (by rw [one_len]; rw [hlen0]; have h9 := ins_fit (L := L) hi (by omega : L.length + 1 ≤ c2); omega)
   refine Mdr 8 ?_ Tryz_mixed
   refine Mih ?_ (pc (pR ((i : Int) + 1)) (pc (pG [(50, .sl (i + 1) (i + (L.length + 1 - i)))] (oc ((by omega) : (i : Int) + 1 = (((i + 1) : Nat) : Int)) (oc (rfl : i + (L.length + 1 - i) = i + (L.length + 1 - i)) (oc ((by omega) : (i + 1) ≤ i + (L.length + 1 - i)) on)))) (pG [(53, .sl i L.length)] (oc (rfl : (i : Int) = (i : Int)) (oc (rfl : L.length = L.length) (oc ((by omega) : i ≤ L.length) on))))))
   refine Mz ?_
   refine Mcp (A1 := (if c2 = (i + 1) then (some (⟨g2, 0, none⟩ : Addr)) else (some (⟨g2, 0, none⟩ : Addr)).map (·.add ((i + 1) * 5)))) (A2 := (if c = i then A else A.map (·.add (i * 5)))) (n1 := (i + (L.length + 1 - i)) - (i + 1)) (k := L.length - i) (q := (L.length - i)) (vs := (L.drop i).flatMap Lay.cells) 56 (i * Lay.size CSession + Lay.size CSession) ?_ (by rw [if_neg (by omega)]; show some (Addr.add _ ((i + 1) * 5)) = _; rw [addr_at, Nat.succ_mul]; rfl) (by simp only [Nat.min_def]; split <;> omega) (fun bs w hS => rowA_srcDrop (hS.res _ i1) hi) (drop_len L i) (flat_one _) (by rw [setAt_len (by rw [one_len, hlen0]; have h9 := ins_fit (L := L) hi (by omega : L.length + 1 ≤ c2); omega), hlen0]; exact ins_fit hi (by omega))
   refine Mt [.slice (some (⟨g2, 0, none⟩ : Addr)) (i + (L.length + 1 - i)) c2] fun bs w hS => ?_
   have hlen : (L.take i ++ [x] ++ L.drop i).length = L.length + 1 := by simp only [List.length_append, List.length_take, List.length_drop, List.length_cons, List.length_nil]; omega
   have hS2 := hS.weak (rowA 118 (some (⟨g2, 0, none⟩ : Addr)) c2 (L.take i ++ [x] ++ L.drop i)) (List.Sublist.refl _) (fun h => ins_row1 hi (by omega) hlen0 h)
   refine ⟨(some ⟨g2, 0, none⟩, c2), ?_, hS2.turned⟩
   exact congrArg (fun q => Ending.returned (Value.slice (some (⟨g2, 0, none⟩ : Addr)) q c2)) (show i + (L.length + 1 - i) = (L.take i ++ [x] ++ L.drop i).length by rw [hlen]; omega)
 refine m_raw (α := CSession) (by omega) ?_
 intro g zs hA hLc hlen0
 have hvg : vb ≠ g := fun e0 => hvn (by rw [hA]; simp [rowA, rowR, e0])
 refine Mi ?_ (pc (pR ((L.length : Int) + 1)) (pc (pG [(60, .sl 0 (L.length + 1))] (oc (rfl : 0 = 0) (oc ((by omega) : (L.length : Int) + 1 = (((L.length + 1) : Nat) : Int)) (oc ((by omega) : (L.length + 1) ≤ c) on)))) (pc (pR ((i : Int) + 1)) (pG [(66, .sl (i + 1) (L.length + 1))] (oc ((by omega) : (i : Int) + 1 = (((i + 1) : Nat) : Int)) (oc (rfl : (L.length + 1) = (L.length + 1)) (oc ((by omega) : (i + 1) ≤ (L.length + 1)) on)))))))
 refine Mx ?_ (vs := fun _ => [.slice (some (⟨vb, 0, none⟩ : Addr)) 1 1, .slice (if c = (i + 1) then A else A.map (·.add ((i + 1) * 5))) ((L.length + 1) - (i + 1)) (c - (i + 1))]) (v := .bool false) (fun bs w hS => by show (callFunc 143 #[.slice (some (⟨vb, 0, none⟩ : Addr)) 1 1, .slice (if c = (i + 1) then A else A.map (·.add ((i + 1) * 5))) ((L.length + 1) - (i + 1)) (c - (i + 1))]).run Tryz.prog w = _; rw [(show (if c = (i + 1) then A else A.map (·.add ((i + 1) * 5))) = some ⟨g, i * Lay.size CSession + Lay.size CSession, none⟩ from (by rw [if_neg (by omega), hA]; show some (Addr.add _ ((i + 1) * 5)) = _; rw [addr_at, Nat.succ_mul]; rfl)), run_callFunc_extern Tryz.func143 (by kernel_rfl) (by kernel_rfl) (by kernel_rfl) (e := Extern.SlicesOverlaps.overlaps #[24, 24] #[4]) (by kernel_rfl)]; show ((Extern.SlicesOverlaps.overlaps #[24, 24] #[4] #[.slice (some (⟨vb, 0, none⟩ : Addr)) 1 1, .slice (some _) _ _]).run _ w).andThen _ = _; rw [Go.Lib.run_overlaps_apart w 24 4 118 Tryz.underlying24 _ (fun w => sizeOf_run _ _ w (by kernel_rfl)) ⟨vb, 0, none⟩ ⟨g, i * Lay.size CSession + Lay.size CSession, none⟩ 1 1 _ _ hvg _ _ _ _ (blkR_shape (hvk w hS.kp)) (rawR_shape (hS.res _ i0)) (by rw [hlen0]; exact Nat.mul_ne_zero (by omega) (Nat.ne_of_gt Lay.pos)) (blkR_thaw (hvk w hS.kp) 0) (blkR_thaw (hvk w hS.kp) _)]; rfl)
 refine Mq 68 true ?_ rfl
 refine Mdr 8 ?_ Tryz_mixed
 refine Mih ?_ (pc (pR ((i : Int) + 1)) (pc (pG [(73, .sl (i + 1) (L.length + 1))] (oc ((by omega) : (i : Int) + 1 = (((i + 1) : Nat) : Int)) (oc (rfl : (L.length + 1) = (L.length + 1)) (oc ((by omega) : (i + 1) ≤ (L.length + 1)) on)))) (pG [(76, .sl i (L.length + 1))] (oc (rfl : (i : Int) = (i : Int)) (oc (rfl : (L.length + 1) = (L.length + 1)) (oc ((by omega) : i ≤ (L.length + 1)) on))))))
 refine Mz ?_
 refine Mcp (A1 := (if c = (i + 1) then A else A.map (·.add ((i + 1) * 5)))) (A2 := (if c = i then A else A.map (·.add (i * 5)))) (n1 := (L.length + 1) - (i + 1)) (k := (L.length + 1) - i) (q := (L.length - i)) (vs := (L.drop i).flatMap Lay.cells) 56 (i * Lay.size CSession + Lay.size CSession) ?_ (by rw [if_neg (by omega), hA]; show some (Addr.add _ ((i + 1) * 5)) = _; rw [addr_at, Nat.succ_mul]; rfl) (by simp only [Nat.min_def]; split <;> omega) (fun bs w hS => by rw [show (if c = i then A else A.map (·.add (i * 5))) = some ⟨g, i * Lay.size CSession, none⟩ from (by rw [if_neg (by omega), hA]; show some (Addr.add _ (i * 5)) = _; rw [addr_at]; rfl)]; exact raw_srcDrop hi (hS.res _ i0)) (drop_len L i) (flat_one _) (by rw [hlen0]; exact ins_fit hi (by omega))
 refine Mi ?_ (pG [(80, .sl i (L.length + 1))] (oc (rfl : (i : Int) = (i : Int)) (oc (rfl : (L.length + 1) = (L.length + 1)) (oc ((by omega) : i ≤ (L.length + 1)) on))))
 refine Mcp (A1 := (if c = i then A else A.map (·.add (i * 5)))) (A2 := (some (⟨vb, 0, none⟩ : Addr))) (n1 := (L.length + 1) - i) (k := 1) (q := 1) (vs := [x].flatMap Lay.cells) 56 (i * Lay.size CSession) ?_ (by rw [if_neg (by omega), hA]; show some (Addr.add _ (i * 5)) = _; rw [addr_at]; rfl) (by simp only [Nat.min_def]; split <;> omega) (fun bs w hS => hvs w hS.kp) (by rw [one_len, Nat.one_mul]) (flat_one _) (by rw [one_len]; rw [setAt_len (by rw [hlen0]; exact ins_fit hi (by omega)), hlen0]; have h9 := ins_fit (L := L) hi (by omega : L.length + 1 ≤ c); omega)
 refine Mt [.slice A (L.length + 1) c] fun bs w hS => ?_
 have hlen : (L.take i ++ [x] ++ L.drop i).length = L.length + 1 := by simp only [List.length_append, List.length_take, List.length_drop, List.length_cons, List.length_nil]; omega
 have hS2 := hS.weak (rowA 118 (some ⟨g, 0, none⟩) c (L.take i ++ [x] ++ L.drop i)) (List.Sublist.refl _) (fun h => ins_row2 hi (by omega) hlen0 h)
 refine ⟨(some ⟨g, 0, none⟩, c), ?_, hS2.turned⟩
 subst hA
 exact congrArg (fun q => Ending.returned (Value.slice (some (⟨g, 0, none⟩ : Addr)) q c)) (show L.length + 1 = (L.take i ++ [x] ++ L.drop i).length by rw [hlen])

theorem insR_Kept (A : Option Addr) (c : Nat) (L : List DKept) (i : Nat) (ii : Int) (x : DKept) (vb tv : Nat) (w : World) (hrow : (rowA 141 A c L).p w) (hlt : ∀ b, b ∈ (rowA 141 A c L).fp → b < w.heap.size) (ei : ii = (i : Int)) (hi : i ≤ L.length) (hn : L.length ≤ 1048575) (hv : (blkR vb tv (Lay.cells x)).p w) (hvn : vb ∉ (rowA 141 A c L).fp) :
    Calls Tryz.prog 90 #[.slice A L.length c, vi ii, .slice (some (⟨vb, 0, none⟩ : Addr)) 1 1] w fun e w' => ∃ y : Option Addr × Nat, e = .returned (.slice y.1 (L.take i ++ [x] ++ L.drop i).length y.2) ∧ Turned (rowA 141 A c L) w w' (rowA 141 y.1 y.2 (L.take i ++ [x] ++ L.drop i)) := by
 subst ei
 have hrok := rowA_rok hrow
 have nc := hrok.2
 have hvk : ∀ w', Kp (rowA 141 A c L).fp w w' → (blkR vb tv (Lay.cells x)).p w' := fun w' hk => blkR_kpn hv hk hvn
 have hvs : ∀ w', Kp (rowA 141 A c L).fp w w' → SrcAt w' (some (⟨vb, 0, none⟩ : Addr)) 1 ([x].flatMap Lay.cells) := fun w' hk => blkR_src1 (hvk w' hk)
 refine Mj ?_ Tryz.func90 (WS.start1 w _ hrow (by cases A <;> simp [rowA, rowR]) hlt)
 refine Mi ?_ (pG [(12, .sl i L.length)] (oc (rfl : (i : Int) = (i : Int)) (oc (rfl : L.length = L.length) (oc ((by omega) : i ≤ L.length) on))))
 refine Mq 16 false ?_ rfl
 refine Md ((i : Int) = (L.length : Int)) (fun h1 => ?_) fun h1 => ?_
 · refine Ma ?_ (α := DKept) (L2 := [x]) 40 (fun bs w hS => hvs w hS.kp) (h63 := by show L.length + 1 ≤ _; omega) (hb := by show (L.length + 1) * _ ≤ _; omega)
   intro A1 c1
   refine Mt [.slice A1 (L ++ [x]).length c1] fun bs w hS => ?_
   have hid : i = L.length := by omega
   subst hid
   rw [List.take_length, List.drop_length, List.append_nil]
   exact ⟨(A1, c1), rfl, hS.turned⟩
 refine Mi ?_ (pR ((L.length : Int) + 1))
 refine Md ((c : Int) < (L.length : Int) + 1) (fun h2 => ?_) fun h2 => ?_
 · refine Mi ?_ (pc (pG [(34, .sl 0 i)] (oc (rfl : 0 = 0) (oc (rfl : (i : Int) = (i : Int)) (oc ((by omega) : i ≤ c) on)))) (pc (pR ((L.length : Int) + 1)) (pR (((L.length : Int) + 1) - (i : Int)))))
   refine Mapz (α := DKept) 116 3 40 i (L.length + 1 - i) ?_ (((L.length : Int) + 1) - (i : Int)) (by omega) (by omega) hi (by omega) (by omega) (by omega)
   intro g2 c2 zs hc2 hc2m hlen0
   refine Mi ?_ (pG [(43, .sl i (i + (L.length + 1 - i)))] (oc (rfl : (i : Int) = (i : Int)) (oc (rfl : i + (L.length + 1 - i) = i + (L.length + 1 - i)) (oc ((by omega) : i ≤ i + (L.length + 1 - i)) on))))
   refine Mcp (A1 := (if c2 = i then (some (⟨g2, 0, none⟩ : Addr)) else (some (⟨g2, 0, none⟩ : Addr)).map (·.add (i * 4)))) (A2 := (some (⟨vb, 0, none⟩ : Addr))) (n1 := (i + (L.length + 1 - i)) - i) (k := 1) (q := 1) (vs := [x].flatMap Lay.cells) 40 (i * Lay.size DKept) ?_ (by rw [if_neg (by omega)]; show some (Addr.add _ (i * 4)) = _; rw [addr_at]; rfl) (by simp only [Nat.min_def]; split <;> omega) (fun bs w hS => hvs w hS.kp) (by rw [one_len, Nat.one_mul]) (flat_one _) (by rw [one_len]; rw [hlen0]; have h9 := ins_fit (L := L) hi (by omega : L.length + 1 ≤ c2); omega)
   refine Mdr 8 ?_ Tryz_mixed
   refine Mih ?_ (pc (pR ((i : Int) + 1)) (pc (pG [(50, .sl (i + 1) (i + (L.length + 1 - i)))] (oc ((by omega) : (i : Int) + 1 = (((i + 1) : Nat) : Int)) (oc (rfl : i + (L.length + 1 - i) = i + (L.length + 1 - i)) (oc ((by omega) : (i + 1) ≤ i + (L.length + 1 - i)) on)))) (pG [(53, .sl i L.length)] (oc (rfl : (i : Int) = (i : Int)) (oc (rfl : L.length = L.length) (oc ((by omega) : i ≤ L.length) on))))))
   refine Mz ?_
   refine Mcp (A1 := (if c2 = (i + 1) then (some (⟨g2, 0, none⟩ : Addr)) else (some (⟨g2, 0, none⟩ : Addr)).map (·.add ((i + 1) * 4)))) (A2 := (if c = i then A else A.map (·.add (i * 4)))) (n1 := (i + (L.length + 1 - i)) - (i + 1)) (k := L.length - i) (q := (L.length - i)) (vs := (L.drop i).flatMap Lay.cells) 40 (i * Lay.size DKept + Lay.size DKept) ?_ (by rw [if_neg (by omega)]; show some (Addr.add _ ((i + 1) * 4)) = _; rw [addr_at, Nat.succ_mul]; rfl) (by simp only [Nat.min_def]; split <;> omega) (fun bs w hS => rowA_srcDrop (hS.res _ i1) hi) (drop_len L i) (flat_one _) (by rw [setAt_len (by rw [one_len, hlen0]; have h9 := ins_fit (L := L) hi (by omega : L.length + 1 ≤ c2); omega), hlen0]; exact ins_fit hi (by omega))
   refine Mt [.slice (some (⟨g2, 0, none⟩ : Addr)) (i + (L.length + 1 - i)) c2] fun bs w hS => ?_
   have hlen : (L.take i ++ [x] ++ L.drop i).length = L.length + 1 := by simp only [List.length_append, List.length_take, List.length_drop, List.length_cons, List.length_nil]; omega
   have hS2 := hS.weak (rowA 141 (some (⟨g2, 0, none⟩ : Addr)) c2 (L.take i ++ [x] ++ L.drop i)) (List.Sublist.refl _) (fun h => ins_row1 hi (by omega) hlen0 h)
   refine ⟨(some ⟨g2, 0, none⟩, c2), ?_, hS2.turned⟩
   exact congrArg (fun q => Ending.returned (Value.slice (some (⟨g2, 0, none⟩ : Addr)) q c2)) (show i + (L.length + 1 - i) = (L.take i ++ [x] ++ L.drop i).length by rw [hlen]; omega)
 refine m_raw (α := DKept) (by omega) ?_
 intro g zs hA hLc hlen0
 have hvg : vb ≠ g := fun e0 => hvn (by rw [hA]; simp [rowA, rowR, e0])
 refine Mi ?_ (pc (pR ((L.length : Int) + 1)) (pc (pG [(60, .sl 0 (L.length + 1))] (oc (rfl : 0 = 0) (oc ((by omega) : (L.length : Int) + 1 = (((L.length + 1) : Nat) : Int)) (oc ((by omega) : (L.length + 1) ≤ c) on)))) (pc (pR ((i : Int) + 1)) (pG [(66, .sl (i + 1) (L.length + 1))] (oc ((by omega) : (i : Int) + 1 = (((i + 1) : Nat) : Int)) (oc (rfl : (L.length + 1) = (L.length + 1)) (oc ((by omega) : (i + 1) ≤ (L.length + 1)) on)))))))
 refine Mx ?_ (vs := fun _ => [.slice (some (⟨vb, 0, none⟩ : Addr)) 1 1, .slice (if c = (i + 1) then A else A.map (·.add ((i + 1) * 4))) ((L.length + 1) - (i + 1)) (c - (i + 1))]) (v := .bool false) (fun bs w hS => by show (callFunc 153 #[.slice (some (⟨vb, 0, none⟩ : Addr)) 1 1, .slice (if c = (i + 1) then A else A.map (·.add ((i + 1) * 4))) ((L.length + 1) - (i + 1)) (c - (i + 1))]).run Tryz.prog w = _; rw [(show (if c = (i + 1) then A else A.map (·.add ((i + 1) * 4))) = some ⟨g, i * Lay.size DKept + Lay.size DKept, none⟩ from (by rw [if_neg (by omega), hA]; show some (Addr.add _ ((i + 1) * 4)) = _; rw [addr_at, Nat.succ_mul]; rfl)), run_callFunc_extern Tryz.func153 (by kernel_rfl) (by kernel_rfl) (by kernel_rfl) (e := Extern.SlicesOverlaps.overlaps #[116, 116] #[4]) (by kernel_rfl)]; show ((Extern.SlicesOverlaps.overlaps #[116, 116] #[4] #[.slice (some (⟨vb, 0, none⟩ : Addr)) 1 1, .slice (some _) _ _]).run _ w).andThen _ = _; rw [Go.Lib.run_overlaps_apart w 116 4 141 Tryz.underlying116 _ (fun w => sizeOf_run _ _ w (by kernel_rfl)) ⟨vb, 0, none⟩ ⟨g, i * Lay.size DKept + Lay.size DKept, none⟩ 1 1 _ _ hvg _ _ _ _ (blkR_shape (hvk w hS.kp)) (rawR_shape (hS.res _ i0)) (by rw [hlen0]; exact Nat.mul_ne_zero (by omega) (Nat.ne_of_gt Lay.pos)) (blkR_thaw (hvk w hS.kp) 0) (blkR_thaw (hvk w hS.kp) _)]; rfl)
 refine Mq 68 true ?_ rfl
 refine Mdr 8 ?_ Tryz_mixed
 refine Mih ?_ (pc (pR ((i : Int) + 1)) (pc (pG [(73, .sl (i + 1) (L.length + 1))] (oc ((by omega) : (i : Int) + 1 = (((i + 1) : Nat) : Int)) (oc (rfl : (L.length + 1) = (L.length + 1)) (oc ((by omega) : (i + 1) ≤ (L.length + 1)) on)))) (pG [(76, .sl i (L.length + 1))] (oc (rfl : (i : Int) = (i : Int)) (oc (rfl : (L.length + 1) = (L.length + 1)) (oc ((by omega) : i ≤ (L.length + 1)) on))))))
 refine Mz ?_
 refine Mcp (A1 := (if c = (i + 1) then A else A.map (·.add ((i + 1) * 4)))) (A2 := (if c = i then A else A.map (·.add (i * 4)))) (n1 := (L.length + 1) - (i + 1)) (k := (L.length + 1) - i) (q := (L.length - i)) (vs := (L.drop i).flatMap Lay.cells) 40 (i * Lay.size DKept + Lay.size DKept) ?_ (by rw [if_neg (by omega), hA]; show some (Addr.add _ ((i + 1) * 4)) = _; rw [addr_at, Nat.succ_mul]; rfl) (by simp only [Nat.min_def]; split <;> omega) (fun bs w hS => by rw [show (if c = i then A else A.map (·.add (i * 4))) = some ⟨g, i * Lay.size DKept, none⟩ from (by rw [if_neg (by omega), hA]; show some (Addr.add _ (i * 4)) = _; rw [addr_at]; rfl)]; exact raw_srcDrop hi (hS.res _ i0)) (drop_len L i) (flat_one _) (by rw [hlen0]; exact ins_fit hi (by omega))
 refine Mi ?_ (pG [(80, .sl i (L.length + 1))] (oc (rfl : (i : Int) = (i : Int)) (oc (rfl : (L.length + 1) = (L.length + 1)) (oc ((by omega) : i ≤ (L.length + 1)) on))))
 refine Mcp (A1 := (if c = i then A else A.map (·.add (i * 4)))) (A2 := (some (⟨vb, 0, none⟩ : Addr))) (n1 := (L.length + 1) - i) (k := 1) (q := 1) (vs := [x].flatMap Lay.cells) 40 (i * Lay.size DKept) ?_ (by rw [if_neg (by omega), hA]; show some (Addr.add _ (i * 4)) = _; rw [addr_at]; rfl) (by simp only [Nat.min_def]; split <;> omega) (fun bs w hS => hvs w hS.kp) (by rw [one_len, Nat.one_mul]) (flat_one _) (by rw [one_len]; rw [setAt_len (by rw [hlen0]; exact ins_fit hi (by omega)), hlen0]; have h9 := ins_fit (L := L) hi (by omega : L.length + 1 ≤ c); omega)
 refine Mt [.slice A (L.length + 1) c] fun bs w hS => ?_
 have hlen : (L.take i ++ [x] ++ L.drop i).length = L.length + 1 := by simp only [List.length_append, List.length_take, List.length_drop, List.length_cons, List.length_nil]; omega
 have hS2 := hS.weak (rowA 141 (some ⟨g, 0, none⟩) c (L.take i ++ [x] ++ L.drop i)) (List.Sublist.refl _) (fun h => ins_row2 hi (by omega) hlen0 h)
 refine ⟨(some ⟨g, 0, none⟩, c), ?_, hS2.turned⟩
 subst hA
 exact congrArg (fun q => Ending.returned (Value.slice (some (⟨g, 0, none⟩ : Addr)) q c)) (show L.length + 1 = (L.take i ++ [x] ++ L.drop i).length by rw [hlen])

theorem insR_Pair (A : Option Addr) (c : Nat) (L : List DPair) (i : Nat) (ii : Int) (x : DPair) (vb tv : Nat) (w : World) (hrow : (rowA 128 A c L).p w) (hlt : ∀ b, b ∈ (rowA 128 A c L).fp → b < w.heap.size) (ei : ii = (i : Int)) (hi : i ≤ L.length) (hn : L.length ≤ 1048575) (hv : (blkR vb tv (Lay.cells x)).p w) (hvn : vb ∉ (rowA 128 A c L).fp) :
    Calls Tryz.prog 152 #[.slice A L.length c, vi ii, .slice (some (⟨vb, 0, none⟩ : Addr)) 1 1] w fun e w' => ∃ y : Option Addr × Nat, e = .returned (.slice y.1 (L.take i ++ [x] ++ L.drop i).length y.2) ∧ Turned (rowA 128 A c L) w w' (rowA 128 y.1 y.2 (L.take i ++ [x] ++ L.drop i)) := by
 subst ei
 have hrok := rowA_rok hrow
 have nc := hrok.2
 have hvk : ∀ w', Kp (rowA 128 A c L).fp w w' → (blkR vb tv (Lay.cells x)).p w' := fun w' hk => blkR_kpn hv hk hvn
 have hvs : ∀ w', Kp (rowA 128 A c L).fp w w' → SrcAt w' (some (⟨vb, 0, none⟩ : Addr)) 1 ([x].flatMap Lay.cells) := fun w' hk => blkR_src1 (hvk w' hk)
 refine Mj ?_ Tryz.func152 (WS.start1 w _ hrow (by cases A <;> simp [rowA, rowR]) hlt)
 refine Mi ?_ (pG [(12, .sl i L.length)] (oc (rfl : (i : Int) = (i : Int)) (oc (rfl : L.length = L.length) (oc ((by omega) : i ≤ L.length) on))))
 refine Mq 16 false ?_ rfl
 refine Md ((i : Int) = (L.length : Int)) (fun h1 => ?_) fun h1 => ?_
 · refine Ma ?_ (α := DPair) (L2 := [x]) 40 (fun bs w hS => hvs w hS.kp) (h63 := by show L.length + 1 ≤ _; omega) (hb := by show (L.length + 1) * _ ≤ _; omega)
   intro A1 c1
   refine Mt [.slice A1 (L ++ [x]).length c1] fun bs w hS => ?_
   have hid : i = L.length := by omega
   subst hid
   rw [List.take_length, List.drop_length, List.append_nil]
   exact ⟨(A1, c1), rfl, hS.turned⟩
 refine Mi ?_ (pR ((L.length : Int) + 1))
 refine Md ((c : Int) < (L.length : Int) + 1) (fun h2 => ?_) fun h2 => ?_
 · refine Mi ?_ (pc (pG [(34, .sl 0 i)] (oc (rfl : 0 = 0) (oc (rfl : (i : Int) = (i : Int)) (oc ((by omega) : i ≤ c) on)))) (pc (pR ((L.length : Int) + 1)) (pR (((L.length : Int) + 1) - (i : Int)))))
   refine Mapz (α := DPair) 23 3 40 i (L.length + 1 - i) ?_ (((L.length : Int) + 1) - (i : Int)) (by omega) (by omega) hi (by omega) (by omega) (by omega)
   intro g2 c2 zs hc2 hc2m hlen0
   refine Mi ?_ (pG [(43, .sl i (i + (L.length + 1 - i)))] (oc (rfl : (i : Int) = (i : Int)) (oc (rfl : i + (L.length + 1 - i) = i + (L.length + 1 - i)) (oc ((by omega) : i ≤ i + (L.length + 1 - i)) on))))
   refine Mcp (A1 := (if c2 = i then (some (⟨g2, 0, none⟩ : Addr)) else (some (⟨g2, 0, none⟩ : Addr)).map (·.add (i * 3)))) (A2 := (some (⟨vb, 0, none⟩ : Addr))) (n1 := (i + (L.length + 1 - i)) - i) (k := 1) (q := 1) (vs := [x].flatMap Lay.cells) 40 (i * Lay.size DPair) ?_ (by rw [if_neg (by omega)]; show some (Addr.add _ (i * 3)) = _; rw [addr_at]; rfl) (by simp only [Nat.min_def]; split <;> omega) (fun bs w hS => hvs w hS.kp) (by rw [one_len, Nat.one_mul]) (flat_one _) (by rw [one_len]; rw [hlen0]; have h9 := ins_fit (L := L) hi (by omega : L.length + 1 ≤ c2); omega)
   refine Mdr 8 ?_ Tryz_mixed
   refine Mih ?_ (pc (pR ((i : Int) + 1)) (pc (pG [(50, .sl (i + 1) (i + (L.length + 1 - i)))] (oc ((by omega) : (i : Int) + 1 = (((i + 1) : Nat) : Int)) (oc (rfl : i + (L.length + 1 - i) = i + (L.length + 1 - i)) (oc ((by omega) : (i + 1) ≤ i + (L.length + 1 - i)) on)))) (pG [(53, .sl i L.length)] (oc (rfl : (i : Int) = (i : Int)) (oc (rfl : L.length = L.length) (oc ((by omega) : i ≤ L.length) on))))))
   refine Mz ?_
   refine Mcp (A1 := (if c2 = (i + 1) then (some (⟨g2, 0, none⟩ : Addr)) else (some (⟨g2, 0, none⟩ : Addr)).map (·.add ((i + 1) * 3)))) (A2 := (if c = i then A else A.map (·.add (i * 3)))) (n1 := (i + (L.length + 1 - i)) - (i + 1)) (k := L.length - i) (q := (L.length - i)) (vs := (L.drop i).flatMap Lay.cells) 40 (i * Lay.size DPair + Lay.size DPair) ?_ (by rw [if_neg (by omega)]; show some (Addr.add _ ((i + 1) * 3)) = _; rw [addr_at, Nat.succ_mul]; rfl) (by simp only [Nat.min_def]; split <;> omega) (fun bs w hS => rowA_srcDrop (hS.res _ i1) hi) (drop_len L i) (flat_one _) (by rw [setAt_len (by rw [one_len, hlen0]; have h9 := ins_fit (L := L) hi (by omega : L.length + 1 ≤ c2); omega), hlen0]; exact ins_fit hi (by omega))
   refine Mt [.slice (some (⟨g2, 0, none⟩ : Addr)) (i + (L.length + 1 - i)) c2] fun bs w hS => ?_
   have hlen : (L.take i ++ [x] ++ L.drop i).length = L.length + 1 := by simp only [List.length_append, List.length_take, List.length_drop, List.length_cons, List.length_nil]; omega
   have hS2 := hS.weak (rowA 128 (some (⟨g2, 0, none⟩ : Addr)) c2 (L.take i ++ [x] ++ L.drop i)) (List.Sublist.refl _) (fun h => ins_row1 hi (by omega) hlen0 h)
   refine ⟨(some ⟨g2, 0, none⟩, c2), ?_, hS2.turned⟩
   exact congrArg (fun q => Ending.returned (Value.slice (some (⟨g2, 0, none⟩ : Addr)) q c2)) (show i + (L.length + 1 - i) = (L.take i ++ [x] ++ L.drop i).length by rw [hlen]; omega)
 refine m_raw (α := DPair) (by omega) ?_
 intro g zs hA hLc hlen0
 have hvg : vb ≠ g := fun e0 => hvn (by rw [hA]; simp [rowA, rowR, e0])
 refine Mi ?_ (pc (pR ((L.length : Int) + 1)) (pc (pG [(60, .sl 0 (L.length + 1))] (oc (rfl : 0 = 0) (oc ((by omega) : (L.length : Int) + 1 = (((L.length + 1) : Nat) : Int)) (oc ((by omega) : (L.length + 1) ≤ c) on)))) (pc (pR ((i : Int) + 1)) (pG [(66, .sl (i + 1) (L.length + 1))] (oc ((by omega) : (i : Int) + 1 = (((i + 1) : Nat) : Int)) (oc (rfl : (L.length + 1) = (L.length + 1)) (oc ((by omega) : (i + 1) ≤ (L.length + 1)) on)))))))
 refine Mx ?_ (vs := fun _ => [.slice (some (⟨vb, 0, none⟩ : Addr)) 1 1, .slice (if c = (i + 1) then A else A.map (·.add ((i + 1) * 3))) ((L.length + 1) - (i + 1)) (c - (i + 1))]) (v := .bool false) (fun bs w hS => by show (callFunc 195 #[.slice (some (⟨vb, 0, none⟩ : Addr)) 1 1, .slice (if c = (i + 1) then A else A.map (·.add ((i + 1) * 3))) ((L.length + 1) - (i + 1)) (c - (i + 1))]).run Tryz.prog w = _; rw [(show (if c = (i + 1) then A else A.map (·.add ((i + 1) * 3))) = some ⟨g, i * Lay.size DPair + Lay.size DPair, none⟩ from (by rw [if_neg (by omega), hA]; show some (Addr.add _ ((i + 1) * 3)) = _; rw [addr_at, Nat.succ_mul]; rfl)), run_callFunc_extern Tryz.func195 (by kernel_rfl) (by kernel_rfl) (by kernel_rfl) (e := Extern.SlicesOverlaps.overlaps #[23, 23] #[4]) (by kernel_rfl)]; show ((Extern.SlicesOverlaps.overlaps #[23, 23] #[4] #[.slice (some (⟨vb, 0, none⟩ : Addr)) 1 1, .slice (some _) _ _]).run _ w).andThen _ = _; rw [Go.Lib.run_overlaps_apart w 23 4 128 Tryz.underlying23 _ (fun w => sizeOf_run _ _ w (by kernel_rfl)) ⟨vb, 0, none⟩ ⟨g, i * Lay.size DPair + Lay.size DPair, none⟩ 1 1 _ _ hvg _ _ _ _ (blkR_shape (hvk w hS.kp)) (rawR_shape (hS.res _ i0)) (by rw [hlen0]; exact Nat.mul_ne_zero (by omega) (Nat.ne_of_gt Lay.pos)) (blkR_thaw (hvk w hS.kp) 0) (blkR_thaw (hvk w hS.kp) _)]; rfl)
 refine Mq 68 true ?_ rfl
 refine Mdr 8 ?_ Tryz_mixed
 refine Mih ?_ (pc (pR ((i : Int) + 1)) (pc (pG [(73, .sl (i + 1) (L.length + 1))] (oc ((by omega) : (i : Int) + 1 = (((i + 1) : Nat) : Int)) (oc (rfl : (L.length + 1) = (L.length + 1)) (oc ((by omega) : (i + 1) ≤ (L.length + 1)) on)))) (pG [(76, .sl i (L.length + 1))] (oc (rfl : (i : Int) = (i : Int)) (oc (rfl : (L.length + 1) = (L.length + 1)) (oc ((by omega) : i ≤ (L.length + 1)) on))))))
 refine Mz ?_
 refine Mcp (A1 := (if c = (i + 1) then A else A.map (·.add ((i + 1) * 3)))) (A2 := (if c = i then A else A.map (·.add (i * 3)))) (n1 := (L.length + 1) - (i + 1)) (k := (L.length + 1) - i) (q := (L.length - i)) (vs := (L.drop i).flatMap Lay.cells) 40 (i * Lay.size DPair + Lay.size DPair) ?_ (by rw [if_neg (by omega), hA]; show some (Addr.add _ ((i + 1) * 3)) = _; rw [addr_at, Nat.succ_mul]; rfl) (by simp only [Nat.min_def]; split <;> omega) (fun bs w hS => by rw [show (if c = i then A else A.map (·.add (i * 3))) = some ⟨g, i * Lay.size DPair, none⟩ from (by rw [if_neg (by omega), hA]; show some (Addr.add _ (i * 3)) = _; rw [addr_at]; rfl)]; exact raw_srcDrop hi (hS.res _ i0)) (drop_len L i) (flat_one _) (by rw [hlen0]; exact ins_fit hi (by omega))
 refine Mi ?_ (pG [(80, .sl i (L.length + 1))] (oc (rfl : (i : Int) = (i : Int)) (oc (rfl : (L.length + 1) = (L.length + 1)) (oc ((by omega) : i ≤ (L.length + 1)) on))))
 refine Mcp (A1 := (if c = i then A else A.map (·.add (i * 3)))) (A2 := (some (⟨vb, 0, none⟩ : Addr))) (n1 := (L.length + 1) - i) (k := 1) (q := 1) (vs := [x].flatMap Lay.cells) 40 (i * Lay.size DPair) ?_ (by rw [if_neg (by omega), hA]; show some (Addr.add _ (i * 3)) = _; rw [addr_at]; rfl) (by simp only [Nat.min_def]; split <;> omega) (fun bs w hS => hvs w hS.kp) (by rw [one_len, Nat.one_mul]) (flat_one _) (by rw [one_len]; rw [setAt_len (by rw [hlen0]; exact ins_fit hi (by omega)), hlen0]; have h9 := ins_fit (L := L) hi (by omega : L.length + 1 ≤ c); omega)
 refine Mt [.slice A (L.length + 1) c] fun bs w hS => ?_
 have hlen : (L.take i ++ [x] ++ L.drop i).length = L.length + 1 := by simp only [List.length_append, List.length_take, List.length_drop, List.length_cons, List.length_nil]; omega
 have hS2 := hS.weak (rowA 128 (some ⟨g, 0, none⟩) c (L.take i ++ [x] ++ L.drop i)) (List.Sublist.refl _) (fun h => ins_row2 hi (by omega) hlen0 h)
 refine ⟨(some ⟨g, 0, none⟩, c), ?_, hS2.turned⟩
 subst hA
 exact congrArg (fun q => Ending.returned (Value.slice (some (⟨g, 0, none⟩ : Addr)) q c)) (show L.length + 1 = (L.take i ++ [x] ++ L.drop i).length by rw [hlen])

theorem insR_Lock (A : Option Addr) (c : Nat) (L : List CLock) (i : Nat) (ii : Int) (x : CLock) (vb tv : Nat) (w : World) (hrow : (rowA 115 A c L).p w) (hlt : ∀ b, b ∈ (rowA 115 A c L).fp → b < w.heap.size) (ei : ii = (i : Int)) (hi : i ≤ L.length) (hn : L.length ≤ 1048575) (hv : (blkR vb tv (Lay.cells x)).p w) (hvn : vb ∉ (rowA 115 A c L).fp) :
    Calls Tryz.prog 149 #[.slice A L.length c, vi ii, .slice (some (⟨vb, 0, none⟩ : Addr)) 1 1] w fun e w' => ∃ y : Option Addr × Nat, e = .returned (.slice y.1 (L.take i ++ [x] ++ L.drop i).length y.2) ∧ Turned (rowA 115 A c L) w w' (rowA 115 y.1 y.2 (L.take i ++ [x] ++ L.drop i)) := by
 subst ei
 have hrok := rowA_rok hrow
 have nc := hrok.2
 have hvk : ∀ w', Kp (rowA 115 A c L).fp w w' → (blkR vb tv (Lay.cells x)).p w' := fun w' hk => blkR_kpn hv hk hvn
 have hvs : ∀ w', Kp (rowA 115 A c L).fp w w' → SrcAt w' (some (⟨vb, 0, none⟩ : Addr)) 1 ([x].flatMap Lay.cells) := fun w' hk => blkR_src1 (hvk w' hk)
 refine Mj ?_ Tryz.func149 (WS.start1 w _ hrow (by cases A <;> simp [rowA, rowR]) hlt)
 refine Mi ?_ (pG [(12, .sl i L.length)] (oc (rfl : (i : Int) = (i : Int)) (oc (rfl : L.length = L.length) (oc ((by omega) : i ≤ L.length) on))))
 refine Mq 16 false ?_ rfl
 refine Md ((i : Int) = (L.length : Int)) (fun h1 => ?_) fun h1 => ?_
 · refine Ma ?_ (α := CLock) (L2 := [x]) 56 (fun bs w hS => hvs w hS.kp) (h63 := by show L.length + 1 ≤ _; omega) (hb := by show (L.length + 1) * _ ≤ _; omega)
   intro A1 c1
   refine Mt [.slice A1 (L ++ [x]).length c1] fun bs w hS => ?_
   have hid : i = L.length := by omega
   subst hid
   rw [List.take_length, List.drop_length, List.append_nil]
   exact ⟨(A1, c1), rfl, hS.turned⟩
 refine Mi ?_ (pR ((L.length : Int) + 1))
 refine Md ((c : Int) < (L.length : Int) + 1) (fun h2 => ?_) fun h2 => ?_
 · refine Mi ?_ (pc (pG [(34, .sl 0 i)] (oc (rfl : 0 = 0) (oc (rfl : (i : Int) = (i : Int)) (oc ((by omega) : i ≤ c) on)))) (pc (pR ((L.length : Int) + 1)) (pR (((L.length : Int) + 1) - (i : Int)))))
   refine Mapz (α := CLock) 22 3 56 i (L.length + 1 - i) ?_ (((L.length : Int) + 1) - (i : Int)) (by omega) (by omega) hi (by omega) (by omega) (by omega)
   intro g2 c2 zs hc2 hc2m hlen0
   refine Mi ?_ (pG [(43, .sl i (i + (L.length + 1 - i)))] (oc (rfl : (i : Int) = (i : Int)) (oc (rfl : i + (L.length + 1 - i) = i + (L.length + 1 - i)) (oc ((by omega) : i ≤ i + (L.length + 1 - i)) on))))
   refine Mcp (A1 := (if c2 = i then (some (⟨g2, 0, none⟩ : Addr)) else (some (⟨g2, 0, none⟩ : Addr)).map (·.add (i * 4)))) (A2 := (some (⟨vb, 0, none⟩ : Addr))) (n1 := (i + (L.length + 1 - i)) - i) (k := 1) (q := 1) (vs := [x].flatMap Lay.cells) 56 (i * Lay.size CLock) ?_ (by rw [if_neg (by omega)]; show some (Addr.add _ (i * 4)) = _; rw [addr_at]; rfl) (by simp only [Nat.min_def]; split <;> omega) (fun bs w hS => hvs w hS.kp) (by rw [one_len, Nat.one_mul]) (flat_one _) (by rw [one_len]; rw [hlen0]; have h9 := ins_fit (L := L) hi (by omega : L.length + 1 ≤ c2); omega)
   refine Mdr 8 ?_ Tryz_mixed
   refine Mih ?_ (pc (pR ((i : Int) + 1)) (pc (pG [(50, .sl (i + 1) (i + (L.length + 1 - i)))] (oc ((by omega) : (i : Int) + 1 = (((i + 1) : Nat) : Int)) (oc (rfl : i + (L.length + 1 - i) = i + (L.length + 1 - i)) (oc ((by omega) : (i + 1) ≤ i + (L.length + 1 - i)) on)))) (pG [(53, .sl i L.length)] (oc (rfl : (i : Int) = (i : Int)) (oc (rfl : L.length = L.length) (oc ((by omega) : i ≤ L.length) on))))))
   refine Mz ?_
   refine Mcp (A1 := (if c2 = (i + 1) then (some (⟨g2, 0, none⟩ : Addr)) else (some (⟨g2, 0, none⟩ : Addr)).map (·.add ((i + 1) * 4)))) (A2 := (if c = i then A else A.map (·.add (i * 4)))) (n1 := (i + (L.length + 1 - i)) - (i + 1)) (k := L.length - i) (q := (L.length - i)) (vs := (L.drop i).flatMap Lay.cells) 56 (i * Lay.size CLock + Lay.size CLock) ?_ (by rw [if_neg (by omega)]; show some (Addr.add _ ((i + 1) * 4)) = _; rw [addr_at, Nat.succ_mul]; rfl) (by simp only [Nat.min_def]; split <;> omega) (fun bs w hS => rowA_srcDrop (hS.res _ i1) hi) (drop_len L i) (flat_one _) (by rw [setAt_len (by rw [one_len, hlen0]; have h9 := ins_fit (L := L) hi (by omega : L.length + 1 ≤ c2); omega), hlen0]; exact ins_fit hi (by omega))
   refine Mt [.slice (some (⟨g2, 0, none⟩ : Addr)) (i + (L.length + 1 - i)) c2] fun bs w hS => ?_
   have hlen : (L.take i ++ [x] ++ L.drop i).length = L.length + 1 := by simp only [List.length_append, List.length_take, List.length_drop, List.length_cons, List.length_nil]; omega
   have hS2 := hS.weak (rowA 115 (some (⟨g2, 0, none⟩ : Addr)) c2 (L.take i ++ [x] ++ L.drop i)) (List.Sublist.refl _) (fun h => ins_row1 hi (by omega) hlen0 h)
   refine ⟨(some ⟨g2, 0, none⟩, c2), ?_, hS2.turned⟩
   exact congrArg (fun q => Ending.returned (Value.slice (some (⟨g2, 0, none⟩ : Addr)) q c2)) (show i + (L.length + 1 - i) = (L.take i ++ [x] ++ L.drop i).length by rw [hlen]; omega)
 refine m_raw (α := CLock) (by omega) ?_
 intro g zs hA hLc hlen0
 have hvg : vb ≠ g := fun e0 => hvn (by rw [hA]; simp [rowA, rowR, e0])
 refine Mi ?_ (pc (pR ((L.length : Int) + 1)) (pc (pG [(60, .sl 0 (L.length + 1))] (oc (rfl : 0 = 0) (oc ((by omega) : (L.length : Int) + 1 = (((L.length + 1) : Nat) : Int)) (oc ((by omega) : (L.length + 1) ≤ c) on)))) (pc (pR ((i : Int) + 1)) (pG [(66, .sl (i + 1) (L.length + 1))] (oc ((by omega) : (i : Int) + 1 = (((i + 1) : Nat) : Int)) (oc (rfl : (L.length + 1) = (L.length + 1)) (oc ((by omega) : (i + 1) ≤ (L.length + 1)) on)))))))
 refine Mx ?_ (vs := fun _ => [.slice (some (⟨vb, 0, none⟩ : Addr)) 1 1, .slice (if c = (i + 1) then A else A.map (·.add ((i + 1) * 4))) ((L.length + 1) - (i + 1)) (c - (i + 1))]) (v := .bool false) (fun bs w hS => by show (callFunc 191 #[.slice (some (⟨vb, 0, none⟩ : Addr)) 1 1, .slice (if c = (i + 1) then A else A.map (·.add ((i + 1) * 4))) ((L.length + 1) - (i + 1)) (c - (i + 1))]).run Tryz.prog w = _; rw [(show (if c = (i + 1) then A else A.map (·.add ((i + 1) * 4))) = some ⟨g, i * Lay.size CLock + Lay.size CLock, none⟩ from (by rw [if_neg (by omega), hA]; show some (Addr.add _ ((i + 1) * 4)) = _; rw [addr_at, Nat.succ_mul]; rfl)), run_callFunc_extern Tryz.func191 (by kernel_rfl) (by kernel_rfl) (by kernel_rfl) (e := Extern.SlicesOverlaps.overlaps #[22, 22] #[4]) (by kernel_rfl)]; show ((Extern.SlicesOverlaps.overlaps #[22, 22] #[4] #[.slice (some (⟨vb, 0, none⟩ : Addr)) 1 1, .slice (some _) _ _]).run _ w).andThen _ = _; rw [Go.Lib.run_overlaps_apart w 22 4 115 Tryz.underlying22 _ (fun w => sizeOf_run _ _ w (by kernel_rfl)) ⟨vb, 0, none⟩ ⟨g, i * Lay.size CLock + Lay.size CLock, none⟩ 1 1 _ _ hvg _ _ _ _ (blkR_shape (hvk w hS.kp)) (rawR_shape (hS.res _ i0)) (by rw [hlen0]; exact Nat.mul_ne_zero (by omega) (Nat.ne_of_gt Lay.pos)) (blkR_thaw (hvk w hS.kp) 0) (blkR_thaw (hvk w hS.kp) _)]; rfl)
 refine Mq 68 true ?_ rfl
 refine Mdr 8 ?_ Tryz_mixed
 refine Mih ?_ (pc (pR ((i : Int) + 1)) (pc (pG [(73, .sl (i + 1) (L.length + 1))] (oc ((by omega) : (i : Int) + 1 = (((i + 1) : Nat) : Int)) (oc (rfl : (L.length + 1) = (L.length + 1)) (oc ((by omega) : (i + 1) ≤ (L.length + 1)) on)))) (pG [(76, .sl i (L.length + 1))] (oc (rfl : (i : Int) = (i : Int)) (oc (rfl : (L.length + 1) = (L.length + 1)) (oc ((by omega) : i ≤ (L.length + 1)) on))))))
 refine Mz ?_
 refine Mcp (A1 := (if c = (i + 1) then A else A.map (·.add ((i + 1) * 4)))) (A2 := (if c = i then A else A.map (·.add (i * 4)))) (n1 := (L.length + 1) - (i + 1)) (k := (L.length + 1) - i) (q := (L.length - i)) (vs := (L.drop i).flatMap Lay.cells) 56 (i * Lay.size CLock + Lay.size CLock) ?_ (by rw [if_neg (by omega), hA]; show some (Addr.add _ ((i + 1) * 4)) = _; rw [addr_at, Nat.succ_mul]; rfl) (by simp only [Nat.min_def]; split <;> omega) (fun bs w hS => by rw [show (if c = i then A else A.map (·.add (i * 4))) = some ⟨g, i * Lay.size CLock, none⟩ from (by rw [if_neg (by omega), hA]; show some (Addr.add _ (i * 4)) = _; rw [addr_at]; rfl)]; exact raw_srcDrop hi (hS.res _ i0)) (drop_len L i) (flat_one _) (by rw [hlen0]; exact ins_fit hi (by omega))
 refine Mi ?_ (pG [(80, .sl i (L.length + 1))] (oc (rfl : (i : Int) = (i : Int)) (oc (rfl : (L.length + 1) = (L.length + 1)) (oc ((by omega) : i ≤ (L.length + 1)) on))))
 refine Mcp (A1 := (if c = i then A else A.map (·.add (i * 4)))) (A2 := (some (⟨vb, 0, none⟩ : Addr))) (n1 := (L.length + 1) - i) (k := 1) (q := 1) (vs := [x].flatMap Lay.cells) 56 (i * Lay.size CLock) ?_ (by rw [if_neg (by omega), hA]; show some (Addr.add _ (i * 4)) = _; rw [addr_at]; rfl) (by simp only [Nat.min_def]; split <;> omega) (fun bs w hS => hvs w hS.kp) (by rw [one_len, Nat.one_mul]) (flat_one _) (by rw [one_len]; rw [setAt_len (by rw [hlen0]; exact ins_fit hi (by omega)), hlen0]; have h9 := ins_fit (L := L) hi (by omega : L.length + 1 ≤ c); omega)
 refine Mt [.slice A (L.length + 1) c] fun bs w hS => ?_
 have hlen : (L.take i ++ [x] ++ L.drop i).length = L.length + 1 := by simp only [List.length_append, List.length_take, List.length_drop, List.length_cons, List.length_nil]; omega
 have hS2 := hS.weak (rowA 115 (some ⟨g, 0, none⟩) c (L.take i ++ [x] ++ L.drop i)) (List.Sublist.refl _) (fun h => ins_row2 hi (by omega) hlen0 h)
 refine ⟨(some ⟨g, 0, none⟩, c), ?_, hS2.turned⟩
 subst hA
 exact congrArg (fun q => Ending.returned (Value.slice (some (⟨g, 0, none⟩ : Addr)) q c)) (show L.length + 1 = (L.take i ++ [x] ++ L.drop i).length by rw [hlen])

theorem pair_find_1 (x : DPair) (t : ByteArray) (w : World) : Calls Tryz.prog 194 #[x.val, vs t] w fun e w' => e = .returned (vi (cmpS x.name t)) ∧ Kp [] w w' := by
 refine M0 ?_ Tryz.func194
 refine Mp ?_ Tryz.call147 (fun bs w hS => strings_Compare x.name t w)
 exact Mt [vi (cmpS x.name t)] fun bs w hS => ⟨rfl, hS.kp⟩

theorem bs_pair_find_1 {B : Nat → Prop} (s : Sl DPair) (t : ByteArray) (w : World) (hs : s.rd B w) (hn : s.n ≤ 1048576) : Calls Tryz.prog 193 #[s.val, vs t, .func (.func 194) #[] #[]] w fun e w' => e = .returned (.tuple #[vi (mBS (fun x : DPair => cmpS x.name t) s.xs : Nat), vb (mBSf (fun x : DPair => cmpS x.name t) s.xs)]) ∧ Kp [] w w' := by
 have oks := Sl.rd.ok hs
 have ncs := Sl.ok.nc oks
 have hns : s.n = s.xs.length := rfl
 refine Mj ?_ Tryz.func193 (WS.start w)
 refine Ml (σ := Nat × Nat × Nat) (fun ⟨i, j, f⟩ => i ≤ j ∧ j ≤ s.n ∧ j - i ≤ f ∧ mBS (fun x : DPair => cmpS x.name t) s.xs = bsGo (fun j => decide (cmpS (s.at j).name t < 0)) f i j) (fun ⟨i, j, f⟩ => f) (fun _ => []) [10, 9, 8, 0, 1, 2] (fun ⟨i, j, f⟩ => [(10, vI (j : Int)), (9, vI (i : Int))]) (fun _ => []) ?_ (⟨0, s.n, s.n⟩) ⟨Nat.zero_le _, Nat.le_refl _, Nat.le_refl _, rfl⟩
 rintro ⟨i, j, f⟩ ⟨h1, h2, h3, hI⟩ _ on1
 have hdiv : ((i : Int) + (j : Int)) / 2 = (((i + j) / 2 : Nat) : Int) := by omega
 refine Md ((i : Int) < (j : Int)) (fun h1 => ?_) fun h1 => ?_
 rotate_left
 · refine Md ((i : Int) < (s.n : Int)) (fun h3 => ?_) fun h3 => ?_
   rotate_left
   · refine Mt [vi (i : Int), vb false] fun bs w hS => ?_
     have hij : i = j := by omega
     subst hij
     have hr : mBS (fun x : DPair => cmpS x.name t) s.xs = i := by rw [hI]; exact bsGo_end _ _ _ _ (Nat.le_refl _)
     refine ⟨?_, hS.kp⟩
     have hr2 : mBSf (fun x : DPair => cmpS x.name t) s.xs = false := by
       unfold mBSf; rw [hr]
       rw [decide_eq_false (show ¬ i < s.xs.length by omega)]; rfl
     rw [hr, hr2]
     rfl
   refine Mi ?_ (pA 43 44 (i : Int) i (rdk hs))
   refine Mp ?_ Tryz.call194 (fun bs w hS => pair_find_1 (s.at i) t w)
   refine Mt [vi (i : Int), vb (decide (cmpS (s.at i).name t = 0))] fun bs w hS => ?_
   have hij : i = j := by omega
   subst hij
   have hr : mBS (fun x : DPair => cmpS x.name t) s.xs = i := by rw [hI]; exact bsGo_end _ _ _ _ (Nat.le_refl _)
   refine ⟨?_, hS.kp⟩
   have hr2 : mBSf (fun x : DPair => cmpS x.name t) s.xs = (decide (cmpS (s.at i).name t = 0)) := by
     unfold mBSf; rw [hr]
     rw [decide_eq_true (show i < s.xs.length by omega)]; rfl
   rw [hr, hr2]
   rfl
 refine Mi ?_ (pc (pR ((i : Int) + (j : Int))) (pc (pG [(21, .val (.int .u64 ((i : Int) + (j : Int))))] (oc ((conv_i64_u64 Tryz.underlying3 Tryz.underlying203 (by omega) (by omega)) : ∀ w, (convert 3 203 (vi ((i : Int) + (j : Int))) : Sem Value).run Tryz.prog w = .ok (.int .u64 ((i : Int) + (j : Int))) w) on)) (pc (pG [(22, .val (.int .u64 (((i : Int) + (j : Int)) / 2)))] (oc (shr_u64 : ∀ w, (do eqGuard .shr 203 (.tmp 21) (.const (.int .u64 1)) (.int .u64 ((i : Int) + (j : Int))) (.int .u64 1); binOp .shr 203 (.int .u64 ((i : Int) + (j : Int))) (.int .u64 1) : Sem Value).run Tryz.prog w = .ok (.int .u64 (((i : Int) + (j : Int)) / 2)) w) on)) (pc (pG [(23, .val (vi (((i : Int) + (j : Int)) / 2)))] (oc ((conv_u64_i64 Tryz.underlying203 Tryz.underlying3 (by omega) (by omega)) : ∀ w, (convert 203 3 (.int .u64 (((i : Int) + (j : Int)) / 2)) : Sem Value).run Tryz.prog w = .ok (vi (((i : Int) + (j : Int)) / 2)) w) on)) (pA 27 28 (((i : Int) + (j : Int)) / 2) (((i : Int) + (j : Int)) / 2).toNat (rdk hs))))))
 refine Mp ?_ Tryz.call194 (fun bs w hS => pair_find_1 (s.at (((i : Int) + (j : Int)) / 2).toNat) t w)
 refine Md (cmpS (s.at (((i : Int) + (j : Int)) / 2).toNat).name t < 0) (fun h2 => ?_) fun h2 => ?_
 rotate_left
 · have hf1 : f = (f - 1) + 1 := by omega
   rw [hf1] at hI
   have hI2 := hI.trans (bsGo_down (by omega) (decide_eq_false (by assumption)))
   exact on1 ⟨i, (i + j) / 2, f - 1⟩ ⟨by omega, by omega, by omega, hI2⟩ (by show f - 1 < f; omega)
 refine Mi ?_ (pR ((((i : Int) + (j : Int)) / 2) + 1))
 have hf1 : f = (f - 1) + 1 := by omega
 rw [hf1] at hI
 have hI2 := hI.trans (bsGo_up (by omega) (decide_eq_true (by assumption)))
 exact on1 ⟨(i + j) / 2 + 1, j, f - 1⟩ ⟨by omega, by omega, by omega, hI2⟩ (by show f - 1 < f; omega)

theorem pair_find {B : Nat → Prop} (s : Sl DPair) (t : ByteArray) (w : World) (hs : s.rd B w) (hn : s.n ≤ 1048576) : Calls Tryz.prog 151 #[s.val, vs t] w fun e w' => e = .returned (.tuple #[vi (mBS (fun x : DPair => cmpS x.name t) s.xs : Nat), vb (mBSf (fun x : DPair => cmpS x.name t) s.xs)]) ∧ Kp [] w w' := by
 have oks := Sl.rd.ok hs
 have ncs := Sl.ok.nc oks
 have hns : s.n = s.xs.length := rfl
 refine M0 ?_ Tryz.func151
 refine Mp ?_ Tryz.call193 (fun bs w hS => bs_pair_find_1 s t w (Sl.rd.kp hs hS.kp) (by omega))
 exact Mt [vi ((mBS (fun x : DPair => cmpS x.name t) s.xs : Nat) : Int), vb (mBSf (fun x : DPair => cmpS x.name t) s.xs)] fun bs w hS => ⟨rfl, hS.kp⟩

theorem tackroomref_pairAt {B : Nat → Prop} (s : Sl DPair) (t : ByteArray) (w : World) (hs : s.rd B w) : Calls Tryz.prog 106 #[s.val, vs t] w fun e w' => e = .returned (vi (mIdx (fun x : DPair => decide (x.name = t)) s.xs)) ∧ Kp [] w w' := by
 have oks := Sl.rd.ok hs
 have ncs := Sl.ok.nc oks
 have hns : s.n = s.xs.length := rfl
 refine M0 ?_ Tryz.func106
 refine Ml (σ := Nat) (fun i => i ≤ s.n ∧ ∀ j, j < i → decide ((s.at j).name = t) = false) (fun i => s.n - i) (fun _ => []) [5, 0, 1] (fun i => [(5, vI (i : Int))]) (fun _ => []) ?_ 0 ⟨Nat.zero_le _, fun j hj => absurd hj (Nat.not_lt_zero _)⟩
 rintro i ⟨hi, hI⟩ _ on1
 refine Md ((i : Int) < (s.n : Int)) (fun h1 => ?_) fun h1 => ?_
 rotate_left
 · exact Me0 (-1) (by rw [mIdx_none (p := (fun x : DPair => decide (x.name = t))) fun j hj => hI j (by omega)])
 refine Mi ?_ (pc (pI 14 (i : Int) i (rdk hs)) (pF 16 i 0 1 (rdk hs)))
 refine Md ((s.at i).name = t) (fun h2 => ?_) fun h2 => ?_
 · exact Me0 (i : Int) (by rw [mIdx_here (p := (fun x : DPair => decide (x.name = t))) (i := i) (by omega) (decide_eq_true (by assumption)) hI])
 refine Mi ?_ (pR ((i : Int) + 1))
 exact on1 (i + 1) ⟨by omega, fun j hj => by rcases Nat.lt_succ_iff_lt_or_eq.1 hj with h | h; exact hI j h; subst h; exact decide_eq_false (by assumption)⟩ (by omega)

theorem clone_Pair {B : Nat → Prop} (s : Sl DPair) (w : World) (hs : s.rd B w) (hb : s.n * 40 ≤ 140737488355328) : Calls Tryz.prog 69 #[s.val] w fun e w' => ∃ y : Sl DPair, e = .returned y.val ∧ y.xs = s.xs ∧ Kp [] w w' ∧ Fresh w w' (rowA 128 y.A y.c y.xs) := by
 have oks := Sl.rd.ok hs
 have ncs := Sl.ok.nc oks
 have hns : s.n = s.xs.length := rfl
 refine M0 ?_ Tryz.func69
 refine Mi ?_ (pG [(4, .val (.bool s.A.isNone))] (oc ((eq_nil Tryz.underlying23) : ∀ w, (do eqGuard .eql 23 (.tmp 3) (.const vn) s.val vn; binOp .eql 23 s.val vn : Sem Value).run Tryz.prog w = .ok (.bool s.A.isNone) w) on))
 refine Mb s.A.isNone (fun h1 => ?_) fun h1 => ?_
 · refine Mt [vn] fun bs w hS => ?_
   have hnil : s.xs = [] := Sl.ok.empty oks (by cases h : s.A <;> simp_all)
   exact ⟨Sl.nil, rfl, hnil.symm, hS.kp, rowA_nil 128 w⟩
 refine Mlz ?_ (α := DPair) (e := 128)
 intro A1
 refine Ma ?_ (α := DPair) (L2 := s.xs) 40 (fun bs w hS => Sl.rd.src (s := s) (Sl.rd.kp hs hS.kp))
 intro A2 c2
 exact Mt [.slice A2 ([] ++ s.xs).length c2] fun bs w hS => ⟨⟨A2, c2, [] ++ s.xs⟩, rfl, by simp, hS.kp, hS.out1⟩

theorem same_pairs {B B' : Nat → Prop} (a b : Sl DPair) (w : World) (ha : a.rd B w) (hb : b.rd B' w) (he : a.xs = b.xs) : Calls Tryz.prog 44 #[a.val, b.val] w fun e w' => e = .returned (vb true) ∧ Kp [] w w' := by
 have oka := Sl.rd.ok ha
 have okb := Sl.rd.ok hb
 have hn := xs_n he
 have nca := Sl.ok.nc oka
 refine M0 ?_ Tryz.func44
 refine Mdn ((a.n : Int) = (b.n : Int)) (fun h1 => ?_) fun h1 => ?_
 rotate_left
 · exfalso; first | omega | exact h1 (xs_at he i)
 refine Ml (σ := Nat) (fun i => True) (fun i => a.n - i) (fun _ => []) [5, 0, 1] (fun i => [(5, vI (i : Int))]) (fun _ => []) ?_ 0 trivial
 rintro i _ _ on1
 have hat := xs_at he i
 refine Md ((i : Int) < (a.n : Int)) (fun h2 => ?_) fun h2 => ?_
 rotate_left
 · exact Mt [vb true] fun bs w hS => ⟨rfl, hS.kp⟩
 refine Mda 9 [] [] [] Tryz_mixed ?_
 refine Mih ?_ (pc (pA 19 20 (i : Int) i (rdk ha)) (pc (pA 23 24 (i : Int) i (rdk hb)) (pG [(25, .val (vb (!((decide ((a.at i).name = (b.at i).name)) && ((decide ((a.at i).value = (b.at i).value)) && ((decide ((a.at i).version = (b.at i).version)) && true))))))] (oc ((neq_agg (by kernel_rfl) (by kernel_rfl)) : ∀ w, (do eqGuard .neq 128 (.tmp 20) (.tmp 24) (a.at i).val (b.at i).val; binOp .neq 128 (a.at i).val (b.at i).val : Sem Value).run Tryz.prog w = .ok (vb (!((decide ((a.at i).name = (b.at i).name)) && ((decide ((a.at i).value = (b.at i).value)) && ((decide ((a.at i).version = (b.at i).version)) && true))))) w) on))))
 refine Mbn ((decide ((a.at i).name = (b.at i).name)) && ((decide ((a.at i).value = (b.at i).value)) && ((decide ((a.at i).version = (b.at i).version)) && true))) (fun h3 => ?_) fun h3 => ?_
 rotate_left
 · exfalso; simp [xs_at he i] at h3
 refine Mi ?_ (pR ((i : Int) + 1))
 exact on1 (i + 1) trivial (by omega)

theorem pair_Set {B : Nat → Prop} (s : Sl DPair) (t v : ByteArray) (w : World) (hs : s.rd B w) (ht : t.size ≤ 9223372036854775807) (hv : v.size ≤ 9223372036854775807) : Calls Tryz.prog 87 #[.slice s.A s.n s.c, .string t, .string v] w fun e w' => ∃ y : Sl DPair, e = .returned (.tuple #[.slice y.A y.n y.c, .agg #[.int .i64 ((mPSet s.xs t v).2.1).code, .int .i64 ((mPSet s.xs t v).2.1).n, .string ((mPSet s.xs t v).2.1).text], .int .i64 (mPSet s.xs t v).2.2]) ∧ y.xs = (mPSet s.xs t v).1 ∧ FreshS w w' y := by
 have oks := Sl.rd.ok hs
 have ncs := Sl.ok.nc oks
 have hns : s.n = s.xs.length := rfl
 refine M0 ?_ Tryz.func87
 refine Mp ?_ Tryz.call65 (fun bs w hS => pair_Check s w (Sl.rd.kp hs hS.kp))
 refine Mdn (mPairs s.xs = 0) (fun h1 => ?_) fun h1 => ?_
 rotate_left
 · refine Mt [vn, vz 0, vi (mPairs s.xs)] fun bs w hS => ?_
   have hm : mPSet s.xs t v = ([], zRep, mPairs s.xs) := by
     grind [mPSet, pIdx]
   refine ⟨Sl.nil, ?_, ?_, hS.outS (Sl.rd_nil _ _)⟩
   · rw [hm] <;> rfl
   · rw [hm] <;> rfl
 have hln := (mPairs_bd h1).1
 refine Mp ?_ (vs := fun bs => [vs t]) Tryz.call129 (fun bs w hS => lock_Name _ w (by first | assumption | omega | (simp only [emp_size]; omega)))
 refine Mbn (mName t) (fun h2 => ?_) fun h2 => ?_
 rotate_left
 · refine Mt [vn, vz 0, vi 4] fun bs w hS => ?_
   have hm : mPSet s.xs t v = ([], zRep, 4) := by
     grind [mPSet, pIdx]
   refine ⟨Sl.nil, ?_, ?_, hS.outS (Sl.rd_nil _ _)⟩
   · rw [hm] <;> rfl
   · rw [hm] <;> rfl
 refine Md ((12 : Int) < (v.size : Int)) (fun h3 => ?_) fun h3 => ?_
 · refine Mt [vn, vz 0, vi 1] fun bs w hS => ?_
   have hm : mPSet s.xs t v = ([], zRep, 1) := by
     grind [mPSet, pIdx]
   refine ⟨Sl.nil, ?_, ?_, hS.outS (Sl.rd_nil _ _)⟩
   · rw [hm] <;> rfl
   · rw [hm] <;> rfl
 refine Mf ?_ Tryz.call69 (fun bs w hS => clone_Pair s w (Sl.rd.kp hs hS.kp) (by omega))
 rintro y1 hF1
 obtain ⟨A1, c1, rfl⟩ := Sl.of_xs hF1
 refine m_weak (rowA 128 A1 c1 (s.xs : List DPair)) (List.Sublist.refl _) (fun w h => h) ?_
 refine m_know (F := RowOk A1 c1 (s.xs : List DPair)) (fun bs w hS => rowA_rok (hS.res _ i0)) fun hrow1 => ?_
 have nchrow1 := hrow1.2
 refine Mp ?_ (v := .tuple #[vi ((mBS (fun x : DPair => cmpS x.name t) s.xs : Nat) : Int), vb (mBSf (fun x : DPair => cmpS x.name t) s.xs)]) Tryz.call151 (fun bs w hS => pair_find (⟨A1, c1, s.xs⟩ : Sl DPair) t w (Rr (B := anyB) (hS.res _ i0) (fun _ _ => trivial) (fun z hz => Sl.rd.mem (s := s) hs z hz)) (show s.xs.length ≤ 1048576 by omega))
 have hbs := bsf_pair (l := s.xs) (by assumption) t
 have hJb := mIdx_bd (fun x : DPair => decide (x.name = t)) s.xs
 generalize hJ : mIdx (fun x : DPair => decide (x.name = t)) s.xs = J at hbs hJb
 have hkl := mBS_le (fun x : DPair => cmpS x.name t) s.xs
 generalize hk : mBS (fun x : DPair => cmpS x.name t) s.xs = k at hbs hkl ⊢
 generalize hf : mBSf (fun x : DPair => cmpS x.name t) s.xs = fb at hbs ⊢
 refine Mbx fb true [(11, false)] (fun h4 => ?_) fun h4 => ?_
 rotate_left
 · have h0J := of_decide_eq_false (hbs.1.symm.trans h4)
   refine Md ((s.xs.length : Int) = 5) (fun h6 => ?_) fun h6 => ?_
   · refine Mt [.slice A1 s.xs.length c1, vz 8, vi 0] fun bs w hS => ?_
     have hm : mPSet s.xs t v = (s.xs, ⟨8, 0, emp⟩, 0) := by
       grind [mPSet, pIdx]
     refine ⟨⟨A1, c1, s.xs⟩, ?_, ?_, hS.outS (y := (⟨A1, c1, s.xs⟩ : Sl DPair)) (allR_row i0 (hS.res _ i0) (fun z hz => Sl.rd.mem (s := s) hs z hz))⟩
     · rw [hm] <;> rfl
     · exact Eq.trans rfl (congrArg Prod.fst hm).symm
   refine M1 ?_
   refine Mtu ?_ (v := fun q5 => .slice q5.1 (s.xs.take k ++ [(⟨t, v, 1⟩ : DPair)] ++ s.xs.drop k).length q5.2) (vs := fun bs => [.slice A1 s.xs.length c1, vi (k : Int), .slice (some (adr bs 1 0)) 1 1]) Tryz.call152 (fun bs w hS => (insR_Pair A1 c1 s.xs k _ (⟨t, v, 1⟩ : DPair) (bs.getD 1 0) 128 w (hS.res _ i0) hS.head1.2.2 rfl (by first | omega | (simp only [Sl.n] at *; omega)) (by first | omega | (simp only [Sl.n] at *; omega)) (hS.loc 1 ⟨128, [vS t, vS v, vI 1]⟩ (by kernel_rfl) (by simp)) (hS.ne_head (i := 1) (b := ⟨128, [vS t, vS v, vI 1]⟩) (by kernel_rfl))).mono (fun e w' ⟨y, h1, h2⟩ => ⟨y, h1, trivial, h2⟩))
   rintro q5 _
   refine Mt [.slice q5.1 (s.xs.take k ++ [(⟨t, v, 1⟩ : DPair)] ++ s.xs.drop k).length q5.2, .agg #[vi 0, vi 1, ve], vi 0] fun bs w hS => ?_
   have hvx : s.xs.take k ++ [(⟨t, v, 1⟩ : DPair)] ++ s.xs.drop k = mIns (fun x : DPair => Op.bytesLess t.toList x.name.toList) ⟨t, v, 1⟩ s.xs := ins_at ((ins_names DPair.name (pairs_srt (by assumption) t) (by rw [hJ]; omega)).trans hk)
   have hm : mPSet s.xs t v = (mIns (fun x : DPair => Op.bytesLess t.toList x.name.toList) ⟨t, v, 1⟩ s.xs, ⟨0, 1, emp⟩, 0) := by
     grind [mPSet, pIdx]
   refine ⟨⟨q5.1, q5.2, s.xs.take k ++ [(⟨t, v, 1⟩ : DPair)] ++ s.xs.drop k⟩, ?_, ?_, hS.outS (y := (⟨q5.1, q5.2, s.xs.take k ++ [(⟨t, v, 1⟩ : DPair)] ++ s.xs.drop k⟩ : Sl DPair)) (allR_row i0 (hS.res _ i0) (fun z hz => ?_))⟩
   · rw [hm] <;> rfl
   · exact Eq.trans hvx (congrArg Prod.fst hm).symm
   · rw [hvx] at hz
     rcases ins_mem hz with hz | hz
     · subst hz; exact ⟨ht, hv⟩
     · exact Sl.rd.mem (s := s) hs z hz
 have hkJ := hbs.2 h4
 subst hkJ
 have hpv := pairF_bd ((mPairs_bd (l := s.xs) (by assumption)).2 k (by omega))
 have hpv1 := hpv.2.2.1
 have hpv2 := hpv.2.2.2.1
 refine Mi ?_ (pc (pIo 46 (k : Int) k s.xs.length i0) (pFo 48 k 2 1 i0))
 refine Md ((s.xs.getD k default).version = 1073741824) (fun h5 => ?_) fun h5 => ?_
 · refine Mt [.slice A1 s.xs.length c1, vz 8, vi 0] fun bs w hS => ?_
   have hm : mPSet s.xs t v = (s.xs, ⟨8, 0, emp⟩, 0) := by
     grind [mPSet, pIdx]
   refine ⟨⟨A1, c1, s.xs⟩, ?_, ?_, hS.outS (y := (⟨A1, c1, s.xs⟩ : Sl DPair)) (allR_row i0 (hS.res _ i0) (fun z hz => Sl.rd.mem (s := s) hs z hz))⟩
   · rw [hm] <;> rfl
   · exact Eq.trans rfl (congrArg Prod.fst hm).symm
 refine Mi ?_ (pIo 67 (k : Int) k s.xs.length i0)
 refine Ms k 1 (⟨(s.xs.getD k default).name, v, (s.xs.getD k default).version⟩ : DPair) ?_ (by omega)
 intro L3 hL3 hlL3
 have hgL3 : L3.getD k default = (⟨(s.xs.getD k default).name, v, (s.xs.getD k default).version⟩ : DPair) := by rw [hL3]; exact getD_set (by omega)
 have hbL3 : L3 = List.set s.xs k (⟨(s.xs.getD k default).name, v, (s.xs.getD k default).version⟩ : DPair) := by rw [hL3]
 refine Mi ?_ (pc (pIo 71 (k : Int) k s.xs.length i0) (pc (pFk 73 k 2 1 hgL3 i0) (pc (pR ((s.xs.getD k default).version + 1)) (pIo 75 (k : Int) k s.xs.length i0))))
 refine Ms k 2 (⟨(s.xs.getD k default).name, v, (s.xs.getD k default).version + 1⟩ : DPair) ?_ (by omega) (hg := hgL3)
 intro L4 hL4 hlL4
 have hgL4 : L4.getD k default = (⟨(s.xs.getD k default).name, v, (s.xs.getD k default).version + 1⟩ : DPair) := by rw [hL4]; exact getD_set (by omega)
 have hbL4 : L4 = List.set s.xs k (⟨(s.xs.getD k default).name, v, (s.xs.getD k default).version + 1⟩ : DPair) := by rw [hL4, hbL3, List.set_set]
 refine Mda 10 [] [0] [rowA 128 A1 c1 (L4 : List DPair)] Tryz_mixed ?_
 refine Mih ?_ (pc (pIo 80 (k : Int) k s.xs.length i0) (pFk 82 k 2 1 hgL4 i0))
 refine Mz ?_
 refine Mt [.slice A1 s.xs.length c1, .agg #[vi 0, vi ((s.xs.getD k default).version + 1), ve], vi 0] fun bs w hS => ?_
 have hvx : L4 = s.xs.set k ⟨(s.xs.getD k default).name, v, (s.xs.getD k default).version + 1⟩ := hbL4
 have hm : mPSet s.xs t v = (s.xs.set k ⟨(s.xs.getD k default).name, v, (s.xs.getD k default).version + 1⟩, ⟨0, (s.xs.getD k default).version + 1, emp⟩, 0) := by
   grind [mPSet, pIdx]
 refine ⟨⟨A1, c1, L4⟩, ?_, ?_, hS.outS (y := (⟨A1, c1, L4⟩ : Sl DPair)) (allR_row i0 (hS.res _ i0) (fun z hz => ?_))⟩
 · have hll : L4.length = s.xs.length := by rw [hvx, List.length_set]
   rw [hm]
   exact congrArg (fun q => Ending.returned (.tuple #[.slice A1 q c1, .agg #[vi 0, vi ((s.xs.getD k default).version + 1), ve], vi 0])) hll.symm
 · exact Eq.trans hvx (congrArg Prod.fst hm).symm
 · rw [hvx] at hz
   rcases mem_set hz with hz | hz
   · subst hz; exact ⟨(Sl.rd.mem (s := s) hs _ (mem_of_getD (i := k) (by omega))).1, hv⟩
   · exact Sl.rd.mem (s := s) hs z hz

theorem ref_SetOf {B : Nat → Prop} (s : Sl DPair) (t v : ByteArray) (w : World) (hs : s.rd B w) (ht : t.size ≤ 9223372036854775807) (hv : v.size ≤ 9223372036854775807) : Calls Tryz.prog 41 #[.slice s.A s.n s.c, .string t, .string v] w fun e w' => ∃ y : Sl DPair, e = .returned (.tuple #[.slice y.A y.n y.c, .agg #[.int .i64 ((mPSet s.xs t v).2.1).code, .int .i64 ((mPSet s.xs t v).2.1).n, .string ((mPSet s.xs t v).2.1).text], .int .i64 (mPSet s.xs t v).2.2]) ∧ y.xs = (mPSet s.xs t v).1 ∧ FreshS w w' y := by
 have oks := Sl.rd.ok hs
 have ncs := Sl.ok.nc oks
 have hns : s.n = s.xs.length := rfl
 refine M0 ?_ Tryz.func41
 refine Mp ?_ Tryz.call94 (fun bs w hS => ref_PairsFault s w (Sl.rd.kp hs hS.kp))
 refine Md (mPairs s.xs = 0) (fun h1 => ?_) fun h1 => ?_
 rotate_left
 · refine My false false ?_ (df h1)
   refine My false true ?_ (df h1)
   refine Mt [vn, vz 0, vi (mPairs s.xs)] fun bs w hS => ?_
   have hm : mPSet s.xs t v = ([], zRep, mPairs s.xs) := by
     grind [mPSet, pIdx]
   refine ⟨Sl.nil, ?_, ?_, hS.outS (Sl.rd_nil _ _)⟩
   · rw [hm] <;> rfl
   · rw [hm] <;> rfl
 have hln := (mPairs_bd h1).1
 refine Mp ?_ (vs := fun bs => [vs t]) Tryz.call107 (fun bs w hS => ref_NameMay _ w (by first | assumption | omega | (simp only [emp_size]; omega)))
 refine Mbn (mName t) (fun h2 => ?_) fun h2 => ?_
 rotate_left
 · refine Mq 26 false ?_ rfl
   refine Mq 32 true ?_ rfl
   refine Mt [vn, vz 0, vi 4] fun bs w hS => ?_
   have hm : mPSet s.xs t v = ([], zRep, 4) := by
     grind [mPSet, pIdx]
   refine ⟨Sl.nil, ?_, ?_, hS.outS (Sl.rd_nil _ _)⟩
   · rw [hm] <;> rfl
   · rw [hm] <;> rfl
 refine My true false ?_ (dt h1)
 refine Md ((12 : Int) < (v.size : Int)) (fun h4 => ?_) fun h4 => ?_
 · refine Mq 32 true ?_ rfl
   refine Mt [vn, vz 0, vi 1] fun bs w hS => ?_
   have hm : mPSet s.xs t v = ([], zRep, 1) := by
     grind [mPSet, pIdx]
   refine ⟨Sl.nil, ?_, ?_, hS.outS (Sl.rd_nil _ _)⟩
   · rw [hm] <;> rfl
   · rw [hm] <;> rfl
 refine My true true ?_ (dt h1)
 refine m_rowA (α := DPair) 128 ?_
 refine Ma ?_ (α := DPair) (L2 := s.xs) 40 (fun bs w hS => Sl.rd.src (s := s) (Sl.rd.kp hs hS.kp))
 intro A1 c1
 refine m_weak (rowA 128 A1 c1 (s.xs : List DPair)) (List.Sublist.refl _) (fun w h => h) ?_
 refine m_know (F := RowOk A1 c1 (s.xs : List DPair)) (fun bs w hS => rowA_rok (hS.res _ i0)) fun hrow1 => ?_
 have nchrow1 := hrow1.2
 refine Mp ?_ (v := vi (mIdx (fun x : DPair => decide (x.name = t)) s.xs)) Tryz.call106 (fun bs w hS => tackroomref_pairAt (⟨A1, c1, s.xs⟩ : Sl DPair) t w (Rr (B := anyB) (hS.res _ i0) (fun _ _ => trivial) (fun z hz => Sl.rd.mem (s := s) hs z hz)))
 have hJb := mIdx_bd (fun x : DPair => decide (x.name = t)) s.xs
 generalize hJ : mIdx (fun x : DPair => decide (x.name = t)) s.xs = J at hJb ⊢
 refine Md ((0 : Int) ≤ J) (fun h6 => ?_) fun h6 => ?_
 · have h0J : 0 ≤ J := by omega
   have hpv := pairF_bd ((mPairs_bd (l := s.xs) (by assumption)).2 J.toNat (by omega))
   have hpv1 := hpv.2.2.1
   have hpv2 := hpv.2.2.2.1
   refine Mi ?_ (pc (pIo 44 J J.toNat (s.xs).length i0) (pFo 46 J.toNat 2 1 i0))
   refine Md ((1073741824 : Int) ≤ (s.xs.getD J.toNat default).version) (fun h7 => ?_) fun h7 => ?_
   · refine Mt [.slice A1 (s.xs).length c1, vz 8, vi 0] fun bs w hS => ?_
     have hm : mPSet s.xs t v = (s.xs, ⟨8, 0, emp⟩, 0) := by
       grind [mPSet, pIdx]
     refine ⟨⟨A1, c1, s.xs⟩, ?_, ?_, hS.outS (y := (⟨A1, c1, s.xs⟩ : Sl DPair)) (allR_row i0 (hS.res _ i0) (fun z hz => Sl.rd.mem (s := s) hs z hz))⟩
     · rw [hm] <;> rfl
     · exact Eq.trans rfl (congrArg Prod.fst hm).symm
   refine Mi ?_ (pIo 53 J J.toNat (s.xs).length i0)
   refine Ms J.toNat 1 (⟨(s.xs.getD J.toNat default).name, v, (s.xs.getD J.toNat default).version⟩ : DPair) ?_ (by omega)
   intro L2 hL2 hlL2
   have hgL2 : L2.getD J.toNat default = (⟨(s.xs.getD J.toNat default).name, v, (s.xs.getD J.toNat default).version⟩ : DPair) := by rw [hL2]; exact getD_set (by omega)
   have hbL2 : L2 = List.set s.xs J.toNat (⟨(s.xs.getD J.toNat default).name, v, (s.xs.getD J.toNat default).version⟩ : DPair) := by rw [hL2]
   refine Mi ?_ (pc (pIo 57 J J.toNat (s.xs).length i0) (pc (pFk 59 J.toNat 2 1 hgL2 i0) (pc (pR ((s.xs.getD J.toNat default).version + 1)) (pIo 61 J J.toNat (s.xs).length i0))))
   refine Ms J.toNat 2 (⟨(s.xs.getD J.toNat default).name, v, (s.xs.getD J.toNat default).version + 1⟩ : DPair) ?_ (by omega) (hg := hgL2)
   intro L3 hL3 hlL3
   have hgL3 : L3.getD J.toNat default = (⟨(s.xs.getD J.toNat default).name, v, (s.xs.getD J.toNat default).version + 1⟩ : DPair) := by rw [hL3]; exact getD_set (by omega)
   have hbL3 : L3 = List.set s.xs J.toNat (⟨(s.xs.getD J.toNat default).name, v, (s.xs.getD J.toNat default).version + 1⟩ : DPair) := by rw [hL3, hbL2, List.set_set]
   refine Mda 10 [] [0] [rowA 128 A1 c1 (L3 : List DPair)] Tryz_mixed ?_
   refine Mih ?_ (pc (pIo 66 J J.toNat (s.xs).length i0) (pFk 68 J.toNat 2 1 hgL3 i0))
   refine Mz ?_
   refine Mt [.slice A1 (s.xs).length c1, .agg #[vi 0, vi ((s.xs.getD J.toNat default).version + 1), ve], vi 0] fun bs w hS => ?_
   have hvx : L3 = s.xs.set J.toNat ⟨(s.xs.getD J.toNat default).name, v, (s.xs.getD J.toNat default).version + 1⟩ := hbL3
   have hm : mPSet s.xs t v = (s.xs.set J.toNat ⟨(s.xs.getD J.toNat default).name, v, (s.xs.getD J.toNat default).version + 1⟩, ⟨0, (s.xs.getD J.toNat default).version + 1, emp⟩, 0) := by
     grind [mPSet, pIdx]
   refine ⟨⟨A1, c1, L3⟩, ?_, ?_, hS.outS (y := (⟨A1, c1, L3⟩ : Sl DPair)) (allR_row i0 (hS.res _ i0) (fun z hz => ?_))⟩
   · have hll : L3.length = s.xs.length := by rw [hvx, List.length_set]
     rw [hm]
     exact congrArg (fun q => Ending.returned (.tuple #[.slice A1 q c1, .agg #[vi 0, vi ((s.xs.getD J.toNat default).version + 1), ve], vi 0])) hll.symm
   · exact Eq.trans hvx (congrArg Prod.fst hm).symm
   · rw [hvx] at hz
     rcases mem_set hz with hz | hz
     · subst hz; exact ⟨(Sl.rd.mem (s := s) hs _ (mem_of_getD (i := J.toNat) (by omega))).1, hv⟩
     · exact Sl.rd.mem (s := s) hs z hz
 have h0J : ¬ 0 ≤ J := by omega
 refine Md ((5 : Int) ≤ (((s.xs).length : Nat) : Int)) (fun h8 => ?_) fun h8 => ?_
 · refine Mt [.slice A1 (s.xs).length c1, vz 8, vi 0] fun bs w hS => ?_
   have hm : mPSet s.xs t v = (s.xs, ⟨8, 0, emp⟩, 0) := by
     grind [mPSet, pIdx]
   refine ⟨⟨A1, c1, s.xs⟩, ?_, ?_, hS.outS (y := (⟨A1, c1, s.xs⟩ : Sl DPair)) (allR_row i0 (hS.res _ i0) (fun z hz => Sl.rd.mem (s := s) hs z hz))⟩
   · rw [hm] <;> rfl
   · exact Eq.trans rfl (congrArg Prod.fst hm).symm
 refine m_rowA (α := DPair) 128 ?_
 refine Ml (σ := Nat × Bool × Option Addr × Nat × List DPair) (fun ⟨k, b, A, c, L⟩ => InsI (fun x : DPair => Op.bytesLess t.toList x.name.toList) (⟨t, v, 1⟩ : DPair) s.xs k b L) (fun ⟨k, b, A, c, L⟩ => s.xs.length - k) (fun ⟨k, b, A, c, L⟩ => [rowA 128 A c (L : List DPair), rowA 128 A1 c1 (s.xs : List DPair)]) [14, 13, 12, 10, 7, 1, 2] (fun ⟨k, b, A, c, L⟩ => [(14, vI (k : Int)), (13, vB b), (12, .v (.slice A L.length c))]) (fun _ => []) ?_ (⟨0, false, none, 0, []⟩) (show InsI (fun x : DPair => Op.bytesLess t.toList x.name.toList) (⟨t, v, 1⟩ : DPair) s.xs 0 false [] from InsI.start _ _ _)
 rintro ⟨k, b, A, c, L⟩ hI _ on1
 have hIl := hI.len
 have hIk := hI.le
 refine Md ((k : Int) < (((s.xs).length : Nat) : Int)) (fun h9 => ?_) fun h9 => ?_
 rotate_left
 · refine Mbn b (fun h12 => ?_) fun h12 => ?_
   · refine Mt [.slice A L.length c, .agg #[vi 0, vi 1, ve], vi 0] fun bs w hS => ?_
     clear on1
     have hvx : L = mIns (fun x : DPair => Op.bytesLess t.toList x.name.toList) ⟨t, v, 1⟩ s.xs := (hI.fin1 (by assumption) (by omega))
     have hm : mPSet s.xs t v = (mIns (fun x : DPair => Op.bytesLess t.toList x.name.toList) ⟨t, v, 1⟩ s.xs, ⟨0, 1, emp⟩, 0) := by
       grind [mPSet, pIdx]
     refine ⟨⟨A, c, L⟩, ?_, ?_, hS.outS (y := (⟨A, c, L⟩ : Sl DPair)) (allR_row i0 (hS.res _ i0) (fun z hz => ?_))⟩
     · rw [hm] <;> rfl
     · exact Eq.trans hvx (congrArg Prod.fst hm).symm
     · rw [hvx] at hz
       rcases ins_mem hz with hz | hz
       · subst hz; exact ⟨ht, hv⟩
       · exact Sl.rd.mem (s := s) hs z hz
   refine M1 ?_
   refine Mal (α := DPair) 40 ([(⟨t, v, 1⟩ : DPair)]) ?_
   intro A8 c8
   refine m_know (F := RowOk A8 c8 (L ++ [(⟨t, v, 1⟩ : DPair)] : List DPair)) (fun bs w hS => rowA_rok (hS.res _ i0)) fun hrow8 => ?_
   have nchrow8 := hrow8.2
   refine Mt [.slice A8 (L ++ [(⟨t, v, 1⟩ : DPair)]).length c8, .agg #[vi 0, vi 1, ve], vi 0] fun bs w hS => ?_
   clear on1
   have hvx : L ++ [(⟨t, v, 1⟩ : DPair)] = mIns (fun x : DPair => Op.bytesLess t.toList x.name.toList) ⟨t, v, 1⟩ s.xs := (hI.fin0 (by assumption) (by omega))
   have hm : mPSet s.xs t v = (mIns (fun x : DPair => Op.bytesLess t.toList x.name.toList) ⟨t, v, 1⟩ s.xs, ⟨0, 1, emp⟩, 0) := by
     grind [mPSet, pIdx]
   refine ⟨⟨A8, c8, L ++ [(⟨t, v, 1⟩ : DPair)]⟩, ?_, ?_, hS.outS (y := (⟨A8, c8, L ++ [(⟨t, v, 1⟩ : DPair)]⟩ : Sl DPair)) (allR_row i0 (hS.res _ i0) (fun z hz => ?_))⟩
   · rw [hm] <;> rfl
   · exact Eq.trans hvx (congrArg Prod.fst hm).symm
   · rw [hvx] at hz
     rcases ins_mem hz with hz | hz
     · subst hz; exact ⟨ht, hv⟩
     · exact Sl.rd.mem (s := s) hs z hz
 refine Mbx b true [(13, false)] (fun h10 => ?_) fun h10 => ?_
 · refine Mi ?_ (pc (pIo 101 (k : Int) k (s.xs).length i1) (pEo 102 k i1))
   refine M1 ?_
   refine Mal (α := DPair) 40 ([(⟨(s.xs.getD k default).name, (s.xs.getD k default).value, (s.xs.getD k default).version⟩ : DPair)]) ?_
   intro A4 c4
   refine m_know (F := RowOk A4 c4 (L ++ [(⟨(s.xs.getD k default).name, (s.xs.getD k default).value, (s.xs.getD k default).version⟩ : DPair)] : List DPair)) (fun bs w hS => rowA_rok (hS.res _ i0)) fun hrow4 => ?_
   have nchrow4 := hrow4.2
   refine Mi ?_ (pR ((k : Int) + 1))
   exact on1 ⟨k + 1, true, A4, c4, L ++ [(⟨(s.xs.getD k default).name, (s.xs.getD k default).value, (s.xs.getD k default).version⟩ : DPair)]⟩ (by first | exact hI.more (by assumption) (by omega) | exact hI.hit (by assumption) (by omega) (by assumption) | exact hI.skip (by assumption) (by omega) (by assumption)) (by show s.xs.length - (k + 1) < s.xs.length - k; omega)
 refine Mi ?_ (pc (pIo 86 (k : Int) k (s.xs).length i1) (pFo 88 k 0 1 i1))
 refine Mbn (Op.bytesLess ((s.xs.getD k default).name).toList (t).toList || decide ((s.xs.getD k default).name = t)) (fun h11 => ?_) fun h11 => ?_
 · rw [bytes_total] at h11
   simp only [Bool.not_eq_true', Bool.not_eq_false', Bool.not_eq_true, Bool.not_eq_false] at h11
   refine Mi ?_ (pc (pIo 101 (k : Int) k (s.xs).length i1) (pEo 102 k i1))
   refine M1 ?_
   refine Mal (α := DPair) 40 ([(⟨(s.xs.getD k default).name, (s.xs.getD k default).value, (s.xs.getD k default).version⟩ : DPair)]) ?_
   intro A5 c5
   refine m_know (F := RowOk A5 c5 (L ++ [(⟨(s.xs.getD k default).name, (s.xs.getD k default).value, (s.xs.getD k default).version⟩ : DPair)] : List DPair)) (fun bs w hS => rowA_rok (hS.res _ i0)) fun hrow5 => ?_
   have nchrow5 := hrow5.2
   refine Mi ?_ (pR ((k : Int) + 1))
   exact on1 ⟨k + 1, false, A5, c5, L ++ [(⟨(s.xs.getD k default).name, (s.xs.getD k default).value, (s.xs.getD k default).version⟩ : DPair)]⟩ (by first | exact hI.more (by assumption) (by omega) | exact hI.hit (by assumption) (by omega) (by assumption) | exact hI.skip (by assumption) (by omega) (by assumption)) (by show s.xs.length - (k + 1) < s.xs.length - k; omega)
 rw [bytes_total] at h11
 simp only [Bool.not_eq_true', Bool.not_eq_false', Bool.not_eq_true, Bool.not_eq_false] at h11
 refine M1 ?_
 refine Mal (α := DPair) 40 ([(⟨t, v, 1⟩ : DPair)]) ?_
 intro A6 c6
 refine m_know (F := RowOk A6 c6 (L ++ [(⟨t, v, 1⟩ : DPair)] : List DPair)) (fun bs w hS => rowA_rok (hS.res _ i0)) fun hrow6 => ?_
 have nchrow6 := hrow6.2
 refine Mi ?_ (pc (pIo 101 (k : Int) k (s.xs).length i1) (pEo 102 k i1))
 refine M1 ?_
 refine Mal (α := DPair) 40 ([(⟨(s.xs.getD k default).name, (s.xs.getD k default).value, (s.xs.getD k default).version⟩ : DPair)]) ?_
 intro A7 c7
 refine m_know (F := RowOk A7 c7 (L ++ [(⟨t, v, 1⟩ : DPair)] ++ [(⟨(s.xs.getD k default).name, (s.xs.getD k default).value, (s.xs.getD k default).version⟩ : DPair)] : List DPair)) (fun bs w hS => rowA_rok (hS.res _ i0)) fun hrow7 => ?_
 have nchrow7 := hrow7.2
 refine Mi ?_ (pR ((k : Int) + 1))
 exact on1 ⟨k + 1, true, A7, c7, L ++ [(⟨t, v, 1⟩ : DPair)] ++ [(⟨(s.xs.getD k default).name, (s.xs.getD k default).value, (s.xs.getD k default).version⟩ : DPair)]⟩ (by first | exact hI.more (by assumption) (by omega) | exact hI.hit (by assumption) (by omega) (by assumption) | exact hI.skip (by assumption) (by omega) (by assumption)) (by show s.xs.length - (k + 1) < s.xs.length - k; omega)

theorem session_Join {B : Nat → Prop} (s : Sl CSession) (n t : Int) (w : World) (hs : s.rd B w) (ht : inR t) : Calls Tryz.prog 25 #[s.val, vi n, vi t] w fun e w' => ∃ y : Sl CSession, e = .returned (.tuple #[y.val, ((mJoin (s.xs.map CSession.abs) n t).2.1).val, vi (mJoin (s.xs.map CSession.abs) n t).2.2]) ∧ y.xs.map CSession.abs = (mJoin (s.xs.map CSession.abs) n t).1 ∧ FreshS w w' y := by
 have oks := Sl.rd.ok hs
 have ncs := Sl.ok.nc oks
 have hns : s.n = s.xs.length := rfl
 have hml : (s.xs.map CSession.abs).length = s.n := by simp
 refine M0 ?_ Tryz.func25
 refine Mp ?_ Tryz.call63 (fun bs w hS => session_Check s n w (Sl.rd.kp hs hS.kp))
 refine Mdn (mSess (s.xs.map CSession.abs) n = 0) (fun h1 => ?_) fun h1 => ?_
 rotate_left
 · refine Mt [vn, vz 0, vi (mSess (s.xs.map CSession.abs) n)] fun bs w hS => ?_
   have hm : mJoin (s.xs.map CSession.abs) n t = ([], zRep, mSess (s.xs.map CSession.abs) n) := by
     grind [mJoin, sIdx]
   refine ⟨Sl.nil, ?_, ?_, hS.outS (Sl.rd_nil _ _)⟩
   · rw [hm] <;> rfl
   · rw [hm] <;> rfl
 obtain ⟨hi0, hi1, hln, hall⟩ := mSess_bd h1
 have hln2 : s.xs.length ≤ 4 := by simpa using hln
 refine Md (t < 1) (fun h2 => ?_) fun h2 => ?_
 · refine Mt [vn, vz 0, vi 2] fun bs w hS => ?_
   have hm : mJoin (s.xs.map CSession.abs) n t = ([], zRep, 2) := by
     grind [mJoin, sIdx]
   refine ⟨Sl.nil, ?_, ?_, hS.outS (Sl.rd_nil _ _)⟩
   · rw [hm] <;> rfl
   · rw [hm] <;> rfl
 refine Md ((9 : Int) < t) (fun h3 => ?_) fun h3 => ?_
 · refine Mt [vn, vz 0, vi 2] fun bs w hS => ?_
   have hm : mJoin (s.xs.map CSession.abs) n t = ([], zRep, 2) := by
     grind [mJoin, sIdx]
   refine ⟨Sl.nil, ?_, ?_, hS.outS (Sl.rd_nil _ _)⟩
   · rw [hm] <;> rfl
   · rw [hm] <;> rfl
 refine Md (n = 1073741824) (fun h4 => ?_) fun h4 => ?_
 · refine Mt [vn, vz 0, vi 2] fun bs w hS => ?_
   have hm : mJoin (s.xs.map CSession.abs) n t = ([], zRep, 2) := by
     grind [mJoin, sIdx]
   refine ⟨Sl.nil, ?_, ?_, hS.outS (Sl.rd_nil _ _)⟩
   · rw [hm] <;> rfl
   · rw [hm] <;> rfl
 refine Mf ?_ Tryz.call70 (fun bs w hS => session_Copy s w (Sl.rd.kp hs hS.kp) (small_sess (by assumption)))
 rintro y1 hF1
 refine m_split2 ?_
 obtain ⟨A1, c1, S1⟩ := y1
 have hF1 : S1.map CSession.abs = s.xs.map CSession.abs := hF1
 refine m_perm (R' := [ownL (keptR 141) S1, rowA 118 A1 c1 (S1 : List CSession)]) (List.Perm.refl _) ?_
 have hnm1 := sess_texts (y := (⟨A1, c1, S1⟩ : Sl CSession)) (hs) hF1
 have hlen1 : S1.length = s.xs.length := by simpa using congrArg List.length hF1
 refine m_know (F := ∀ i, i < S1.length → Rds.ok (S1.getD i default)) (fun bs w hS i hi => Rds.okof (B := anyB) (w := w) (own_elt (hS.res _ i0) hnm1 (mem_of_getD hi))) fun okown1 => ?_
 refine m_know (F := RowOk A1 c1 (S1 : List CSession)) (fun bs w hS => rowA_rok (hS.res _ i1)) fun hrow1 => ?_
 have nchrow1 := hrow1.2
 have hml1 : (S1.map CSession.abs).length = S1.length := by simp
 refine Mp ?_ Tryz.call76 (fun bs w hS => session_find (⟨A1, c1, S1⟩ : Sl CSession) t w (own_sess (hS.res _ i0) (hS.res _ i1) hnm1) (show S1.length ≤ 1048576 by omega))
 have hbs := bsf_sess (L := S1) (index := n) (t := t) (by rw [hF1]; assumption) ht
 have hJb := mIdx_bd (fun x : DSession => decide (x.client = t)) (S1.map CSession.abs)
 generalize hJ : mIdx (fun x : DSession => decide (x.client = t)) (S1.map CSession.abs) = J at hbs hJb
 have hkl := mBS_le (fun x : CSession => IntKind.i64.wrap (x.client - t)) S1
 generalize hk : mBS (fun x : CSession => IntKind.i64.wrap (x.client - t)) S1 = k at hbs hkl ⊢
 generalize hf : mBSf (fun x : CSession => IntKind.i64.wrap (x.client - t)) S1 = fb at hbs ⊢
 refine Mb fb (fun h5 => ?_) fun h5 => ?_
 · have hkJ := hbs.2 h5
   subst hkJ
   refine Mi ?_ (pc (pR (n + 1)) (pIo 44 (k : Int) k S1.length i1))
   refine m_f1 ?_
   refine Ms k 3 (⟨(S1.getD k default).client, (S1.getD k default).id, (S1.getD k default).acked, n + 1, (S1.getD k default).replies⟩ : CSession) ?_ (by omega)
   intro L3 hL3 hlL3
   have hgL3 : L3.getD k default = (⟨(S1.getD k default).client, (S1.getD k default).id, (S1.getD k default).acked, n + 1, (S1.getD k default).replies⟩ : CSession) := by rw [hL3]; exact getD_set (by omega)
   have hbL3 : L3 = List.set S1 k (⟨(S1.getD k default).client, (S1.getD k default).id, (S1.getD k default).acked, n + 1, (S1.getD k default).replies⟩ : CSession) := by rw [hL3]
   refine Mda 10 [] [0] [rowA 118 A1 c1 (L3 : List CSession), ownL (keptR 141) S1] Tryz_mixed ?_
   refine Mih ?_ (pc (pIo 49 (k : Int) k S1.length i0) (pFk 51 k 1 1 hgL3 i0))
   refine Mz ?_
   refine Mt [.slice A1 S1.length c1, .agg #[vi 7, vi (S1.getD k default).id, ve], vi 0] fun bs w hS => ?_
   have hm1 : mSess (S1.map CSession.abs) n = 0 := by rw [hF1]; assumption
   rw [← hF1]
   have hvx := setS_map hbL3
   have hm : mJoin (S1.map CSession.abs) n t = ((S1.map CSession.abs).set k { (S1.getD k default).abs with last := n + 1 }, ⟨7, (S1.getD k default).id, emp⟩, 0) := by
     unfold mJoin sIdx
     simp only [hJ, Int.toNat_natCast, sgetD, List.length_map]
     repeat (first | rw [if_pos (by first | assumption | omega)] | rw [if_neg (by first | assumption | omega | (intro h0; first | exact absurd h0 (by assumption) | (simp_all; done)))])
     all_goals rfl
   refine ⟨⟨A1, c1, L3⟩, ?_, ?_, hS.outS (y := (⟨A1, c1, L3⟩ : Sl CSession)) (out_sessG i0 hS.res (fun x hx => ?_))⟩
   · have hll : S1.length = L3.length := by rw [hbL3, List.length_set]
     rw [hm]
     exact congrArg (fun q => Ending.returned (.tuple #[.slice A1 q c1, .agg #[vi 7, vi (S1.getD k default).id, ve], vi 0])) hll
   · exact Eq.trans hvx (congrArg Prod.fst hm).symm
   · rw [hbL3] at hx
     rcases mem_set hx with hx | hx
     · subst hx; exact own_in (x := S1.getD k default) i1 hS.res hnm1 (mem_of_getD (L := S1) (i := k) (by omega))
     · exact own_in i1 hS.res hnm1 hx
 have h0J := of_decide_eq_false (hbs.1.symm.trans h5)
 refine Md ((S1.length : Int) = 4) (fun h6 => ?_) fun h6 => ?_
 · refine Mt [.slice A1 S1.length c1, vz 8, vi 0] fun bs w hS => ?_
   have hm1 : mSess (S1.map CSession.abs) n = 0 := by rw [hF1]; assumption
   rw [← hF1]
   have hm : mJoin (S1.map CSession.abs) n t = (S1.map CSession.abs, ⟨8, 0, emp⟩, 0) := by
     grind [mJoin, sIdx]
   refine ⟨⟨A1, c1, S1⟩, ?_, ?_, hS.outS (y := (⟨A1, c1, S1⟩ : Sl CSession)) (out_sessG i1 hS.res (fun x hx => ?_))⟩
   · rw [hm] <;> rfl
   · exact Eq.trans rfl (congrArg Prod.fst hm).symm
   · exact own_in i0 hS.res hnm1 hx
 refine Mi ?_ (pc (pR (n + 1)) (pR (n + 1)))
 refine M1 ?_
 refine m_f1 ?_
 refine Mtu ?_ Tryz.call77 (fun bs w hS => (insR_Session A1 c1 S1 k _ (⟨t, n + 1, 0, n + 1, Sl.nil⟩ : CSession) (bs.getD 1 0) 118 w (hS.res _ i0) hS.head1.2.2 rfl (by first | omega | (simp only [Sl.n] at *; omega)) (by first | omega | (simp only [Sl.n] at *; omega)) (hS.loc 1 ⟨118, [vI t, vI (n + 1), vI 0, vI (n + 1), .v vn]⟩ (by kernel_rfl) (by simp)) (hS.ne_head (i := 1) (b := ⟨118, [vI t, vI (n + 1), vI 0, vI (n + 1), .v vn]⟩) (by kernel_rfl))).mono (fun e w' ⟨y, h1, h2⟩ => ⟨y, h1, trivial, h2⟩))
 rintro q4 _
 refine Mi ?_ (pR (n + 1))
 refine Mt [.slice q4.1 (S1.take k ++ [(⟨t, n + 1, 0, n + 1, Sl.nil⟩ : CSession)] ++ S1.drop k).length q4.2, .agg #[vi 0, vi (n + 1), ve], vi 0] fun bs w hS => ?_
 have hm1 : mSess (S1.map CSession.abs) n = 0 := by rw [hF1]; assumption
 rw [← hF1]
 have hvy : S1.take k ++ [(⟨t, n + 1, 0, n + 1, Sl.nil⟩ : CSession)] ++ S1.drop k = mIns (fun x : CSession => decide (t < x.client)) (⟨t, n + 1, 0, n + 1, Sl.nil⟩ : CSession) S1 := (ins_at ((ins_sess (index := n) hm1 (by omega) (by rw [hJ]; omega)).trans hk))
 have hvx := insS_map hvy
 have hm : mJoin (S1.map CSession.abs) n t = (mIns (fun x : DSession => decide (t < x.client)) ⟨t, n + 1, 0, n + 1, []⟩ (S1.map CSession.abs), ⟨0, n + 1, emp⟩, 0) := by
   grind [mJoin, sIdx]
 refine ⟨⟨q4.1, q4.2, S1.take k ++ [(⟨t, n + 1, 0, n + 1, Sl.nil⟩ : CSession)] ++ S1.drop k⟩, ?_, ?_, hS.outS (y := (⟨q4.1, q4.2, S1.take k ++ [(⟨t, n + 1, 0, n + 1, Sl.nil⟩ : CSession)] ++ S1.drop k⟩ : Sl CSession)) (out_sessG i0 hS.res (fun x hx => ?_))⟩
 · rw [hm] <;> rfl
 · exact Eq.trans hvx (congrArg Prod.fst hm).symm
 · rw [hvy] at hx
   rcases ins_mem hx with hx | hx
   · subst hx; exact Sl.rd_nil _ _
   · exact own_in i1 hS.res hnm1 hx

theorem ref_JoinedOf {B : Nat → Prop} (s : Sl CSession) (n t : Int) (w : World) (hs : s.rd B w) (ht : inR t) : Calls Tryz.prog 34 #[s.val, vi n, vi t] w fun e w' => ∃ y : Sl CSession, e = .returned (.tuple #[y.val, ((mJoin (s.xs.map CSession.abs) n t).2.1).val, vi (mJoin (s.xs.map CSession.abs) n t).2.2]) ∧ y.xs.map CSession.abs = (mJoin (s.xs.map CSession.abs) n t).1 ∧ FreshS w w' y := by
 have oks := Sl.rd.ok hs
 have ncs := Sl.ok.nc oks
 have hns : s.n = s.xs.length := rfl
 have hml : (s.xs.map CSession.abs).length = s.n := by simp
 refine M0 ?_ Tryz.func34
 refine Mp ?_ Tryz.call92 (fun bs w hS => ref_SessionsFault s n w (Sl.rd.kp hs hS.kp))
 refine Md (mSess (s.xs.map CSession.abs) n = 0) (fun h1 => ?_) fun h1 => ?_
 rotate_left
 · refine My false true ?_ (df h1)
   refine Mt [vn, vz 0, vi (mSess (s.xs.map CSession.abs) n)] fun bs w hS => ?_
   have hm : mJoin (s.xs.map CSession.abs) n t = ([], zRep, mSess (s.xs.map CSession.abs) n) := by
     grind [mJoin, sIdx]
   refine ⟨Sl.nil, ?_, ?_, hS.outS (Sl.rd_nil _ _)⟩
   · rw [hm] <;> rfl
   · rw [hm] <;> rfl
 obtain ⟨hi0, hi1, hln, hall⟩ := mSess_bd h1
 have hln2 : s.xs.length ≤ 4 := by simpa using hln
 refine Mp ?_ Tryz.call51 (fun bs w hS => ref_In t 1 9 w)
 refine Mbn (inB t 1 9) (fun h2 => ?_) fun h2 => ?_
 rotate_left
 · simp only [iT, iF] at h2
   refine Mq 31 true ?_ rfl
   refine Mt [vn, vz 0, vi 2] fun bs w hS => ?_
   have hm : mJoin (s.xs.map CSession.abs) n t = ([], zRep, 2) := by
     grind [mJoin, sIdx]
   refine ⟨Sl.nil, ?_, ?_, hS.outS (Sl.rd_nil _ _)⟩
   · rw [hm] <;> rfl
   · rw [hm] <;> rfl
 simp only [iT, iF] at h2
 refine Md ((1073741824 : Int) ≤ n) (fun h3 => ?_) fun h3 => ?_
 · refine Mq 31 true ?_ rfl
   refine Mt [vn, vz 0, vi 2] fun bs w hS => ?_
   have hm : mJoin (s.xs.map CSession.abs) n t = ([], zRep, 2) := by
     grind [mJoin, sIdx]
   refine ⟨Sl.nil, ?_, ?_, hS.outS (Sl.rd_nil _ _)⟩
   · rw [hm] <;> rfl
   · rw [hm] <;> rfl
 refine My true true ?_ (dt h1)
 refine Mf ?_ Tryz.call19 (fun bs w hS => ref_SessionsCopy s w (Sl.rd.kp hs hS.kp) (small_sess (by assumption)))
 rintro y1 hF1
 refine m_split2 ?_
 obtain ⟨A1, c1, S1⟩ := y1
 have hF1 : S1.map CSession.abs = s.xs.map CSession.abs := hF1
 refine m_perm (R' := [ownL (keptR 141) S1, rowA 118 A1 c1 (S1 : List CSession)]) (List.Perm.refl _) ?_
 have hnm1 := sess_texts (y := (⟨A1, c1, S1⟩ : Sl CSession)) (hs) hF1
 have hlen1 : S1.length = s.xs.length := by simpa using congrArg List.length hF1
 refine m_know (F := ∀ i, i < S1.length → Rds.ok (S1.getD i default)) (fun bs w hS i hi => Rds.okof (B := anyB) (w := w) (own_elt (hS.res _ i0) hnm1 (mem_of_getD hi))) fun okown1 => ?_
 refine m_know (F := RowOk A1 c1 (S1 : List CSession)) (fun bs w hS => rowA_rok (hS.res _ i1)) fun hrow1 => ?_
 have nchrow1 := hrow1.2
 have hml1 : (S1.map CSession.abs).length = S1.length := by simp
 refine Mp ?_ Tryz.call98 (fun bs w hS => tackroomref_sessionAt (⟨A1, c1, S1⟩ : Sl CSession) t w (own_sess (hS.res _ i0) (hS.res _ i1) hnm1))
 have hJe : mIdx (fun x : CSession => decide (x.client = t)) S1 = mIdx (fun x : DSession => decide (x.client = t)) (S1.map CSession.abs) := mIdx_map CSession.abs (fun x : DSession => decide (x.client = t)) S1
 rw [hJe]
 have hJb := mIdx_bd (fun x : DSession => decide (x.client = t)) (S1.map CSession.abs)
 generalize hJ : mIdx (fun x : DSession => decide (x.client = t)) (S1.map CSession.abs) = J at hJb ⊢
 rw [List.length_map] at hJb
 refine Md ((0 : Int) ≤ J) (fun h5 => ?_) fun h5 => ?_
 · have h0J : 0 ≤ J := by omega
   refine Mi ?_ (pc (pR (n + 1)) (pIo 45 J J.toNat S1.length i1))
   refine m_f1 ?_
   refine Ms J.toNat 3 (⟨(S1.getD J.toNat default).client, (S1.getD J.toNat default).id, (S1.getD J.toNat default).acked, n + 1, (S1.getD J.toNat default).replies⟩ : CSession) ?_ (by omega)
   intro L3 hL3 hlL3
   have hgL3 : L3.getD J.toNat default = (⟨(S1.getD J.toNat default).client, (S1.getD J.toNat default).id, (S1.getD J.toNat default).acked, n + 1, (S1.getD J.toNat default).replies⟩ : CSession) := by rw [hL3]; exact getD_set (by omega)
   have hbL3 : L3 = List.set S1 J.toNat (⟨(S1.getD J.toNat default).client, (S1.getD J.toNat default).id, (S1.getD J.toNat default).acked, n + 1, (S1.getD J.toNat default).replies⟩ : CSession) := by rw [hL3]
   refine Mda 10 [] [0] [rowA 118 A1 c1 (L3 : List CSession), ownL (keptR 141) S1] Tryz_mixed ?_
   refine Mih ?_ (pc (pIo 50 J J.toNat S1.length i0) (pFk 52 J.toNat 1 1 hgL3 i0))
   refine Mz ?_
   refine Mt [.slice A1 S1.length c1, .agg #[vi 7, vi (S1.getD J.toNat default).id, ve], vi 0] fun bs w hS => ?_
   have hm1 : mSess (S1.map CSession.abs) n = 0 := by rw [hF1]; assumption
   rw [← hF1]
   have hvx := setS_map hbL3
   have hm : mJoin (S1.map CSession.abs) n t = ((S1.map CSession.abs).set J.toNat { (S1.getD J.toNat default).abs with last := n + 1 }, ⟨7, (S1.getD J.toNat default).id, emp⟩, 0) := by
     unfold mJoin sIdx
     simp only [hJ, sgetD, List.length_map]
     repeat (first | rw [if_pos (by first | assumption | omega)] | rw [if_neg (by first | assumption | omega | (intro h0; first | exact absurd h0 (by assumption) | (simp_all; done)))])
     all_goals rfl
   refine ⟨⟨A1, c1, L3⟩, ?_, ?_, hS.outS (y := (⟨A1, c1, L3⟩ : Sl CSession)) (out_sessG i0 hS.res (fun x hx => ?_))⟩
   · have hll : S1.length = L3.length := by rw [hbL3, List.length_set]
     rw [hm]
     exact congrArg (fun q => Ending.returned (.tuple #[.slice A1 q c1, .agg #[vi 7, vi (S1.getD J.toNat default).id, ve], vi 0])) hll
   · exact Eq.trans hvx (congrArg Prod.fst hm).symm
   · rw [hbL3] at hx
     rcases mem_set hx with hx | hx
     · subst hx; exact own_in (x := S1.getD J.toNat default) i1 hS.res hnm1 (mem_of_getD (L := S1) (i := J.toNat) (by omega))
     · exact own_in i1 hS.res hnm1 hx
 have h0J : ¬ 0 ≤ J := by omega
 refine Md ((4 : Int) ≤ (S1.length : Int)) (fun h6 => ?_) fun h6 => ?_
 · refine Mt [.slice A1 S1.length c1, vz 8, vi 0] fun bs w hS => ?_
   have hm1 : mSess (S1.map CSession.abs) n = 0 := by rw [hF1]; assumption
   rw [← hF1]
   have hm : mJoin (S1.map CSession.abs) n t = (S1.map CSession.abs, ⟨8, 0, emp⟩, 0) := by
     grind [mJoin, sIdx]
   refine ⟨⟨A1, c1, S1⟩, ?_, ?_, hS.outS (y := (⟨A1, c1, S1⟩ : Sl CSession)) (out_sessG i1 hS.res (fun x hx => ?_))⟩
   · rw [hm] <;> rfl
   · exact Eq.trans rfl (congrArg Prod.fst hm).symm
   · exact own_in i0 hS.res hnm1 hx
 refine Mi ?_ (pc (pR (n + 1)) (pR (n + 1)))
 refine m_rowA (α := CSession) 118 ?_
 refine Ml (σ := Nat × Bool × Option Addr × Nat × List CSession) (fun ⟨k, b, A, c, L⟩ => InsI (fun x : CSession => decide (t < x.client)) (⟨t, n + 1, 0, n + 1, Sl.nil⟩ : CSession) S1 k b L) (fun ⟨k, b, A, c, L⟩ => S1.length - k) (fun ⟨k, b, A, c, L⟩ => [rowA 118 A c (L : List CSession), ownL (keptR 141) S1, rowA 118 A1 c1 (S1 : List CSession)]) [15, 14, 13, 12, 10, 7, 1, 2] (fun ⟨k, b, A, c, L⟩ => [(15, vI (k : Int)), (14, vB b), (13, .v (.slice A L.length c))]) (fun _ => []) ?_ (⟨0, false, none, 0, []⟩) (show InsI (fun x : CSession => decide (t < x.client)) (⟨t, n + 1, 0, n + 1, Sl.nil⟩ : CSession) S1 0 false [] from InsI.start _ _ _)
 rintro ⟨k, b, A, c, L⟩ hI _ on1
 have hIl := hI.len
 have hIk := hI.le
 refine Md ((k : Int) < (S1.length : Int)) (fun h7 => ?_) fun h7 => ?_
 rotate_left
 · refine Mbn b (fun h10 => ?_) fun h10 => ?_
   · refine Mi ?_ (pR (n + 1))
     refine Mt [.slice A L.length c, .agg #[vi 0, vi (n + 1), ve], vi 0] fun bs w hS => ?_
     clear on1
     have hm1 : mSess (S1.map CSession.abs) n = 0 := by rw [hF1]; assumption
     rw [← hF1]
     have hvy : L = mIns (fun x : CSession => decide (t < x.client)) (⟨t, n + 1, 0, n + 1, Sl.nil⟩ : CSession) S1 := (hI.fin1 (by assumption) (by omega))
     have hvx := insS_map hvy
     have hm : mJoin (S1.map CSession.abs) n t = (mIns (fun x : DSession => decide (t < x.client)) ⟨t, n + 1, 0, n + 1, []⟩ (S1.map CSession.abs), ⟨0, n + 1, emp⟩, 0) := by
       grind [mJoin, sIdx]
     refine ⟨⟨A, c, L⟩, ?_, ?_, hS.outS (y := (⟨A, c, L⟩ : Sl CSession)) (out_sessG i0 hS.res (fun x hx => ?_))⟩
     · rw [hm] <;> rfl
     · exact Eq.trans hvx (congrArg Prod.fst hm).symm
     · rw [hvy] at hx
       rcases ins_mem hx with hx | hx
       · subst hx; exact Sl.rd_nil _ _
       · exact own_in i1 hS.res hnm1 hx
   refine M1 ?_
   refine Mal (α := CSession) 56 ([(⟨t, n + 1, 0, n + 1, Sl.nil⟩ : CSession)]) ?_
   intro A8 c8
   refine Mi ?_ (pR (n + 1))
   refine Mt [.slice A8 (L ++ [(⟨t, n + 1, 0, n + 1, Sl.nil⟩ : CSession)]).length c8, .agg #[vi 0, vi (n + 1), ve], vi 0] fun bs w hS => ?_
   clear on1
   have hm1 : mSess (S1.map CSession.abs) n = 0 := by rw [hF1]; assumption
   rw [← hF1]
   have hvy : L ++ [(⟨t, n + 1, 0, n + 1, Sl.nil⟩ : CSession)] = mIns (fun x : CSession => decide (t < x.client)) (⟨t, n + 1, 0, n + 1, Sl.nil⟩ : CSession) S1 := (hI.fin0 (by assumption) (by omega))
   have hvx := insS_map hvy
   have hm : mJoin (S1.map CSession.abs) n t = (mIns (fun x : DSession => decide (t < x.client)) ⟨t, n + 1, 0, n + 1, []⟩ (S1.map CSession.abs), ⟨0, n + 1, emp⟩, 0) := by
     grind [mJoin, sIdx]
   refine ⟨⟨A8, c8, L ++ [(⟨t, n + 1, 0, n + 1, Sl.nil⟩ : CSession)]⟩, ?_, ?_, hS.outS (y := (⟨A8, c8, L ++ [(⟨t, n + 1, 0, n + 1, Sl.nil⟩ : CSession)]⟩ : Sl CSession)) (out_sessG i0 hS.res (fun x hx => ?_))⟩
   · rw [hm] <;> rfl
   · exact Eq.trans hvx (congrArg Prod.fst hm).symm
   · rw [hvy] at hx
     rcases ins_mem hx with hx | hx
     · subst hx; exact Sl.rd_nil _ _
     · exact own_in i1 hS.res hnm1 hx
 refine Mbx b true [(14, false)] (fun h8 => ?_) fun h8 => ?_
 · refine Mi ?_ (pc (pIo 89 (k : Int) k S1.length i2) (pEo 90 k i2))
   refine M1 ?_
   refine Mal (α := CSession) 56 ([(⟨(S1.getD k default).client, (S1.getD k default).id, (S1.getD k default).acked, (S1.getD k default).last, (S1.getD k default).replies⟩ : CSession)]) ?_
   intro A4 c4
   refine Mi ?_ (pR ((k : Int) + 1))
   exact on1 ⟨k + 1, true, A4, c4, L ++ [(⟨(S1.getD k default).client, (S1.getD k default).id, (S1.getD k default).acked, (S1.getD k default).last, (S1.getD k default).replies⟩ : CSession)]⟩ (by first | exact hI.more (by assumption) (by omega) | exact hI.hit (by assumption) (by omega) (decide_eq_true (by assumption)) | exact hI.skip (by assumption) (by omega) (decide_eq_false (by assumption))) (by show S1.length - (k + 1) < S1.length - k; omega)
 refine Mi ?_ (pc (pIo 76 (k : Int) k S1.length i2) (pFo 78 k 0 1 i2))
 refine Md (t < (S1.getD k default).client) (fun h9 => ?_) fun h9 => ?_
 rotate_left
 · refine Mi ?_ (pc (pIo 89 (k : Int) k S1.length i2) (pEo 90 k i2))
   refine M1 ?_
   refine Mal (α := CSession) 56 ([(⟨(S1.getD k default).client, (S1.getD k default).id, (S1.getD k default).acked, (S1.getD k default).last, (S1.getD k default).replies⟩ : CSession)]) ?_
   intro A7 c7
   refine Mi ?_ (pR ((k : Int) + 1))
   exact on1 ⟨k + 1, false, A7, c7, L ++ [(⟨(S1.getD k default).client, (S1.getD k default).id, (S1.getD k default).acked, (S1.getD k default).last, (S1.getD k default).replies⟩ : CSession)]⟩ (by first | exact hI.more (by assumption) (by omega) | exact hI.hit (by assumption) (by omega) (decide_eq_true (by assumption)) | exact hI.skip (by assumption) (by omega) (decide_eq_false (by assumption))) (by show S1.length - (k + 1) < S1.length - k; omega)
 refine M1 ?_
 refine Mal (α := CSession) 56 ([(⟨t, n + 1, 0, n + 1, Sl.nil⟩ : CSession)]) ?_
 intro A5 c5
 refine Mi ?_ (pc (pIo 89 (k : Int) k S1.length i2) (pEo 90 k i2))
 refine M1 ?_
 refine Mal (α := CSession) 56 ([(⟨(S1.getD k default).client, (S1.getD k default).id, (S1.getD k default).acked, (S1.getD k default).last, (S1.getD k default).replies⟩ : CSession)]) ?_
 intro A6 c6
 refine Mi ?_ (pR ((k : Int) + 1))
 exact on1 ⟨k + 1, true, A6, c6, L ++ [(⟨t, n + 1, 0, n + 1, Sl.nil⟩ : CSession)] ++ [(⟨(S1.getD k default).client, (S1.getD k default).id, (S1.getD k default).acked, (S1.getD k default).last, (S1.getD k default).replies⟩ : CSession)]⟩ (by first | exact hI.more (by assumption) (by omega) | exact hI.hit (by assumption) (by omega) (decide_eq_true (by assumption)) | exact hI.skip (by assumption) (by omega) (decide_eq_false (by assumption))) (by show S1.length - (k + 1) < S1.length - k; omega)

theorem session_Keep_1 (x : DKept) (t : Int) (w : World) : Calls Tryz.prog 89 #[x.val, vi t] w fun e w' => e = .returned (vi (IntKind.i64.wrap (x.seq - t))) ∧ Kp [] w w' := by
 refine M0 ?_ Tryz.func89
 refine Mi ?_ (pG [(8, .val (vi (IntKind.i64.wrap (x.seq - t))))] (oc (sub_wrap : ∀ w, (do eqGuard .sub 3 (.tmp 6) (.tmp 7) (vi x.seq) (vi t); binOp .sub 3 (vi x.seq) (vi t) : Sem Value).run Tryz.prog w = .ok (vi (IntKind.i64.wrap (x.seq - t))) w) on))
 exact Mt [vi (IntKind.i64.wrap (x.seq - t))] fun bs w hS => ⟨rfl, hS.kp⟩

theorem bs_session_Keep_1 {B : Nat → Prop} (s : Sl DKept) (t : Int) (w : World) (hs : s.rd B w) (hn : s.n ≤ 1048576) : Calls Tryz.prog 88 #[s.val, vi t, .func (.func 89) #[] #[]] w fun e w' => e = .returned (.tuple #[vi (mBS (fun x : DKept => IntKind.i64.wrap (x.seq - t)) s.xs : Nat), vb (mBSf (fun x : DKept => IntKind.i64.wrap (x.seq - t)) s.xs)]) ∧ Kp [] w w' := by
 have oks := Sl.rd.ok hs
 have ncs := Sl.ok.nc oks
 have hns : s.n = s.xs.length := rfl
 refine Mj ?_ Tryz.func88 (WS.start w)
 refine Ml (σ := Nat × Nat × Nat) (fun ⟨i, j, f⟩ => i ≤ j ∧ j ≤ s.n ∧ j - i ≤ f ∧ mBS (fun x : DKept => IntKind.i64.wrap (x.seq - t)) s.xs = bsGo (fun j => decide (IntKind.i64.wrap ((s.at j).seq - t) < 0)) f i j) (fun ⟨i, j, f⟩ => f) (fun _ => []) [10, 9, 8, 0, 1, 2] (fun ⟨i, j, f⟩ => [(10, vI (j : Int)), (9, vI (i : Int))]) (fun _ => []) ?_ (⟨0, s.n, s.n⟩) ⟨Nat.zero_le _, Nat.le_refl _, Nat.le_refl _, rfl⟩
 rintro ⟨i, j, f⟩ ⟨h1, h2, h3, hI⟩ _ on1
 have hdiv : ((i : Int) + (j : Int)) / 2 = (((i + j) / 2 : Nat) : Int) := by omega
 refine Md ((i : Int) < (j : Int)) (fun h1 => ?_) fun h1 => ?_
 rotate_left
 · refine Md ((i : Int) < (s.n : Int)) (fun h3 => ?_) fun h3 => ?_
   rotate_left
   · refine Mt [vi (i : Int), vb false] fun bs w hS => ?_
     have hij : i = j := by omega
     subst hij
     have hr : mBS (fun x : DKept => IntKind.i64.wrap (x.seq - t)) s.xs = i := by rw [hI]; exact bsGo_end _ _ _ _ (Nat.le_refl _)
     refine ⟨?_, hS.kp⟩
     have hr2 : mBSf (fun x : DKept => IntKind.i64.wrap (x.seq - t)) s.xs = false := by
       unfold mBSf; rw [hr]
       rw [decide_eq_false (show ¬ i < s.xs.length by omega)]; rfl
     rw [hr, hr2]
     rfl
   refine Mi ?_ (pA 43 44 (i : Int) i (rdk hs))
   refine Mp ?_ Tryz.call89 (fun bs w hS => session_Keep_1 (s.at i) t w)
   refine Mt [vi (i : Int), vb (decide (IntKind.i64.wrap ((s.at i).seq - t) = 0))] fun bs w hS => ?_
   have hij : i = j := by omega
   subst hij
   have hr : mBS (fun x : DKept => IntKind.i64.wrap (x.seq - t)) s.xs = i := by rw [hI]; exact bsGo_end _ _ _ _ (Nat.le_refl _)
   refine ⟨?_, hS.kp⟩
   have hr2 : mBSf (fun x : DKept => IntKind.i64.wrap (x.seq - t)) s.xs = (decide (IntKind.i64.wrap ((s.at i).seq - t) = 0)) := by
     unfold mBSf; rw [hr]
     rw [decide_eq_true (show i < s.xs.length by omega)]; rfl
   rw [hr, hr2]
   rfl
 refine Mi ?_ (pc (pR ((i : Int) + (j : Int))) (pc (pG [(21, .val (.int .u64 ((i : Int) + (j : Int))))] (oc ((conv_i64_u64 Tryz.underlying3 Tryz.underlying203 (by omega) (by omega)) : ∀ w, (convert 3 203 (vi ((i : Int) + (j : Int))) : Sem Value).run Tryz.prog w = .ok (.int .u64 ((i : Int) + (j : Int))) w) on)) (pc (pG [(22, .val (.int .u64 (((i : Int) + (j : Int)) / 2)))] (oc (shr_u64 : ∀ w, (do eqGuard .shr 203 (.tmp 21) (.const (.int .u64 1)) (.int .u64 ((i : Int) + (j : Int))) (.int .u64 1); binOp .shr 203 (.int .u64 ((i : Int) + (j : Int))) (.int .u64 1) : Sem Value).run Tryz.prog w = .ok (.int .u64 (((i : Int) + (j : Int)) / 2)) w) on)) (pc (pG [(23, .val (vi (((i : Int) + (j : Int)) / 2)))] (oc ((conv_u64_i64 Tryz.underlying203 Tryz.underlying3 (by omega) (by omega)) : ∀ w, (convert 203 3 (.int .u64 (((i : Int) + (j : Int)) / 2)) : Sem Value).run Tryz.prog w = .ok (vi (((i : Int) + (j : Int)) / 2)) w) on)) (pA 27 28 (((i : Int) + (j : Int)) / 2) (((i : Int) + (j : Int)) / 2).toNat (rdk hs))))))
 refine Mp ?_ Tryz.call89 (fun bs w hS => session_Keep_1 (s.at (((i : Int) + (j : Int)) / 2).toNat) t w)
 refine Md (IntKind.i64.wrap ((s.at (((i : Int) + (j : Int)) / 2).toNat).seq - t) < 0) (fun h2 => ?_) fun h2 => ?_
 rotate_left
 · have hf1 : f = (f - 1) + 1 := by omega
   rw [hf1] at hI
   have hI2 := hI.trans (bsGo_down (by omega) (decide_eq_false (by assumption)))
   exact on1 ⟨i, (i + j) / 2, f - 1⟩ ⟨by omega, by omega, by omega, hI2⟩ (by show f - 1 < f; omega)
 refine Mi ?_ (pR ((((i : Int) + (j : Int)) / 2) + 1))
 have hf1 : f = (f - 1) + 1 := by omega
 rw [hf1] at hI
 have hI2 := hI.trans (bsGo_up (by omega) (decide_eq_true (by assumption)))
 exact on1 ⟨(i + j) / 2 + 1, j, f - 1⟩ ⟨by omega, by omega, by omega, hI2⟩ (by show f - 1 < f; omega)

theorem session_Keep {B : Nat → Prop} (s : Sl CSession) (n t q : Int) (r : DReply) (w : World) (hs : s.rd B w) (ht : inR t) (hq : inR q) (hr : r.text.size ≤ 9223372036854775807) : Calls Tryz.prog 29 #[s.val, vi n, vi t, vi q, r.val] w fun e w' => ∃ y : Sl CSession, e = .returned (.tuple #[y.val, vi (mKeep (s.xs.map CSession.abs) n t q r).2]) ∧ y.xs.map CSession.abs = (mKeep (s.xs.map CSession.abs) n t q r).1 ∧ FreshS w w' y := by
 have oks := Sl.rd.ok hs
 have ncs := Sl.ok.nc oks
 have hns : s.n = s.xs.length := rfl
 have hml : (s.xs.map CSession.abs).length = s.n := by simp
 refine M0 ?_ Tryz.func29
 refine Mp ?_ Tryz.call63 (fun bs w hS => session_Check s n w (Sl.rd.kp hs hS.kp))
 refine Mdn (mSess (s.xs.map CSession.abs) n = 0) (fun h1 => ?_) fun h1 => ?_
 rotate_left
 · have hm : mKeep (s.xs.map CSession.abs) n t q r = ([], mSess (s.xs.map CSession.abs) n) := by
     grind [mKeep, sIdx]
   exact Me2 hm Sl.nil rfl fun bs w hS => hS.outS (Sl.rd_nil _ _)
 obtain ⟨hi0, hi1, hln, hall⟩ := mSess_bd h1
 have hln2 : s.xs.length ≤ 4 := by simpa using hln
 refine Mf ?_ Tryz.call70 (fun bs w hS => session_Copy s w (Sl.rd.kp hs hS.kp) (small_sess (by assumption)))
 rintro y1 hF1
 refine m_split2 ?_
 obtain ⟨A1, c1, S1⟩ := y1
 have hF1 : S1.map CSession.abs = s.xs.map CSession.abs := hF1
 refine m_perm (R' := [ownL (keptR 141) S1, rowA 118 A1 c1 (S1 : List CSession)]) (List.Perm.refl _) ?_
 have hnm1 := sess_texts (y := (⟨A1, c1, S1⟩ : Sl CSession)) (hs) hF1
 have hlen1 : S1.length = s.xs.length := by simpa using congrArg List.length hF1
 refine m_know (F := ∀ i, i < S1.length → Rds.ok (S1.getD i default)) (fun bs w hS i hi => Rds.okof (B := anyB) (w := w) (own_elt (hS.res _ i0) hnm1 (mem_of_getD hi))) fun okown1 => ?_
 refine m_know (F := RowOk A1 c1 (S1 : List CSession)) (fun bs w hS => rowA_rok (hS.res _ i1)) fun hrow1 => ?_
 have nchrow1 := hrow1.2
 have hml1 : (S1.map CSession.abs).length = S1.length := by simp
 have hm1 : mSess (S1.map CSession.abs) n = 0 := by rw [hF1]; assumption
 refine Mp ?_ Tryz.call76 (fun bs w hS => session_find (⟨A1, c1, S1⟩ : Sl CSession) t w (own_sess (hS.res _ i0) (hS.res _ i1) hnm1) (show S1.length ≤ 1048576 by omega))
 have hbs := bsf_sess (L := S1) (index := n) (t := t) (by rw [hF1]; assumption) ht
 have hJb := mIdx_bd (fun x : DSession => decide (x.client = t)) (S1.map CSession.abs)
 generalize hJ : mIdx (fun x : DSession => decide (x.client = t)) (S1.map CSession.abs) = J at hbs hJb
 have hkl := mBS_le (fun x : CSession => IntKind.i64.wrap (x.client - t)) S1
 generalize hk : mBS (fun x : CSession => IntKind.i64.wrap (x.client - t)) S1 = k at hbs hkl ⊢
 generalize hf : mBSf (fun x : CSession => IntKind.i64.wrap (x.client - t)) S1 = fb at hbs ⊢
 refine Mbn fb (fun h2 => ?_) fun h2 => ?_
 rotate_left
 · have h0J := of_decide_eq_false (hbs.1.symm.trans h2)
   rw [← hF1]
   have hm : mKeep (S1.map CSession.abs) n t q r = ([], 11) := by
     grind [mKeep, sIdx]
   exact Me2 hm Sl.nil rfl fun bs w hS => hS.outS (Sl.rd_nil _ _)
 have hkJ := hbs.2 h2
 subst hkJ
 have hk5 := sess_all hm1 (k := k) (by omega)
 have hk6 : (S1.getD k default).replies.xs.length ≤ 4 := mReplies_len hk5.2.2.2.2
 have hk7 : (S1.getD k default).replies.n = (S1.getD k default).replies.xs.length := rfl
 refine Mi ?_ (pc (pIo 36 (k : Int) k S1.length i1) (pFo 41 k 4 1 i1))
 refine Mp ?_ Tryz.call88 (fun bs w hS => bs_session_Keep_1 (S1.getD k default).replies q w (own_elt (hS.res _ i0) hnm1 (mem_of_getD (i := k) (by omega))) (by show (Sl.xs _).length ≤ 1048576; omega))
 have hbk : mBSf (fun x : DKept => IntKind.i64.wrap (x.seq - q)) (S1.getD k default).replies.xs = decide (0 ≤ kIdx (S1.getD k default).replies.xs q) := bsf_kept (d := (S1.getD k default).abs) hk5.2.2.2.2 ⟨hk5.2.2.1, hk5.2.2.2.1⟩ hq
 rw [hbk]
 have hjl := mBS_le (fun x : DKept => IntKind.i64.wrap (x.seq - q)) (S1.getD k default).replies.xs
 generalize hj : mBS (fun x : DKept => IntKind.i64.wrap (x.seq - q)) (S1.getD k default).replies.xs = j at hjl ⊢
 refine Md (0 ≤ kIdx (S1.getD k default).replies.xs q) (fun h3 => ?_) fun h3 => ?_
 · refine Mt [vn, vi 7] fun bs w hS => ?_
   rw [← hF1]
   have hm : mKeep (S1.map CSession.abs) n t q r = ([], 7) := by
     unfold mKeep sIdx
     simp only [hJ, Int.toNat_natCast, sgetD, List.length_map]
     repeat (first | rw [if_pos (by first | assumption | omega)] | rw [if_neg (by first | assumption | omega | (intro h0; first | exact absurd h0 (by assumption) | (simp_all; done)))])
     all_goals rfl
   refine ⟨Sl.nil, ?_, ?_, hS.outS (Sl.rd_nil _ _)⟩
   · rw [hm] <;> rfl
   · rw [hm] <;> rfl
 have hkn : kIdx (S1.getD k default).replies.xs q < 0 := by omega
 refine m_part2 (rowA 141 (S1.getD k default).replies.A (S1.getD k default).replies.c ((S1.getD k default).replies.xs : List DKept)) (ownL (keptR 141) (List.eraseIdx S1 k)) (ownL_get_fp (keptR 141) (i := k) (by omega)) (fun w h => ownL_get_p (keptR 141) (i := k) (by omega) w h) ?_
 refine Mda 13 [] [] [ownL (keptR 141) (List.eraseIdx S1 k), rowA 118 A1 c1 (S1 : List CSession)] Tryz_mixed ?_ (hR := (.cons _ (List.Sublist.refl _)))
 refine Mih ?_ (pFo 51 k 4 1 i1) (hR := (.cons _ (List.Sublist.refl _)))
 refine M1 ?_ (hR := (.cons _ (List.Sublist.refl _)))
 refine Mtu ?_ Tryz.call90 (fun bs w hS => (insR_Kept (S1.getD k default).replies.A (S1.getD k default).replies.c (S1.getD k default).replies.xs j _ (⟨q, ⟨r.code, r.n, r.text⟩⟩ : DKept) (bs.getD 1 0) 141 w (hS.res _ i0) hS.head1.2.2 rfl (by omega) (by omega) (hS.loc 1 ⟨141, [vI q, vI r.code, vI r.n, vS r.text]⟩ (by kernel_rfl) (by simp)) (hS.ne_head (i := 1) (b := ⟨141, [vI q, vI r.code, vI r.n, vS r.text]⟩) (by kernel_rfl))).mono (fun e w' ⟨y, h1, h2⟩ => ⟨y, h1, trivial, h2⟩))
 rintro q3 _
 refine Mz ?_
 refine m_f2 ?_
 refine Ms k 4 (⟨(S1.getD k default).client, (S1.getD k default).id, (S1.getD k default).acked, (S1.getD k default).last, ⟨q3.1, q3.2, (S1.getD k default).replies.xs.take j ++ [(⟨q, ⟨r.code, r.n, r.text⟩⟩ : DKept)] ++ (S1.getD k default).replies.xs.drop j⟩⟩ : CSession) ?_ (by omega)
 intro L5 hL5 hlL5
 have hgL5 : L5.getD k default = (⟨(S1.getD k default).client, (S1.getD k default).id, (S1.getD k default).acked, (S1.getD k default).last, ⟨q3.1, q3.2, (S1.getD k default).replies.xs.take j ++ [(⟨q, ⟨r.code, r.n, r.text⟩⟩ : DKept)] ++ (S1.getD k default).replies.xs.drop j⟩⟩ : CSession) := by rw [hL5]; exact getD_set (by omega)
 have hbL5 : L5 = List.set S1 k (⟨(S1.getD k default).client, (S1.getD k default).id, (S1.getD k default).acked, (S1.getD k default).last, ⟨q3.1, q3.2, (S1.getD k default).replies.xs.take j ++ [(⟨q, ⟨r.code, r.n, r.text⟩⟩ : DKept)] ++ (S1.getD k default).replies.xs.drop j⟩⟩ : CSession) := by rw [hL5]
 refine Mi ?_ (pEk 62 k hgL5 i0)
 have hszk : ∀ z, z ∈ (S1.getD k default).replies.xs.take j ++ [(⟨q, ⟨r.code, r.n, r.text⟩⟩ : DKept)] ++ (S1.getD k default).replies.xs.drop j → z.reply.text.size ≤ 9223372036854775807 := fun z hz => by simp only [List.mem_append, List.mem_singleton] at hz; rcases hz with (hz | hz) | hz; exact hnm1 _ (mem_of_getD (L := S1) (i := k) (by omega)) z (List.mem_of_mem_take hz); subst hz; exact hr; exact hnm1 _ (mem_of_getD (L := S1) (i := k) (by omega)) z (List.mem_of_mem_drop hz)
 refine Mp ?_ (v := vb (mReplies (⟨(S1.getD k default).client, (S1.getD k default).id, (S1.getD k default).acked, (S1.getD k default).last, (S1.getD k default).replies.xs.take j ++ [(⟨q, ⟨r.code, r.n, r.text⟩⟩ : DKept)] ++ (S1.getD k default).replies.xs.drop j⟩ : DSession))) Tryz.call91 (fun bs w hS => session_replies (⟨(S1.getD k default).client, (S1.getD k default).id, (S1.getD k default).acked, (S1.getD k default).last, ⟨q3.1, q3.2, (S1.getD k default).replies.xs.take j ++ [(⟨q, ⟨r.code, r.n, r.text⟩⟩ : DKept)] ++ (S1.getD k default).replies.xs.drop j⟩⟩ : CSession) w (Rr (B := anyB) (hS.res _ i1) (fun _ _ => trivial) hszk) ⟨hk5.2.2.1, hk5.2.2.2.1⟩)
 have hmk := kept_ins (d := (S1.getD k default).abs) hk5.2.2.2.2 ⟨hk5.2.2.1, hk5.2.2.2.1⟩ r (by show mIdx _ _ < 0; exact hkn) hj
 have hmr : mReplies (⟨(S1.getD k default).client, (S1.getD k default).id, (S1.getD k default).acked, (S1.getD k default).last, (S1.getD k default).replies.xs.take j ++ [(⟨q, ⟨r.code, r.n, r.text⟩⟩ : DKept)] ++ (S1.getD k default).replies.xs.drop j⟩ : DSession) = mReplies (kIns (S1.getD k default).abs q r) := hmk.1
 rw [hmr]
 refine Mbn (mReplies (kIns (S1.getD k default).abs q r)) (fun h4 => ?_) fun h4 => ?_
 rotate_left
 · refine Mt [vn, vi 2] fun bs w hS => ?_
   rw [← hF1]
   have hm : mKeep (S1.map CSession.abs) n t q r = ([], 2) := by
     unfold mKeep sIdx
     simp only [hJ, Int.toNat_natCast, sgetD, List.length_map]
     repeat (first | rw [if_pos (by first | assumption | omega)] | rw [if_neg (by first | assumption | omega | (intro h0; first | exact absurd h0 (by assumption) | (simp_all; done)))])
     all_goals rfl
   refine ⟨Sl.nil, ?_, ?_, hS.outS (Sl.rd_nil _ _)⟩
   · rw [hm] <;> rfl
   · rw [hm] <;> rfl
 refine Mt [.slice A1 S1.length c1, vi 0] fun bs w hS => ?_
 rw [← hF1]
 have hvx := setS_map hbL5
 have hxe : ((⟨(S1.getD k default).client, (S1.getD k default).id, (S1.getD k default).acked, (S1.getD k default).last, ⟨q3.1, q3.2, (S1.getD k default).replies.xs.take j ++ [(⟨q, ⟨r.code, r.n, r.text⟩⟩ : DKept)] ++ (S1.getD k default).replies.xs.drop j⟩⟩ : CSession)).abs = kIns (S1.getD k default).abs q r := by exact congrArg (fun l => (⟨(S1.getD k default).client, (S1.getD k default).id, (S1.getD k default).acked, (S1.getD k default).last, l⟩ : DSession)) (hmk.2 (by assumption))
 rw [hxe] at hvx
 have hm : mKeep (S1.map CSession.abs) n t q r = ((S1.map CSession.abs).set k (kIns (S1.getD k default).abs q r), 0) := by
   unfold mKeep sIdx
   simp only [hJ, Int.toNat_natCast, sgetD, List.length_map]
   repeat (first | rw [if_pos (by first | assumption | omega)] | rw [if_neg (by first | assumption | omega | (intro h0; first | exact absurd h0 (by assumption) | (simp_all; done)))])
   all_goals rfl
 refine ⟨⟨A1, c1, L5⟩, ?_, ?_, hS.outS (y := (⟨A1, c1, L5⟩ : Sl CSession)) (out_sessG i0 hS.res (fun x hx => ?_))⟩
 · have hll : S1.length = L5.length := by rw [hbL5, List.length_set]
   rw [hm]
   exact congrArg (fun q => Ending.returned (.tuple #[.slice A1 q c1, vi 0])) hll
 · exact Eq.trans hvx (congrArg Prod.fst hm).symm
 · rw [hbL5] at hx
   rcases mem_set_ne hx with hx | hx
   · subst hx; exact allR_row i1 (hS.res _ i1) hszk
   · exact own_in i2 hS.res (fun z hz => hnm1 z (List.mem_of_mem_eraseIdx hz)) hx

theorem ref_KeptOf {B : Nat → Prop} (s : Sl CSession) (n t q : Int) (r : DReply) (w : World) (hs : s.rd B w) (ht : inR t) (hq : inR q) (hr : r.text.size ≤ 9223372036854775807) : Calls Tryz.prog 42 #[s.val, vi n, vi t, vi q, r.val] w fun e w' => ∃ y : Sl CSession, e = .returned (.tuple #[y.val, vi (mKeep (s.xs.map CSession.abs) n t q r).2]) ∧ y.xs.map CSession.abs = (mKeep (s.xs.map CSession.abs) n t q r).1 ∧ FreshS w w' y := by
 have oks := Sl.rd.ok hs
 have ncs := Sl.ok.nc oks
 have hns : s.n = s.xs.length := rfl
 have hml : (s.xs.map CSession.abs).length = s.n := by simp
 refine M0 ?_ Tryz.func42
 refine Mp ?_ Tryz.call92 (fun bs w hS => ref_SessionsFault s n w (Sl.rd.kp hs hS.kp))
 refine Mdn (mSess (s.xs.map CSession.abs) n = 0) (fun h1 => ?_) fun h1 => ?_
 rotate_left
 · have hm : mKeep (s.xs.map CSession.abs) n t q r = ([], mSess (s.xs.map CSession.abs) n) := by
     grind [mKeep, sIdx]
   exact Me2 hm Sl.nil rfl fun bs w hS => hS.outS (Sl.rd_nil _ _)
 obtain ⟨hi0, hi1, hln, hall⟩ := mSess_bd h1
 have hln2 : s.xs.length ≤ 4 := by simpa using hln
 refine Mf ?_ Tryz.call19 (fun bs w hS => ref_SessionsCopy s w (Sl.rd.kp hs hS.kp) (small_sess (by assumption)))
 rintro y1 hF1
 refine m_split2 ?_
 obtain ⟨A1, c1, S1⟩ := y1
 have hF1 : S1.map CSession.abs = s.xs.map CSession.abs := hF1
 refine m_perm (R' := [ownL (keptR 141) S1, rowA 118 A1 c1 (S1 : List CSession)]) (List.Perm.refl _) ?_
 have hnm1 := sess_texts (y := (⟨A1, c1, S1⟩ : Sl CSession)) (hs) hF1
 have hlen1 : S1.length = s.xs.length := by simpa using congrArg List.length hF1
 refine m_know (F := ∀ i, i < S1.length → Rds.ok (S1.getD i default)) (fun bs w hS i hi => Rds.okof (B := anyB) (w := w) (own_elt (hS.res _ i0) hnm1 (mem_of_getD hi))) fun okown1 => ?_
 refine m_know (F := RowOk A1 c1 (S1 : List CSession)) (fun bs w hS => rowA_rok (hS.res _ i1)) fun hrow1 => ?_
 have nchrow1 := hrow1.2
 have hml1 : (S1.map CSession.abs).length = S1.length := by simp
 have hm1 : mSess (S1.map CSession.abs) n = 0 := by rw [hF1]; assumption
 refine Mp ?_ Tryz.call98 (fun bs w hS => tackroomref_sessionAt (⟨A1, c1, S1⟩ : Sl CSession) t w (own_sess (hS.res _ i0) (hS.res _ i1) hnm1))
 have hJe : mIdx (fun x : CSession => decide (x.client = t)) S1 = mIdx (fun x : DSession => decide (x.client = t)) (S1.map CSession.abs) := mIdx_map CSession.abs (fun x : DSession => decide (x.client = t)) S1
 rw [hJe]
 have hJb := mIdx_bd (fun x : DSession => decide (x.client = t)) (S1.map CSession.abs)
 generalize hJ : mIdx (fun x : DSession => decide (x.client = t)) (S1.map CSession.abs) = J at hJb ⊢
 rw [List.length_map] at hJb
 refine Md (J < 0) (fun h2 => ?_) fun h2 => ?_
 · have h0J : ¬ 0 ≤ J := by omega
   rw [← hF1]
   have hm : mKeep (S1.map CSession.abs) n t q r = ([], 11) := by
     grind [mKeep, sIdx]
   exact Me2 hm Sl.nil rfl fun bs w hS => hS.outS (Sl.rd_nil _ _)
 have h0J : 0 ≤ J := by omega
 have hk5 := sess_all hm1 (k := J.toNat) (by omega)
 have hk6 : (S1.getD J.toNat default).replies.xs.length ≤ 4 := mReplies_len hk5.2.2.2.2
 have hk7 : (S1.getD J.toNat default).replies.n = (S1.getD J.toNat default).replies.xs.length := rfl
 refine m_rowA (α := DKept) 141 ?_
 refine Ml (σ := Nat × Bool × Option Addr × Nat × List DKept) (fun ⟨k, b, A, c, L⟩ => InsI (fun k : DKept => decide (q < k.seq)) (⟨q, r⟩ : DKept) (S1.getD J.toNat default).replies.xs k b L ∧ ∀ j, j < k → ¬ ((S1.getD J.toNat default).replies.xs.getD j default).seq = q) (fun ⟨k, b, A, c, L⟩ => (S1.getD J.toNat default).replies.xs.length - k) (fun ⟨k, b, A, c, L⟩ => [rowA 141 A c (L : List DKept), ownL (keptR 141) S1, rowA 118 A1 c1 (S1 : List CSession)]) [17, 16, 15, 14, 13, 9, 3] (fun ⟨k, b, A, c, L⟩ => [(17, vI (k : Int)), (16, vB b), (15, .v (.slice A L.length c))]) (fun _ => []) ?_ (⟨0, false, none, 0, []⟩) ⟨(show InsI (fun k : DKept => decide (q < k.seq)) (⟨q, r⟩ : DKept) (S1.getD J.toNat default).replies.xs 0 false [] from InsI.start _ _ _), fun j hj => absurd hj (Nat.not_lt_zero _)⟩
 rintro ⟨k, b, A, c, L⟩ ⟨hI, hX⟩ _ on1
 have hIl := hI.len
 have hIk := hI.le
 refine Mi ?_ (pc (pIo 35 J J.toNat S1.length i2) (pFo 37 J.toNat 4 1 i2))
 refine Md ((k : Int) < (((S1.getD J.toNat default).replies.n : Nat) : Int)) (fun h3 => ?_) fun h3 => ?_
 · refine Mi ?_ (pc (pIo 44 J J.toNat S1.length i2) (pc (pFo 46 J.toNat 4 1 i2) (pA 48 49 (k : Int) k (s := (S1.getD J.toNat default).replies) (fun w hk hr => (own_elt (hr _ i1) hnm1 (mem_of_getD (i := J.toNat) (by omega)))))))
   refine Md (((S1.getD J.toNat default).replies.at k).seq = q) (fun h4 => ?_) fun h4 => ?_
   · refine Mt [vn, vi 7] fun bs w hS => ?_
     clear on1
     rw [← hF1]
     have hx7 : 0 ≤ kIdx (S1.getD J.toNat default).replies.xs q := by have h9 := mIdx_nonneg (fun k : DKept => decide (k.seq = q)) (S1.getD J.toNat default).replies.xs; rw [List.any_eq_true.2 ⟨_, mem_of_getD (L := (S1.getD J.toNat default).replies.xs) (i := k) (by have h8 : (S1.getD J.toNat default).replies.n = (S1.getD J.toNat default).replies.xs.length := rfl; omega), decide_eq_true (by assumption)⟩] at h9; exact of_decide_eq_true h9
     have hm : mKeep (S1.map CSession.abs) n t q r = ([], 7) := by
       unfold mKeep sIdx
       simp only [hJ, sgetD, List.length_map]
       repeat (first | rw [if_pos (by first | assumption | omega)] | rw [if_neg (by first | assumption | omega | (intro h0; first | exact absurd h0 (by assumption) | (simp_all; done)))])
       all_goals rfl
     refine ⟨Sl.nil, ?_, ?_, hS.outS (Sl.rd_nil _ _)⟩
     · rw [hm] <;> rfl
     · rw [hm] <;> rfl
   refine Mbx b true [(16, false)] (fun h5 => ?_) fun h5 => ?_
   · refine M1 ?_
     refine Mal (α := DKept) 40 ([(⟨((S1.getD J.toNat default).replies.at k).seq, ⟨((S1.getD J.toNat default).replies.at k).reply.code, ((S1.getD J.toNat default).replies.at k).reply.n, ((S1.getD J.toNat default).replies.at k).reply.text⟩⟩ : DKept)]) ?_
     intro A3 c3
     refine Mi ?_ (pR ((k : Int) + 1))
     exact on1 ⟨k + 1, true, A3, c3, L ++ [(⟨((S1.getD J.toNat default).replies.at k).seq, ⟨((S1.getD J.toNat default).replies.at k).reply.code, ((S1.getD J.toNat default).replies.at k).reply.n, ((S1.getD J.toNat default).replies.at k).reply.text⟩⟩ : DKept)]⟩ ⟨(by first | exact hI.more (by assumption) (by omega) | exact hI.hit (by assumption) (by omega) (decide_eq_true (by assumption)) | exact hI.skip (by assumption) (by omega) (decide_eq_false (by assumption))), fun j hj => by rcases Nat.lt_succ_iff_lt_or_eq.1 hj with h | h; exact hX j h; subst h; assumption⟩ (by show (S1.getD J.toNat default).replies.xs.length - (k + 1) < (S1.getD J.toNat default).replies.xs.length - k; omega)
   refine Md (q < ((S1.getD J.toNat default).replies.at k).seq) (fun h6 => ?_) fun h6 => ?_
   rotate_left
   · refine M1 ?_
     refine Mal (α := DKept) 40 ([(⟨((S1.getD J.toNat default).replies.at k).seq, ⟨((S1.getD J.toNat default).replies.at k).reply.code, ((S1.getD J.toNat default).replies.at k).reply.n, ((S1.getD J.toNat default).replies.at k).reply.text⟩⟩ : DKept)]) ?_
     intro A6 c6
     refine Mi ?_ (pR ((k : Int) + 1))
     exact on1 ⟨k + 1, false, A6, c6, L ++ [(⟨((S1.getD J.toNat default).replies.at k).seq, ⟨((S1.getD J.toNat default).replies.at k).reply.code, ((S1.getD J.toNat default).replies.at k).reply.n, ((S1.getD J.toNat default).replies.at k).reply.text⟩⟩ : DKept)]⟩ ⟨(by first | exact hI.more (by assumption) (by omega) | exact hI.hit (by assumption) (by omega) (decide_eq_true (by assumption)) | exact hI.skip (by assumption) (by omega) (decide_eq_false (by assumption))), fun j hj => by rcases Nat.lt_succ_iff_lt_or_eq.1 hj with h | h; exact hX j h; subst h; assumption⟩ (by show (S1.getD J.toNat default).replies.xs.length - (k + 1) < (S1.getD J.toNat default).replies.xs.length - k; omega)
   refine M1 ?_
   refine Mal (α := DKept) 40 ([(⟨q, ⟨r.code, r.n, r.text⟩⟩ : DKept)]) ?_
   intro A4 c4
   refine M1 ?_
   refine Mal (α := DKept) 40 ([(⟨((S1.getD J.toNat default).replies.at k).seq, ⟨((S1.getD J.toNat default).replies.at k).reply.code, ((S1.getD J.toNat default).replies.at k).reply.n, ((S1.getD J.toNat default).replies.at k).reply.text⟩⟩ : DKept)]) ?_
   intro A5 c5
   refine Mi ?_ (pR ((k : Int) + 1))
   exact on1 ⟨k + 1, true, A5, c5, L ++ [(⟨q, ⟨r.code, r.n, r.text⟩⟩ : DKept)] ++ [(⟨((S1.getD J.toNat default).replies.at k).seq, ⟨((S1.getD J.toNat default).replies.at k).reply.code, ((S1.getD J.toNat default).replies.at k).reply.n, ((S1.getD J.toNat default).replies.at k).reply.text⟩⟩ : DKept)]⟩ ⟨(by first | exact hI.more (by assumption) (by omega) | exact hI.hit (by assumption) (by omega) (decide_eq_true (by assumption)) | exact hI.skip (by assumption) (by omega) (decide_eq_false (by assumption))), fun j hj => by rcases Nat.lt_succ_iff_lt_or_eq.1 hj with h | h; exact hX j h; subst h; assumption⟩ (by show (S1.getD J.toNat default).replies.xs.length - (k + 1) < (S1.getD J.toNat default).replies.xs.length - k; omega)
 refine Mbn b (fun h7 => ?_) fun h7 => ?_
 · refine Mi ?_ (pIo 83 J J.toNat S1.length i2)
   refine m_f2 ?_
   refine Ms J.toNat 4 (⟨(S1.getD J.toNat default).client, (S1.getD J.toNat default).id, (S1.getD J.toNat default).acked, (S1.getD J.toNat default).last, ⟨A, c, L⟩⟩ : CSession) ?_ (by omega)
   intro L7 hL7 hlL7
   have hgL7 : L7.getD J.toNat default = (⟨(S1.getD J.toNat default).client, (S1.getD J.toNat default).id, (S1.getD J.toNat default).acked, (S1.getD J.toNat default).last, ⟨A, c, L⟩⟩ : CSession) := by rw [hL7]; exact getD_set (by omega)
   have hbL7 : L7 = List.set S1 J.toNat (⟨(S1.getD J.toNat default).client, (S1.getD J.toNat default).id, (S1.getD J.toNat default).acked, (S1.getD J.toNat default).last, ⟨A, c, L⟩⟩ : CSession) := by rw [hL7]
   refine Mi ?_ (pc (pIo 87 J J.toNat S1.length i0) (pEk 88 J.toNat hgL7 i0))
   have hvk : L = mIns (fun k : DKept => decide (q < k.seq)) ⟨q, r⟩ (S1.getD J.toNat default).replies.xs := (hI.fin1 (by assumption) (by omega))
   have hszk : ∀ z, z ∈ L → z.reply.text.size ≤ 9223372036854775807 := fun z hz => by rcases ins_mem (hvk ▸ hz) with hz | hz; subst hz; exact hr; exact hnm1 _ (mem_of_getD (L := S1) (i := J.toNat) (by omega)) z hz
   refine Mp ?_ (v := vb (mReplies (⟨(S1.getD J.toNat default).client, (S1.getD J.toNat default).id, (S1.getD J.toNat default).acked, (S1.getD J.toNat default).last, L⟩ : DSession))) Tryz.call108 (fun bs w hS => ref_repliesMay (⟨(S1.getD J.toNat default).client, (S1.getD J.toNat default).id, (S1.getD J.toNat default).acked, (S1.getD J.toNat default).last, ⟨A, c, L⟩⟩ : CSession) w (Rr (B := anyB) (hS.res _ i1) (fun _ _ => trivial) hszk) ⟨hk5.2.2.1, hk5.2.2.2.1⟩)
   have hmr : mReplies (⟨(S1.getD J.toNat default).client, (S1.getD J.toNat default).id, (S1.getD J.toNat default).acked, (S1.getD J.toNat default).last, L⟩ : DSession) = mReplies (kIns (S1.getD J.toNat default).abs q r) := by rw [hvk]; rfl
   rw [hmr]
   refine Mbn (mReplies (kIns (S1.getD J.toNat default).abs q r)) (fun h8 => ?_) fun h8 => ?_
   rotate_left
   · refine Mt [vn, vi 2] fun bs w hS => ?_
     clear on1
     rw [← hF1]
     have hkn : ¬ 0 ≤ kIdx (S1.getD J.toNat default).replies.xs q := by unfold kIdx; rw [mIdxL_none (L := (S1.getD J.toNat default).replies.xs) (p := fun k : DKept => decide (k.seq = q)) fun j hj => decide_eq_false (hX j (by omega))]; omega
     have hm : mKeep (S1.map CSession.abs) n t q r = ([], 2) := by
       unfold mKeep sIdx
       simp only [hJ, sgetD, List.length_map]
       repeat (first | rw [if_pos (by first | assumption | omega)] | rw [if_neg (by first | assumption | omega | (intro h0; first | exact absurd h0 (by assumption) | (simp_all; done)))])
       all_goals rfl
     refine ⟨Sl.nil, ?_, ?_, hS.outS (Sl.rd_nil _ _)⟩
     · rw [hm] <;> rfl
     · rw [hm] <;> rfl
   refine Mt [.slice A1 S1.length c1, vi 0] fun bs w hS => ?_
   clear on1
   rw [← hF1]
   have hkn : ¬ 0 ≤ kIdx (S1.getD J.toNat default).replies.xs q := by unfold kIdx; rw [mIdxL_none (L := (S1.getD J.toNat default).replies.xs) (p := fun k : DKept => decide (k.seq = q)) fun j hj => decide_eq_false (hX j (by omega))]; omega
   have hvx := setS_map hbL7
   have hxe : ((⟨(S1.getD J.toNat default).client, (S1.getD J.toNat default).id, (S1.getD J.toNat default).acked, (S1.getD J.toNat default).last, ⟨A, c, L⟩⟩ : CSession)).abs = kIns (S1.getD J.toNat default).abs q r := by exact congrArg (fun l => (⟨(S1.getD J.toNat default).client, (S1.getD J.toNat default).id, (S1.getD J.toNat default).acked, (S1.getD J.toNat default).last, l⟩ : DSession)) hvk
   rw [hxe] at hvx
   have hm : mKeep (S1.map CSession.abs) n t q r = ((S1.map CSession.abs).set J.toNat (kIns (S1.getD J.toNat default).abs q r), 0) := by
     unfold mKeep sIdx
     simp only [hJ, sgetD, List.length_map]
     repeat (first | rw [if_pos (by first | assumption | omega)] | rw [if_neg (by first | assumption | omega | (intro h0; first | exact absurd h0 (by assumption) | (simp_all; done)))])
     all_goals rfl
   refine ⟨⟨A1, c1, L7⟩, ?_, ?_, hS.outS (y := (⟨A1, c1, L7⟩ : Sl CSession)) (out_sessG i0 hS.res (fun x hx => ?_))⟩
   · have hll : S1.length = L7.length := by rw [hbL7, List.length_set]
     rw [hm]
     exact congrArg (fun q => Ending.returned (.tuple #[.slice A1 q c1, vi 0])) hll
   · exact Eq.trans hvx (congrArg Prod.fst hm).symm
   · rw [hbL7] at hx
     rcases mem_set hx with hx | hx
     · subst hx; exact allR_row i1 (hS.res _ i1) hszk
     · exact own_in i2 hS.res hnm1 hx
 refine M1 ?_
 refine Mal (α := DKept) 40 ([(⟨q, ⟨r.code, r.n, r.text⟩⟩ : DKept)]) ?_
 intro A8 c8
 refine Mi ?_ (pIo 83 J J.toNat S1.length i2)
 refine m_f2 ?_
 refine Ms J.toNat 4 (⟨(S1.getD J.toNat default).client, (S1.getD J.toNat default).id, (S1.getD J.toNat default).acked, (S1.getD J.toNat default).last, ⟨A8, c8, L ++ [(⟨q, ⟨r.code, r.n, r.text⟩⟩ : DKept)]⟩⟩ : CSession) ?_ (by omega)
 intro L9 hL9 hlL9
 have hgL9 : L9.getD J.toNat default = (⟨(S1.getD J.toNat default).client, (S1.getD J.toNat default).id, (S1.getD J.toNat default).acked, (S1.getD J.toNat default).last, ⟨A8, c8, L ++ [(⟨q, ⟨r.code, r.n, r.text⟩⟩ : DKept)]⟩⟩ : CSession) := by rw [hL9]; exact getD_set (by omega)
 have hbL9 : L9 = List.set S1 J.toNat (⟨(S1.getD J.toNat default).client, (S1.getD J.toNat default).id, (S1.getD J.toNat default).acked, (S1.getD J.toNat default).last, ⟨A8, c8, L ++ [(⟨q, ⟨r.code, r.n, r.text⟩⟩ : DKept)]⟩⟩ : CSession) := by rw [hL9]
 refine Mi ?_ (pc (pIo 87 J J.toNat S1.length i0) (pEk 88 J.toNat hgL9 i0))
 have hvk : L ++ [(⟨q, ⟨r.code, r.n, r.text⟩⟩ : DKept)] = mIns (fun k : DKept => decide (q < k.seq)) ⟨q, r⟩ (S1.getD J.toNat default).replies.xs := (hI.fin0 (by assumption) (by omega))
 have hszk : ∀ z, z ∈ L ++ [(⟨q, ⟨r.code, r.n, r.text⟩⟩ : DKept)] → z.reply.text.size ≤ 9223372036854775807 := fun z hz => by rcases ins_mem (hvk ▸ hz) with hz | hz; subst hz; exact hr; exact hnm1 _ (mem_of_getD (L := S1) (i := J.toNat) (by omega)) z hz
 refine Mp ?_ (v := vb (mReplies (⟨(S1.getD J.toNat default).client, (S1.getD J.toNat default).id, (S1.getD J.toNat default).acked, (S1.getD J.toNat default).last, L ++ [(⟨q, ⟨r.code, r.n, r.text⟩⟩ : DKept)]⟩ : DSession))) Tryz.call108 (fun bs w hS => ref_repliesMay (⟨(S1.getD J.toNat default).client, (S1.getD J.toNat default).id, (S1.getD J.toNat default).acked, (S1.getD J.toNat default).last, ⟨A8, c8, L ++ [(⟨q, ⟨r.code, r.n, r.text⟩⟩ : DKept)]⟩⟩ : CSession) w (Rr (B := anyB) (hS.res _ i1) (fun _ _ => trivial) hszk) ⟨hk5.2.2.1, hk5.2.2.2.1⟩)
 have hmr : mReplies (⟨(S1.getD J.toNat default).client, (S1.getD J.toNat default).id, (S1.getD J.toNat default).acked, (S1.getD J.toNat default).last, L ++ [(⟨q, ⟨r.code, r.n, r.text⟩⟩ : DKept)]⟩ : DSession) = mReplies (kIns (S1.getD J.toNat default).abs q r) := by rw [hvk]; rfl
 rw [hmr]
 refine Mbn (mReplies (kIns (S1.getD J.toNat default).abs q r)) (fun h9 => ?_) fun h9 => ?_
 rotate_left
 · refine Mt [vn, vi 2] fun bs w hS => ?_
   clear on1
   rw [← hF1]
   have hkn : ¬ 0 ≤ kIdx (S1.getD J.toNat default).replies.xs q := by unfold kIdx; rw [mIdxL_none (L := (S1.getD J.toNat default).replies.xs) (p := fun k : DKept => decide (k.seq = q)) fun j hj => decide_eq_false (hX j (by omega))]; omega
   have hm : mKeep (S1.map CSession.abs) n t q r = ([], 2) := by
     unfold mKeep sIdx
     simp only [hJ, sgetD, List.length_map]
     repeat (first | rw [if_pos (by first | assumption | omega)] | rw [if_neg (by first | assumption | omega | (intro h0; first | exact absurd h0 (by assumption) | (simp_all; done)))])
     all_goals rfl
   refine ⟨Sl.nil, ?_, ?_, hS.outS (Sl.rd_nil _ _)⟩
   · rw [hm] <;> rfl
   · rw [hm] <;> rfl
 refine Mt [.slice A1 S1.length c1, vi 0] fun bs w hS => ?_
 clear on1
 rw [← hF1]
 have hkn : ¬ 0 ≤ kIdx (S1.getD J.toNat default).replies.xs q := by unfold kIdx; rw [mIdxL_none (L := (S1.getD J.toNat default).replies.xs) (p := fun k : DKept => decide (k.seq = q)) fun j hj => decide_eq_false (hX j (by omega))]; omega
 have hvx := setS_map hbL9
 have hxe : ((⟨(S1.getD J.toNat default).client, (S1.getD J.toNat default).id, (S1.getD J.toNat default).acked, (S1.getD J.toNat default).last, ⟨A8, c8, L ++ [(⟨q, ⟨r.code, r.n, r.text⟩⟩ : DKept)]⟩⟩ : CSession)).abs = kIns (S1.getD J.toNat default).abs q r := by exact congrArg (fun l => (⟨(S1.getD J.toNat default).client, (S1.getD J.toNat default).id, (S1.getD J.toNat default).acked, (S1.getD J.toNat default).last, l⟩ : DSession)) hvk
 rw [hxe] at hvx
 have hm : mKeep (S1.map CSession.abs) n t q r = ((S1.map CSession.abs).set J.toNat (kIns (S1.getD J.toNat default).abs q r), 0) := by
   unfold mKeep sIdx
   simp only [hJ, sgetD, List.length_map]
   repeat (first | rw [if_pos (by first | assumption | omega)] | rw [if_neg (by first | assumption | omega | (intro h0; first | exact absurd h0 (by assumption) | (simp_all; done)))])
   all_goals rfl
 refine ⟨⟨A1, c1, L9⟩, ?_, ?_, hS.outS (y := (⟨A1, c1, L9⟩ : Sl CSession)) (out_sessG i0 hS.res (fun x hx => ?_))⟩
 · have hll : S1.length = L9.length := by rw [hbL9, List.length_set]
   rw [hm]
   exact congrArg (fun q => Ending.returned (.tuple #[.slice A1 q c1, vi 0])) hll
 · exact Eq.trans hvx (congrArg Prod.fst hm).symm
 · rw [hbL9] at hx
   rcases mem_set hx with hx | hx
   · subst hx; exact allR_row i1 (hS.res _ i1) hszk
   · exact own_in i2 hS.res hnm1 hx

theorem lock_begin_1 (x : CLock) (t : ByteArray) (w : World) : Calls Tryz.prog 190 #[x.val, vs t] w fun e w' => e = .returned (vi (cmpS x.name t)) ∧ Kp [] w w' := by
 refine M0 ?_ Tryz.func190
 refine Mp ?_ Tryz.call147 (fun bs w hS => strings_Compare x.name t w)
 exact Mt [vi (cmpS x.name t)] fun bs w hS => ⟨rfl, hS.kp⟩

theorem bs_lock_begin_1 {B : Nat → Prop} (s : Sl CLock) (t : ByteArray) (w : World) (hs : s.rd B w) (hn : s.n ≤ 1048576) : Calls Tryz.prog 145 #[s.val, vs t, .func (.func 190) #[] #[]] w fun e w' => e = .returned (.tuple #[vi (mBS (fun x : CLock => cmpS x.name t) s.xs : Nat), vb (mBSf (fun x : CLock => cmpS x.name t) s.xs)]) ∧ Kp [] w w' := by
 have oks := Sl.rd.ok hs
 have ncs := Sl.ok.nc oks
 have hns : s.n = s.xs.length := rfl
 refine Mj ?_ Tryz.func145 (WS.start w)
 refine Ml (σ := Nat × Nat × Nat) (fun ⟨i, j, f⟩ => i ≤ j ∧ j ≤ s.n ∧ j - i ≤ f ∧ mBS (fun x : CLock => cmpS x.name t) s.xs = bsGo (fun j => decide (cmpS (s.at j).name t < 0)) f i j) (fun ⟨i, j, f⟩ => f) (fun _ => []) [10, 9, 8, 0, 1, 2] (fun ⟨i, j, f⟩ => [(10, vI (j : Int)), (9, vI (i : Int))]) (fun _ => []) ?_ (⟨0, s.n, s.n⟩) ⟨Nat.zero_le _, Nat.le_refl _, Nat.le_refl _, rfl⟩
 rintro ⟨i, j, f⟩ ⟨h1, h2, h3, hI⟩ _ on1
 have hdiv : ((i : Int) + (j : Int)) / 2 = (((i + j) / 2 : Nat) : Int) := by omega
 refine Md ((i : Int) < (j : Int)) (fun h1 => ?_) fun h1 => ?_
 rotate_left
 · refine Md ((i : Int) < (s.n : Int)) (fun h3 => ?_) fun h3 => ?_
   rotate_left
   · refine Mt [vi (i : Int), vb false] fun bs w hS => ?_
     have hij : i = j := by omega
     subst hij
     have hr : mBS (fun x : CLock => cmpS x.name t) s.xs = i := by rw [hI]; exact bsGo_end _ _ _ _ (Nat.le_refl _)
     refine ⟨?_, hS.kp⟩
     have hr2 : mBSf (fun x : CLock => cmpS x.name t) s.xs = false := by
       unfold mBSf; rw [hr]
       rw [decide_eq_false (show ¬ i < s.xs.length by omega)]; rfl
     rw [hr, hr2]
     rfl
   refine Mi ?_ (pA 43 44 (i : Int) i (rdk hs))
   refine Mp ?_ Tryz.call190 (fun bs w hS => lock_begin_1 (s.at i) t w)
   refine Mt [vi (i : Int), vb (decide (cmpS (s.at i).name t = 0))] fun bs w hS => ?_
   have hij : i = j := by omega
   subst hij
   have hr : mBS (fun x : CLock => cmpS x.name t) s.xs = i := by rw [hI]; exact bsGo_end _ _ _ _ (Nat.le_refl _)
   refine ⟨?_, hS.kp⟩
   have hr2 : mBSf (fun x : CLock => cmpS x.name t) s.xs = (decide (cmpS (s.at i).name t = 0)) := by
     unfold mBSf; rw [hr]
     rw [decide_eq_true (show i < s.xs.length by omega)]; rfl
   rw [hr, hr2]
   rfl
 refine Mi ?_ (pc (pR ((i : Int) + (j : Int))) (pc (pG [(21, .val (.int .u64 ((i : Int) + (j : Int))))] (oc ((conv_i64_u64 Tryz.underlying3 Tryz.underlying203 (by omega) (by omega)) : ∀ w, (convert 3 203 (vi ((i : Int) + (j : Int))) : Sem Value).run Tryz.prog w = .ok (.int .u64 ((i : Int) + (j : Int))) w) on)) (pc (pG [(22, .val (.int .u64 (((i : Int) + (j : Int)) / 2)))] (oc (shr_u64 : ∀ w, (do eqGuard .shr 203 (.tmp 21) (.const (.int .u64 1)) (.int .u64 ((i : Int) + (j : Int))) (.int .u64 1); binOp .shr 203 (.int .u64 ((i : Int) + (j : Int))) (.int .u64 1) : Sem Value).run Tryz.prog w = .ok (.int .u64 (((i : Int) + (j : Int)) / 2)) w) on)) (pc (pG [(23, .val (vi (((i : Int) + (j : Int)) / 2)))] (oc ((conv_u64_i64 Tryz.underlying203 Tryz.underlying3 (by omega) (by omega)) : ∀ w, (convert 203 3 (.int .u64 (((i : Int) + (j : Int)) / 2)) : Sem Value).run Tryz.prog w = .ok (vi (((i : Int) + (j : Int)) / 2)) w) on)) (pA 27 28 (((i : Int) + (j : Int)) / 2) (((i : Int) + (j : Int)) / 2).toNat (rdk hs))))))
 refine Mp ?_ Tryz.call190 (fun bs w hS => lock_begin_1 (s.at (((i : Int) + (j : Int)) / 2).toNat) t w)
 refine Md (cmpS (s.at (((i : Int) + (j : Int)) / 2).toNat).name t < 0) (fun h2 => ?_) fun h2 => ?_
 rotate_left
 · have hf1 : f = (f - 1) + 1 := by omega
   rw [hf1] at hI
   have hI2 := hI.trans (bsGo_down (by omega) (decide_eq_false (by assumption)))
   exact on1 ⟨i, (i + j) / 2, f - 1⟩ ⟨by omega, by omega, by omega, hI2⟩ (by show f - 1 < f; omega)
 refine Mi ?_ (pR ((((i : Int) + (j : Int)) / 2) + 1))
 have hf1 : f = (f - 1) + 1 := by omega
 rw [hf1] at hI
 have hI2 := hI.trans (bsGo_up (by omega) (decide_eq_true (by assumption)))
 exact on1 ⟨(i + j) / 2 + 1, j, f - 1⟩ ⟨by omega, by omega, by omega, hI2⟩ (by show f - 1 < f; omega)

theorem ref_asked {B : Nat → Prop} (s : Sl CLock) (t : ByteArray) (who : Int) (w : World) (hs : s.rd B w) (ht : t.size ≤ 9223372036854775807) : Calls Tryz.prog 101 #[s.val, vs t, vi who] w fun e w' => e = .returned (vi (mAsk (s.xs.map CLock.abs) t who)) ∧ Kp [] w w' := by
 have oks := Sl.rd.ok hs
 have ncs := Sl.ok.nc oks
 have hns : s.n = s.xs.length := rfl
 refine M0 ?_ Tryz.func101
 refine Mp ?_ Tryz.call93 (fun bs w hS => ref_LocksFault s w (Sl.rd.kp hs hS.kp))
 refine Md (mLocks (s.xs.map CLock.abs) = 0) (fun h1 => ?_) fun h1 => ?_
 rotate_left
 · refine My false false ?_ (df h1)
   refine Me0 (mLocks (s.xs.map CLock.abs)) ?_
   have hm : mAsk (s.xs.map CLock.abs) t who = mLocks (s.xs.map CLock.abs) := by
     unfold mAsk
     repeat (first | rw [if_pos (by first | assumption | omega)] | rw [if_neg (by first | assumption | omega | (simp_all; done))])
     try rfl
     try omega
   rw [hm] <;> rfl
 refine Mp ?_ Tryz.call107 (fun bs w hS => ref_NameMay _ w (by first | assumption | omega | (simp only [emp_size]; omega)))
 refine Mbn (mName t) (fun h2 => ?_) fun h2 => ?_
 rotate_left
 · refine Mq 19 false ?_ rfl
   refine Me0 4 ?_
   have hm : mAsk (s.xs.map CLock.abs) t who = 4 := by
     unfold mAsk
     repeat (first | rw [if_pos (by first | assumption | omega)] | rw [if_neg (by first | assumption | omega | (simp_all; done))])
     try rfl
     try omega
   rw [hm] <;> rfl
 refine My true false ?_ (dt h1)
 refine Mp ?_ Tryz.call51 (fun bs w hS => ref_In who 1 9 w)
 refine Mbn (inB who 1 9) (fun h4 => ?_) fun h4 => ?_
 rotate_left
 · simp only [iT, iF] at h4
   refine Me0 2 ?_
   have hm : mAsk (s.xs.map CLock.abs) t who = 2 := by
     unfold mAsk
     repeat (first | rw [if_pos (by first | assumption | omega)] | rw [if_neg (by first | assumption | omega | (simp_all; done))])
     try rfl
     try omega
   rw [hm] <;> rfl
 simp only [iT, iF] at h4
 refine Me0 (mLocks (s.xs.map CLock.abs)) ?_
 have hm : mAsk (s.xs.map CLock.abs) t who = mLocks (s.xs.map CLock.abs) := by
   unfold mAsk
   repeat (first | rw [if_pos (by first | assumption | omega)] | rw [if_neg (by first | assumption | omega | (simp_all; done))])
   try rfl
   try omega
 rw [hm] <;> rfl

theorem lock_begin {B : Nat → Prop} (s : Sl CLock) (t : ByteArray) (who : Int) (w : World) (hs : s.rd B w) (ht : t.size ≤ 9223372036854775807) : Calls Tryz.prog 148 #[s.val, vs t, vi who] w fun e w' => (¬ mAsk (s.xs.map CLock.abs) t who = 0 ∧ e = .returned (.tuple #[vn, vi 0, vb false, vi (mAsk (s.xs.map CLock.abs) t who)]) ∧ Kp [] w w') ∨ (mAsk (s.xs.map CLock.abs) t who = 0 ∧ ∃ y : Sl CLock, e = .returned (.tuple #[y.val, vi ((mBS (fun x : CLock => cmpS x.name t) s.xs : Nat) : Int), vb (mBSf (fun x : CLock => cmpS x.name t) s.xs), vi 0]) ∧ y.xs.map CLock.abs = s.xs.map CLock.abs ∧ Kp [] w w' ∧ Fresh w w' (locksR 115 3 y)) := by
 have oks := Sl.rd.ok hs
 have ncs := Sl.ok.nc oks
 have hns : s.n = s.xs.length := rfl
 refine M0 ?_ Tryz.func148
 refine Mp ?_ Tryz.call64 (fun bs w hS => lock_Check s w (Sl.rd.kp hs hS.kp))
 refine Mdn (mLocks (s.xs.map CLock.abs) = 0) (fun h1 => ?_) fun h1 => ?_
 rotate_left
 · refine Mt [vn, vi 0, vb false, vi (mLocks (s.xs.map CLock.abs))] fun bs w hS => ?_
   have hm : mAsk (s.xs.map CLock.abs) t who = mLocks (s.xs.map CLock.abs) := by
     unfold mAsk
     repeat (first | rw [if_pos (by first | assumption | omega)] | rw [if_neg (by first | assumption | omega | (simp_all; done))])
     try rfl
     try omega
   refine .inl ⟨?_, ?_, hS.kp⟩
   · rw [hm]; first | assumption | omega
   · rw [hm] <;> rfl
 have hln := (mLocks_bd h1).1
 have hln2 : s.xs.length ≤ 5 := by simpa using hln
 refine Mp ?_ Tryz.call129 (fun bs w hS => lock_Name _ w (by first | assumption | omega | (simp only [emp_size]; omega)))
 refine Mbn (mName t) (fun h2 => ?_) fun h2 => ?_
 rotate_left
 · refine Mt [vn, vi 0, vb false, vi 4] fun bs w hS => ?_
   have hm : mAsk (s.xs.map CLock.abs) t who = 4 := by
     unfold mAsk
     repeat (first | rw [if_pos (by first | assumption | omega)] | rw [if_neg (by first | assumption | omega | (simp_all; done))])
     try rfl
     try omega
   refine .inl ⟨?_, ?_, hS.kp⟩
   · rw [hm]; first | assumption | omega
   · rw [hm] <;> rfl
 refine Mp ?_ Tryz.call130 (fun bs w hS => lock_client who w)
 refine Mbn (inB who 1 9) (fun h3 => ?_) fun h3 => ?_
 rotate_left
 · simp only [iT, iF] at h3
   refine Mt [vn, vi 0, vb false, vi 2] fun bs w hS => ?_
   have hm : mAsk (s.xs.map CLock.abs) t who = 2 := by
     unfold mAsk
     repeat (first | rw [if_pos (by first | assumption | omega)] | rw [if_neg (by first | assumption | omega | (simp_all; done))])
     try rfl
     try omega
   refine .inl ⟨?_, ?_, hS.kp⟩
   · rw [hm]; first | assumption | omega
   · rw [hm] <;> rfl
 simp only [iT, iF] at h3
 refine Mp ?_ Tryz.call145 (fun bs w hS => bs_lock_begin_1 s t w (Sl.rd.kp hs hS.kp) (show s.xs.length ≤ 1048576 by omega))
 refine Mf ?_ Tryz.call68 (fun bs w hS => lock_Copy s w (Sl.rd.kp hs hS.kp) (small_locks (by assumption)))
 rintro y1 hF1
 refine Mt [y1.val, vi ((mBS (fun x : CLock => cmpS x.name t) s.xs : Nat) : Int), vb (mBSf (fun x : CLock => cmpS x.name t) s.xs), vi 0] fun bs w hS => ?_
 have hm : mAsk (s.xs.map CLock.abs) t who = 0 := by
   unfold mAsk
   repeat (first | rw [if_pos (by first | assumption | omega)] | rw [if_neg (by first | assumption | omega | (simp_all; done))])
   try rfl
   try omega
 exact .inr ⟨hm, y1, rfl, hF1, hS.kp, hS.out1⟩

theorem ref_withLock {B : Nat → Prop} (s : Sl CLock) (x : CLock) (w : World) (hs : s.rd B w) (hb : s.n ≤ 1048575) : Calls Tryz.prog 102 #[s.val, x.val] w fun e w' => ∃ y : Sl CLock, e = .returned y.val ∧ y.xs = mIns (fun z : CLock => Op.bytesLess x.name.toList z.name.toList) x s.xs ∧ Kp [] w w' ∧ Fresh w w' (rowA 115 y.A y.c y.xs) := by
 have oks := Sl.rd.ok hs
 have ncs := Sl.ok.nc oks
 have hns : s.n = s.xs.length := rfl
 refine M0 ?_ Tryz.func102
 refine m_rowA (α := CLock) 115 ?_
 refine Ml (σ := Nat × Bool × Option Addr × Nat × List CLock) (fun ⟨k, b, A, c, L⟩ => InsI (fun z : CLock => Op.bytesLess x.name.toList z.name.toList) x s.xs k b L) (fun ⟨k, b, A, c, L⟩ => s.xs.length - k) (fun ⟨k, b, A, c, L⟩ => [rowA 115 A c (L : List CLock)]) [7, 6, 5, 3, 0] (fun ⟨k, b, A, c, L⟩ => [(7, vI (k : Int)), (6, vB b), (5, .v (.slice A L.length c))]) (fun _ => []) ?_ (⟨0, false, none, 0, []⟩) (show InsI (fun z : CLock => Op.bytesLess x.name.toList z.name.toList) x s.xs 0 false [] from InsI.start _ _ _)
 rintro ⟨k, b, A, c, L⟩ hI _ on1
 have hIl := hI.len
 have hIk := hI.le
 refine Md ((k : Int) < (s.n : Int)) (fun h1 => ?_) fun h1 => ?_
 rotate_left
 · refine Mbn b (fun h4 => ?_) fun h4 => ?_
   · exact Mt [.slice A L.length c] fun bs w hS => ⟨⟨A, c, L⟩, rfl, (hI.fin1 (by assumption) (by omega)), hS.kp, hS.out1⟩
   refine M1 ?_
   refine Mal (α := CLock) 56 ([(⟨x.name, x.holder, x.fence, x.line⟩ : CLock)]) ?_
   intro A5 c5
   exact Mt [.slice A5 (L ++ [(⟨x.name, x.holder, x.fence, x.line⟩ : CLock)]).length c5] fun bs w hS => ⟨⟨A5, c5, L ++ [(⟨x.name, x.holder, x.fence, x.line⟩ : CLock)]⟩, rfl, (hI.fin0 (by assumption) (by omega)), hS.kp, hS.out1⟩
 refine Mdr 12 ?_ Tryz_mixed
 refine Mbx b true [(6, false)] (fun h2 => ?_) fun h2 => ?_
 · refine Mz ?_
   refine Mi ?_ (pA 33 34 (k : Int) k (rdk hs))
   refine M1 ?_
   refine Mal (α := CLock) 56 ([(⟨(s.at k).name, (s.at k).holder, (s.at k).fence, (s.at k).line⟩ : CLock)]) ?_
   intro A1 c1
   refine Mi ?_ (pR ((k : Int) + 1))
   exact on1 ⟨k + 1, true, A1, c1, L ++ [(⟨(s.at k).name, (s.at k).holder, (s.at k).fence, (s.at k).line⟩ : CLock)]⟩ (by first | exact hI.more (by assumption) (by omega) | exact hI.hit (by assumption) (by omega) (by assumption) | exact hI.skip (by assumption) (by omega) (by assumption)) (by show s.xs.length - (k + 1) < s.xs.length - k; omega)
 refine Mih ?_ (pc (pI 19 (k : Int) k (rdk hs)) (pF 21 k 0 1 (rdk hs)))
 refine Mz ?_
 refine Mbn (Op.bytesLess ((s.at k).name).toList (x.name).toList || decide ((s.at k).name = x.name)) (fun h3 => ?_) fun h3 => ?_
 · rw [bytes_total] at h3
   simp only [Bool.not_eq_true', Bool.not_eq_false', Bool.not_eq_true, Bool.not_eq_false] at h3
   refine Mi ?_ (pA 33 34 (k : Int) k (rdk hs))
   refine M1 ?_
   refine Mal (α := CLock) 56 ([(⟨(s.at k).name, (s.at k).holder, (s.at k).fence, (s.at k).line⟩ : CLock)]) ?_
   intro A2 c2
   refine Mi ?_ (pR ((k : Int) + 1))
   exact on1 ⟨k + 1, false, A2, c2, L ++ [(⟨(s.at k).name, (s.at k).holder, (s.at k).fence, (s.at k).line⟩ : CLock)]⟩ (by first | exact hI.more (by assumption) (by omega) | exact hI.hit (by assumption) (by omega) (by assumption) | exact hI.skip (by assumption) (by omega) (by assumption)) (by show s.xs.length - (k + 1) < s.xs.length - k; omega)
 rw [bytes_total] at h3
 simp only [Bool.not_eq_true', Bool.not_eq_false', Bool.not_eq_true, Bool.not_eq_false] at h3
 refine M1 ?_
 refine Mal (α := CLock) 56 ([(⟨x.name, x.holder, x.fence, x.line⟩ : CLock)]) ?_
 intro A3 c3
 refine Mi ?_ (pA 33 34 (k : Int) k (rdk hs))
 refine M1 ?_
 refine Mal (α := CLock) 56 ([(⟨(s.at k).name, (s.at k).holder, (s.at k).fence, (s.at k).line⟩ : CLock)]) ?_
 intro A4 c4
 refine Mi ?_ (pR ((k : Int) + 1))
 exact on1 ⟨k + 1, true, A4, c4, L ++ [(⟨x.name, x.holder, x.fence, x.line⟩ : CLock)] ++ [(⟨(s.at k).name, (s.at k).holder, (s.at k).fence, (s.at k).line⟩ : CLock)]⟩ (by first | exact hI.more (by assumption) (by omega) | exact hI.hit (by assumption) (by omega) (by assumption) | exact hI.skip (by assumption) (by omega) (by assumption)) (by show s.xs.length - (k + 1) < s.xs.length - k; omega)

theorem lock_Take {B : Nat → Prop} (s : Sl CLock) (t : ByteArray) (who : Int) (wait : Bool) (w : World) (hs : s.rd B w) (ht : t.size ≤ 9223372036854775807) : Calls Tryz.prog 84 #[.slice s.A s.n s.c, vs t, vi who, .bool wait] w fun e w' => ∃ y : Sl CLock, e = .returned (.tuple #[.slice y.A y.n y.c, ((mTake (s.xs.map CLock.abs) t who wait).2.1).val, vi (mTake (s.xs.map CLock.abs) t who wait).2.2]) ∧ y.xs.map CLock.abs = (mTake (s.xs.map CLock.abs) t who wait).1 ∧ FreshS w w' y := by
 have oks := Sl.rd.ok hs
 have ncs := Sl.ok.nc oks
 have hns : s.n = s.xs.length := rfl
 refine M0 ?_ Tryz.func84
 by_cases h1 : mAsk (s.xs.map CLock.abs) t who = 0
 rotate_left
 · refine Mp ?_ Tryz.call148 (fun bs w hS => (lock_begin s t who w (Sl.rd.kp hs hS.kp) (by first | assumption | omega | (simp only [emp_size]; omega))).mono (fun e w' h => (h.resolve_right (fun h9 => h1 h9.1)).2))
   refine My false true ?_ (df h1)
   refine Mt [vn, vz 0, vi (mAsk (s.xs.map CLock.abs) t who)] fun bs w hS => ?_
   have hm : mTake (s.xs.map CLock.abs) t who wait = ([], zRep, mAsk (s.xs.map CLock.abs) t who) := by
     grind [mTake]
   refine ⟨Sl.nil, ?_, ?_, hS.outS (Sl.rd_nil _ _)⟩
   · rw [hm] <;> rfl
   · rw [hm] <;> rfl
 refine Mf ?_ Tryz.call148 (fun bs w hS => (lock_begin s t who w (Sl.rd.kp hs hS.kp) (by first | assumption | omega | (simp only [emp_size]; omega))).mono (fun e w' h => (h.resolve_left (fun h9 => h9.1 h1)).2))
 rintro y1 hF1
 refine m_split2 ?_
 obtain ⟨A1, c1, S1⟩ := y1
 have hF1 : S1.map CLock.abs = s.xs.map CLock.abs := hF1
 refine m_perm (R' := [ownL (lineR 3) S1, rowA 115 A1 c1 (S1 : List CLock)]) (List.Perm.refl _) ?_
 have hnm1 := locks_names (y := (⟨A1, c1, S1⟩ : Sl CLock)) hs hF1
 have hlen1 : S1.length = s.xs.length := by simpa using congrArg List.length hF1
 refine m_know (F := ∀ i, i < S1.length → Rds.ok (S1.getD i default)) (fun bs w hS i hi => Rds.okof (B := anyB) (w := w) (own_eltL (hS.res _ i0) hnm1 (mem_of_getD hi))) fun okown1 => ?_
 refine m_know (F := RowOk A1 c1 (S1 : List CLock)) (fun bs w hS => rowA_rok (hS.res _ i1)) fun hrow1 => ?_
 have nchrow1 := hrow1.2
 have hask := mAsk_ok h1
 have hm1 : mLocks (S1.map CLock.abs) = 0 := by rw [hF1]; exact hask.1
 have hw1 := hask.2.2.1
 have hw2 := hask.2.2.2
 have hln5 : S1.length ≤ 5 := by have h9 := (mLocks_bd hm1).1; simpa using h9
 have hbsS : mBS (fun x : CLock => cmpS x.name t) s.xs = mBS (fun x : CLock => cmpS x.name t) S1 := mBS_abs (L := s.xs) (L2 := S1) (f := CLock.abs) (c := fun x : DLock => cmpS x.name t) rfl hF1.symm
 have hbfS : mBSf (fun x : CLock => cmpS x.name t) s.xs = mBSf (fun x : CLock => cmpS x.name t) S1 := mBSf_abs (L := s.xs) (L2 := S1) (f := CLock.abs) (c := fun x : DLock => cmpS x.name t) rfl hF1.symm
 rw [hbsS, hbfS]
 have hbs := bsf_lock (L := S1) hm1 t
 have hJb := mIdx_bd (fun x : DLock => decide (x.name = t)) (S1.map CLock.abs)
 rw [List.length_map] at hJb
 generalize hJ : mIdx (fun x : DLock => decide (x.name = t)) (S1.map CLock.abs) = J at hbs hJb
 have hkl := mBS_le (fun x : CLock => cmpS x.name t) S1
 generalize hk : mBS (fun x : CLock => cmpS x.name t) S1 = k at hbs hkl ⊢
 generalize hf : mBSf (fun x : CLock => cmpS x.name t) S1 = fb at hbs ⊢
 refine Mq 24 false ?_ rfl
 refine Mbx fb true [(12, false)] (fun h2 => ?_) fun h2 => ?_
 rotate_left
 · have h0J := of_decide_eq_false (hbs.1.symm.trans h2)
   refine Md ((S1.length : Int) = 5) (fun h11 => ?_) fun h11 => ?_
   · refine Mt [.slice A1 S1.length c1, vz 8, vi 0] fun bs w hS => ?_
     have hask0 : mAsk (S1.map CLock.abs) t who = 0 := by rw [hF1]; assumption
     rw [← hF1]
     have hq1 : (S1.getD k default).abs.holder = (S1.getD k default).holder := rfl
     have hq2 : (S1.getD k default).abs.fence = (S1.getD k default).fence := rfl
     have hq3 : (S1.getD k default).abs.line = (S1.getD k default).line.xs := rfl
     have hq4 : (S1.getD k default).abs.name = (S1.getD k default).name := rfl
     have hm : mTake (S1.map CLock.abs) t who wait = (S1.map CLock.abs, ⟨8, 0, emp⟩, 0) := by
       grind [mTake, lIdx]
     refine ⟨⟨A1, c1, S1⟩, ?_, ?_, hS.outS (y := (⟨A1, c1, S1⟩ : Sl CLock)) (out_locksG i1 hS.res (fun x hx => ?_))⟩
     · rw [hm] <;> rfl
     · exact (congrArg Prod.fst hm).symm
     · exact ⟨hnm1 x hx, own_inL i0 hS.res hx⟩
   refine M1 ?_
   refine m_f1 ?_
   refine Mtu ?_ Tryz.call149 (fun bs w hS => (insR_Lock A1 c1 S1 k _ (⟨t, who, 1, Sl.nil⟩ : CLock) (bs.getD 1 0) 115 w (hS.res _ i0) hS.head1.2.2 rfl (by omega) (by omega) (hS.loc 1 ⟨115, [vS t, vI who, vI 1, .v vn]⟩ (by kernel_rfl) (by simp)) (hS.ne_head (i := 1) (b := ⟨115, [vS t, vI who, vI 1, .v vn]⟩) (by kernel_rfl))).mono (fun e w' ⟨y, h1, h2⟩ => ⟨y, h1, trivial, h2⟩))
   rintro q7 _
   refine Mt [.slice q7.1 (S1.take k ++ [(⟨t, who, 1, Sl.nil⟩ : CLock)] ++ S1.drop k).length q7.2, .agg #[vi 0, vi 1, ve], vi 0] fun bs w hS => ?_
   have hask0 : mAsk (S1.map CLock.abs) t who = 0 := by rw [hF1]; assumption
   rw [← hF1]
   have hq1 : (S1.getD k default).abs.holder = (S1.getD k default).holder := rfl
   have hq2 : (S1.getD k default).abs.fence = (S1.getD k default).fence := rfl
   have hq3 : (S1.getD k default).abs.line = (S1.getD k default).line.xs := rfl
   have hq4 : (S1.getD k default).abs.name = (S1.getD k default).name := rfl
   have hvy : S1.take k ++ [(⟨t, who, 1, Sl.nil⟩ : CLock)] ++ S1.drop k = mIns (fun x : CLock => Op.bytesLess t.toList x.name.toList) (⟨t, who, 1, Sl.nil⟩ : CLock) S1 := ins_at ((ins_lock hm1 (by rw [hJ]; omega)).trans hk)
   have hvx := insL_map hvy
   have hm : mTake (S1.map CLock.abs) t who wait = (mIns (fun x : DLock => Op.bytesLess t.toList x.name.toList) ⟨t, who, 1, []⟩ (S1.map CLock.abs), ⟨0, 1, emp⟩, 0) := by
     grind [mTake, lIdx]
   refine ⟨⟨q7.1, q7.2, S1.take k ++ [(⟨t, who, 1, Sl.nil⟩ : CLock)] ++ S1.drop k⟩, ?_, ?_, hS.outS (y := (⟨q7.1, q7.2, S1.take k ++ [(⟨t, who, 1, Sl.nil⟩ : CLock)] ++ S1.drop k⟩ : Sl CLock)) (out_locksG i0 hS.res (fun x hx => ?_))⟩
   · rw [hm] <;> rfl
   · exact Eq.trans hvx (congrArg Prod.fst hm).symm
   · rw [hvy] at hx
     rcases ins_mem hx with hx | hx
     · subst hx; exact ⟨ht, Sl.rd_nil _ _⟩
     · exact ⟨hnm1 x hx, own_inL i1 hS.res hx⟩
 have hkJ := hbs.2 h2
 subst hkJ
 have hk5 := lock_all hm1 (k := k) (by omega)
 obtain ⟨hk51, hk52, hk53, hk54, hk55, hk56⟩ := hk5
 have hk7 : (S1.getD k default).line.n = (S1.getD k default).line.xs.length := rfl
 refine Mi ?_ (pc (pIo 52 (k : Int) k S1.length i1) (pFo 57 k 1 1 i1))
 refine Md ((S1.getD k default).holder = who) (fun h3 => ?_) fun h3 => ?_
 · refine Mda 9 [] [0] [ownL (lineR 3) S1, rowA 115 A1 c1 (S1 : List CLock)] Tryz_mixed ?_
   refine Mih ?_ (pFo 64 k 2 1 i1)
   refine Mz ?_
   refine Mt [.slice A1 S1.length c1, .agg #[vi 0, vi (S1.getD k default).fence, ve], vi 0] fun bs w hS => ?_
   have hask0 : mAsk (S1.map CLock.abs) t who = 0 := by rw [hF1]; assumption
   rw [← hF1]
   have hq1 : (S1.getD k default).abs.holder = (S1.getD k default).holder := rfl
   have hq2 : (S1.getD k default).abs.fence = (S1.getD k default).fence := rfl
   have hq3 : (S1.getD k default).abs.line = (S1.getD k default).line.xs := rfl
   have hq4 : (S1.getD k default).abs.name = (S1.getD k default).name := rfl
   have hlt : lTake (S1.getD k default).abs who wait = ((S1.getD k default).abs, ⟨0, (S1.getD k default).fence, emp⟩) := by
     grind [lTake]
   have hm : mTake (S1.map CLock.abs) t who wait = (S1.map CLock.abs, ⟨0, (S1.getD k default).fence, emp⟩, 0) := by
     unfold mTake lIdx
     simp only [hJ, Int.toNat_natCast, lgetD, List.length_map]
     rw [hlt]
     repeat (first | rw [if_pos (by first | assumption | omega)] | rw [if_neg (by first | assumption | omega | (intro h0; first | exact absurd h0 (by assumption) | (simp_all; done)))])
     all_goals (show ((S1.map CLock.abs).set k (S1.getD k default).abs, _, _) = _; rw [← lgetD, set_getD (by rw [List.length_map]; omega)])
   refine ⟨⟨A1, c1, S1⟩, ?_, ?_, hS.outS (y := (⟨A1, c1, S1⟩ : Sl CLock)) (out_locksG i1 hS.res (fun x hx => ?_))⟩
   · rw [hm] <;> rfl
   · exact (congrArg Prod.fst hm).symm
   · exact ⟨hnm1 x hx, own_inL i0 hS.res hx⟩
 refine Mi ?_ (pFo 70 k 1 1 i1)
 refine Md ((S1.getD k default).holder = 0) (fun h4 => ?_) fun h4 => ?_
 · refine Mi ?_ (pFo 76 k 2 1 i1)
   refine Md ((S1.getD k default).fence = 1073741824) (fun h5 => ?_) fun h5 => ?_
   · refine Mt [.slice A1 S1.length c1, vz 8, vi 0] fun bs w hS => ?_
     have hask0 : mAsk (S1.map CLock.abs) t who = 0 := by rw [hF1]; assumption
     rw [← hF1]
     have hq1 : (S1.getD k default).abs.holder = (S1.getD k default).holder := rfl
     have hq2 : (S1.getD k default).abs.fence = (S1.getD k default).fence := rfl
     have hq3 : (S1.getD k default).abs.line = (S1.getD k default).line.xs := rfl
     have hq4 : (S1.getD k default).abs.name = (S1.getD k default).name := rfl
     have hlt : lTake (S1.getD k default).abs who wait = ((S1.getD k default).abs, ⟨8, 0, emp⟩) := by
       grind [lTake]
     have hm : mTake (S1.map CLock.abs) t who wait = (S1.map CLock.abs, ⟨8, 0, emp⟩, 0) := by
       unfold mTake lIdx
       simp only [hJ, Int.toNat_natCast, lgetD, List.length_map]
       rw [hlt]
       repeat (first | rw [if_pos (by first | assumption | omega)] | rw [if_neg (by first | assumption | omega | (intro h0; first | exact absurd h0 (by assumption) | (simp_all; done)))])
       all_goals (show ((S1.map CLock.abs).set k (S1.getD k default).abs, _, _) = _; rw [← lgetD, set_getD (by rw [List.length_map]; omega)])
     refine ⟨⟨A1, c1, S1⟩, ?_, ?_, hS.outS (y := (⟨A1, c1, S1⟩ : Sl CLock)) (out_locksG i1 hS.res (fun x hx => ?_))⟩
     · rw [hm] <;> rfl
     · exact (congrArg Prod.fst hm).symm
     · exact ⟨hnm1 x hx, own_inL i0 hS.res hx⟩
   refine Mi ?_ (pFo 85 k 1 1 i1)
   refine My true false ?_ (dt h4)
   refine Mi ?_ (pc (pFo 93 k 2 1 i1) (pR ((S1.getD k default).fence + 1)))
   refine m_f1 ?_
   refine Ms k 1 (⟨(S1.getD k default).name, who, (S1.getD k default).fence, (S1.getD k default).line⟩ : CLock) ?_ (by omega)
   intro L3 hL3 hlL3
   have hgL3 : L3.getD k default = (⟨(S1.getD k default).name, who, (S1.getD k default).fence, (S1.getD k default).line⟩ : CLock) := by rw [hL3]; exact getD_set (by omega)
   have hbL3 : L3 = List.set S1 k (⟨(S1.getD k default).name, who, (S1.getD k default).fence, (S1.getD k default).line⟩ : CLock) := by rw [hL3]
   refine Ms k 2 (⟨(S1.getD k default).name, who, (S1.getD k default).fence + 1, (S1.getD k default).line⟩ : CLock) ?_ (by omega) (hg := hgL3)
   intro L4 hL4 hlL4
   have hgL4 : L4.getD k default = (⟨(S1.getD k default).name, who, (S1.getD k default).fence + 1, (S1.getD k default).line⟩ : CLock) := by rw [hL4]; exact getD_set (by omega)
   have hbL4 : L4 = List.set S1 k (⟨(S1.getD k default).name, who, (S1.getD k default).fence + 1, (S1.getD k default).line⟩ : CLock) := by rw [hL4, hbL3, List.set_set]
   refine Mda 9 [] [0] [rowA 115 A1 c1 (L4 : List CLock), ownL (lineR 3) S1] Tryz_mixed ?_
   refine Mih ?_ (pFk 103 k 2 1 hgL4 i0)
   refine Mz ?_
   refine Mt [.slice A1 S1.length c1, .agg #[vi 0, vi ((S1.getD k default).fence + 1), ve], vi 0] fun bs w hS => ?_
   have hask0 : mAsk (S1.map CLock.abs) t who = 0 := by rw [hF1]; assumption
   rw [← hF1]
   have hq1 : (S1.getD k default).abs.holder = (S1.getD k default).holder := rfl
   have hq2 : (S1.getD k default).abs.fence = (S1.getD k default).fence := rfl
   have hq3 : (S1.getD k default).abs.line = (S1.getD k default).line.xs := rfl
   have hq4 : (S1.getD k default).abs.name = (S1.getD k default).name := rfl
   have hvx := setL_map hbL4
   have hlt : lTake (S1.getD k default).abs who wait = (((⟨(S1.getD k default).name, who, (S1.getD k default).fence + 1, (S1.getD k default).line⟩ : CLock)).abs, ⟨0, (S1.getD k default).fence + 1, emp⟩) := by
     unfold lTake
     simp only [hq1, hq2, hq3, hq4]
     repeat (first | rw [if_pos (by first | assumption | omega | exact .inl (by assumption) | exact .inr (by assumption))] | rw [if_neg (by first | assumption | omega | (rintro (h8 | h8) <;> simp_all; done))])
     all_goals rfl
   have hm : mTake (S1.map CLock.abs) t who wait = ((S1.map CLock.abs).set k ((⟨(S1.getD k default).name, who, (S1.getD k default).fence + 1, (S1.getD k default).line⟩ : CLock)).abs, ⟨0, (S1.getD k default).fence + 1, emp⟩, 0) := by
     unfold mTake lIdx
     simp only [hJ, Int.toNat_natCast, lgetD, List.length_map]
     rw [hlt]
     repeat (first | rw [if_pos (by first | assumption | omega)] | rw [if_neg (by first | assumption | omega | (intro h0; first | exact absurd h0 (by assumption) | (simp_all; done)))])
     all_goals rfl
   refine ⟨⟨A1, c1, L4⟩, ?_, ?_, hS.outS (y := (⟨A1, c1, L4⟩ : Sl CLock)) (out_locksG i0 hS.res (fun x hx => ?_))⟩
   · have hll : S1.length = L4.length := by rw [hbL4, List.length_set]
     rw [hm]
     exact congrArg (fun q => Ending.returned (.tuple #[.slice A1 q c1, .agg #[vi 0, vi ((S1.getD k default).fence + 1), ve], vi 0])) hll
   · exact Eq.trans hvx (congrArg Prod.fst hm).symm
   · rw [hbL4] at hx
     rcases mem_set hx with hx | hx
     · subst hx; exact ⟨hnm1 (S1.getD k default) (mem_of_getD (L := S1) (i := k) (by omega)), own_inL (x := (S1.getD k default)) i1 hS.res (mem_of_getD (L := S1) (i := k) (by omega))⟩
     · exact ⟨hnm1 x hx, own_inL i1 hS.res hx⟩
 refine Mi ?_ (pFo 85 k 1 1 i1)
 refine My false false ?_ (df h4)
 refine Mbn wait (fun h8 => ?_) fun h8 => ?_
 rotate_left
 · refine Mda 9 [] [0] [ownL (lineR 3) S1, rowA 115 A1 c1 (S1 : List CLock)] Tryz_mixed ?_
   refine Mih ?_ (pFo 120 k 1 1 i1)
   refine Mz ?_
   refine Mt [.slice A1 S1.length c1, .agg #[vi 10, vi (S1.getD k default).holder, ve], vi 0] fun bs w hS => ?_
   have hask0 : mAsk (S1.map CLock.abs) t who = 0 := by rw [hF1]; assumption
   rw [← hF1]
   have hq1 : (S1.getD k default).abs.holder = (S1.getD k default).holder := rfl
   have hq2 : (S1.getD k default).abs.fence = (S1.getD k default).fence := rfl
   have hq3 : (S1.getD k default).abs.line = (S1.getD k default).line.xs := rfl
   have hq4 : (S1.getD k default).abs.name = (S1.getD k default).name := rfl
   have hlt : lTake (S1.getD k default).abs who wait = ((S1.getD k default).abs, ⟨10, (S1.getD k default).holder, emp⟩) := by
     grind [lTake]
   have hm : mTake (S1.map CLock.abs) t who wait = (S1.map CLock.abs, ⟨10, (S1.getD k default).holder, emp⟩, 0) := by
     unfold mTake lIdx
     simp only [hJ, Int.toNat_natCast, lgetD, List.length_map]
     rw [hlt]
     repeat (first | rw [if_pos (by first | assumption | omega)] | rw [if_neg (by first | assumption | omega | (intro h0; first | exact absurd h0 (by assumption) | (simp_all; done)))])
     all_goals (show ((S1.map CLock.abs).set k (S1.getD k default).abs, _, _) = _; rw [← lgetD, set_getD (by rw [List.length_map]; omega)])
   refine ⟨⟨A1, c1, S1⟩, ?_, ?_, hS.outS (y := (⟨A1, c1, S1⟩ : Sl CLock)) (out_locksG i1 hS.res (fun x hx => ?_))⟩
   · rw [hm] <;> rfl
   · exact (congrArg Prod.fst hm).symm
   · exact ⟨hnm1 x hx, own_inL i0 hS.res hx⟩
 refine Mi ?_ (pFo 112 k 3 1 i1)
 refine Mp ?_ Tryz.call150 (fun bs w hS => has_ints (S1.getD k default).line (S1.getD k default).line.n who w (own_eltL (hS.res _ i0) hnm1 (mem_of_getD (i := k) (by omega))).2 (by omega))
 have hlh : (((S1.getD k default).line.xs.take (S1.getD k default).line.n).any fun z => decide (z = who)) = lHas (S1.getD k default).abs who := by rw [take_all (Nat.le_refl _)]; rfl
 rw [hlh]
 refine Mb (lHas (S1.getD k default).abs who) (fun h9 => ?_) fun h9 => ?_
 · refine Mda 9 [] [0] [ownL (lineR 3) S1, rowA 115 A1 c1 (S1 : List CLock)] Tryz_mixed ?_
   refine Mih ?_ (pFo 120 k 1 1 i1)
   refine Mz ?_
   refine Mt [.slice A1 S1.length c1, .agg #[vi 10, vi (S1.getD k default).holder, ve], vi 0] fun bs w hS => ?_
   have hask0 : mAsk (S1.map CLock.abs) t who = 0 := by rw [hF1]; assumption
   rw [← hF1]
   have hq1 : (S1.getD k default).abs.holder = (S1.getD k default).holder := rfl
   have hq2 : (S1.getD k default).abs.fence = (S1.getD k default).fence := rfl
   have hq3 : (S1.getD k default).abs.line = (S1.getD k default).line.xs := rfl
   have hq4 : (S1.getD k default).abs.name = (S1.getD k default).name := rfl
   have hlt : lTake (S1.getD k default).abs who wait = ((S1.getD k default).abs, ⟨10, (S1.getD k default).holder, emp⟩) := by
     grind [lTake]
   have hm : mTake (S1.map CLock.abs) t who wait = (S1.map CLock.abs, ⟨10, (S1.getD k default).holder, emp⟩, 0) := by
     unfold mTake lIdx
     simp only [hJ, Int.toNat_natCast, lgetD, List.length_map]
     rw [hlt]
     repeat (first | rw [if_pos (by first | assumption | omega)] | rw [if_neg (by first | assumption | omega | (intro h0; first | exact absurd h0 (by assumption) | (simp_all; done)))])
     all_goals (show ((S1.map CLock.abs).set k (S1.getD k default).abs, _, _) = _; rw [← lgetD, set_getD (by rw [List.length_map]; omega)])
   refine ⟨⟨A1, c1, S1⟩, ?_, ?_, hS.outS (y := (⟨A1, c1, S1⟩ : Sl CLock)) (out_locksG i1 hS.res (fun x hx => ?_))⟩
   · rw [hm] <;> rfl
   · exact (congrArg Prod.fst hm).symm
   · exact ⟨hnm1 x hx, own_inL i0 hS.res hx⟩
 refine Mi ?_ (pFo 126 k 3 1 i1)
 refine Md ((((S1.getD k default).line.n : Nat) : Int) = 3) (fun h10 => ?_) fun h10 => ?_
 · refine Mt [.slice A1 S1.length c1, vz 8, vi 0] fun bs w hS => ?_
   have hask0 : mAsk (S1.map CLock.abs) t who = 0 := by rw [hF1]; assumption
   rw [← hF1]
   have hq1 : (S1.getD k default).abs.holder = (S1.getD k default).holder := rfl
   have hq2 : (S1.getD k default).abs.fence = (S1.getD k default).fence := rfl
   have hq3 : (S1.getD k default).abs.line = (S1.getD k default).line.xs := rfl
   have hq4 : (S1.getD k default).abs.name = (S1.getD k default).name := rfl
   have hlt : lTake (S1.getD k default).abs who wait = ((S1.getD k default).abs, ⟨8, 0, emp⟩) := by
     grind [lTake]
   have hm : mTake (S1.map CLock.abs) t who wait = (S1.map CLock.abs, ⟨8, 0, emp⟩, 0) := by
     unfold mTake lIdx
     simp only [hJ, Int.toNat_natCast, lgetD, List.length_map]
     rw [hlt]
     repeat (first | rw [if_pos (by first | assumption | omega)] | rw [if_neg (by first | assumption | omega | (intro h0; first | exact absurd h0 (by assumption) | (simp_all; done)))])
     all_goals (show ((S1.map CLock.abs).set k (S1.getD k default).abs, _, _) = _; rw [← lgetD, set_getD (by rw [List.length_map]; omega)])
   refine ⟨⟨A1, c1, S1⟩, ?_, ?_, hS.outS (y := (⟨A1, c1, S1⟩ : Sl CLock)) (out_locksG i1 hS.res (fun x hx => ?_))⟩
   · rw [hm] <;> rfl
   · exact (congrArg Prod.fst hm).symm
   · exact ⟨hnm1 x hx, own_inL i0 hS.res hx⟩
 refine m_part2 (rowA 3 (S1.getD k default).line.A (S1.getD k default).line.c ((S1.getD k default).line.xs : List Int)) (ownL (lineR 3) (List.eraseIdx S1 k)) (ownL_get_fp (lineR 3) (i := k) (by omega)) (fun w h => ownL_get_p (lineR 3) (i := k) (by omega) w h) ?_
 refine Mi ?_ (pFo 135 k 3 1 i2)
 refine M1 ?_
 refine Mal (α := Int) 8 ([who]) ?_
 intro A5 c5
 refine m_f2 ?_
 refine Ms k 3 (⟨(S1.getD k default).name, (S1.getD k default).holder, (S1.getD k default).fence, ⟨A5, c5, (S1.getD k default).line.xs ++ [who]⟩⟩ : CLock) ?_ (by omega)
 intro L6 hL6 hlL6
 have hgL6 : L6.getD k default = (⟨(S1.getD k default).name, (S1.getD k default).holder, (S1.getD k default).fence, ⟨A5, c5, (S1.getD k default).line.xs ++ [who]⟩⟩ : CLock) := by rw [hL6]; exact getD_set (by omega)
 have hbL6 : L6 = List.set S1 k (⟨(S1.getD k default).name, (S1.getD k default).holder, (S1.getD k default).fence, ⟨A5, c5, (S1.getD k default).line.xs ++ [who]⟩⟩ : CLock) := by rw [hL6]
 refine Mda 9 [] [0] [rowA 115 A1 c1 (L6 : List CLock), rowA 3 A5 c5 ((S1.getD k default).line.xs ++ [who] : List Int), ownL (lineR 3) (List.eraseIdx S1 k)] Tryz_mixed ?_
 refine Mih ?_ (pFk 145 k 1 1 hgL6 i0)
 refine Mz ?_
 refine Mt [.slice A1 S1.length c1, .agg #[vi 10, vi (S1.getD k default).holder, ve], vi 0] fun bs w hS => ?_
 have hask0 : mAsk (S1.map CLock.abs) t who = 0 := by rw [hF1]; assumption
 rw [← hF1]
 have hq1 : (S1.getD k default).abs.holder = (S1.getD k default).holder := rfl
 have hq2 : (S1.getD k default).abs.fence = (S1.getD k default).fence := rfl
 have hq3 : (S1.getD k default).abs.line = (S1.getD k default).line.xs := rfl
 have hq4 : (S1.getD k default).abs.name = (S1.getD k default).name := rfl
 have hvx := setL_map hbL6
 have hlt : lTake (S1.getD k default).abs who wait = (((⟨(S1.getD k default).name, (S1.getD k default).holder, (S1.getD k default).fence, ⟨A5, c5, (S1.getD k default).line.xs ++ [who]⟩⟩ : CLock)).abs, ⟨10, (S1.getD k default).holder, emp⟩) := by
   unfold lTake
   simp only [hq1, hq2, hq3, hq4]
   repeat (first | rw [if_pos (by first | assumption | omega | exact .inl (by assumption) | exact .inr (by assumption))] | rw [if_neg (by first | assumption | omega | (rintro (h8 | h8) <;> simp_all; done))])
   all_goals rfl
 have hm : mTake (S1.map CLock.abs) t who wait = ((S1.map CLock.abs).set k ((⟨(S1.getD k default).name, (S1.getD k default).holder, (S1.getD k default).fence, ⟨A5, c5, (S1.getD k default).line.xs ++ [who]⟩⟩ : CLock)).abs, ⟨10, (S1.getD k default).holder, emp⟩, 0) := by
   unfold mTake lIdx
   simp only [hJ, Int.toNat_natCast, lgetD, List.length_map]
   rw [hlt]
   repeat (first | rw [if_pos (by first | assumption | omega)] | rw [if_neg (by first | assumption | omega | (intro h0; first | exact absurd h0 (by assumption) | (simp_all; done)))])
   all_goals rfl
 refine ⟨⟨A1, c1, L6⟩, ?_, ?_, hS.outS (y := (⟨A1, c1, L6⟩ : Sl CLock)) (out_locksG i0 hS.res (fun x hx => ?_))⟩
 · have hll : S1.length = L6.length := by rw [hbL6, List.length_set]
   rw [hm]
   exact congrArg (fun q => Ending.returned (.tuple #[.slice A1 q c1, .agg #[vi 10, vi (S1.getD k default).holder, ve], vi 0])) hll
 · exact Eq.trans hvx (congrArg Prod.fst hm).symm
 · rw [hbL6] at hx
   rcases mem_set_ne hx with hx | hx
   · subst hx; exact ⟨hnm1 (S1.getD k default) (mem_of_getD (L := S1) (i := k) (by omega)), allR_row i1 (hS.res _ i1) (fun _ _ => trivial)⟩
   · exact ⟨hnm1 x (List.mem_of_mem_eraseIdx hx), own_inL i2 hS.res hx⟩

theorem ref_TakenOf {B : Nat → Prop} (s : Sl CLock) (t : ByteArray) (who : Int) (wait : Bool) (w : World) (hs : s.rd B w) (ht : t.size ≤ 9223372036854775807) : Calls Tryz.prog 38 #[s.val, vs t, vi who, .bool wait] w fun e w' => ∃ y : Sl CLock, e = .returned (.tuple #[y.val, ((mTake (s.xs.map CLock.abs) t who wait).2.1).val, vi (mTake (s.xs.map CLock.abs) t who wait).2.2]) ∧ y.xs.map CLock.abs = (mTake (s.xs.map CLock.abs) t who wait).1 ∧ FreshS w w' y := by
 have oks := Sl.rd.ok hs
 have ncs := Sl.ok.nc oks
 have hns : s.n = s.xs.length := rfl
 refine M0 ?_ Tryz.func38
 refine Mp ?_ Tryz.call101 (fun bs w hS => ref_asked s t who w (Sl.rd.kp hs hS.kp) (by first | assumption | omega | (simp only [emp_size]; omega)))
 refine Mdn (mAsk (s.xs.map CLock.abs) t who = 0) (fun h1 => ?_) fun h1 => ?_
 rotate_left
 · refine Mt [vn, vz 0, vi (mAsk (s.xs.map CLock.abs) t who)] fun bs w hS => ?_
   have hm : mTake (s.xs.map CLock.abs) t who wait = ([], zRep, mAsk (s.xs.map CLock.abs) t who) := by
     grind [mTake]
   refine ⟨Sl.nil, ?_, ?_, hS.outS (Sl.rd_nil _ _)⟩
   · rw [hm] <;> rfl
   · rw [hm] <;> rfl
 refine Mf ?_ Tryz.call18 (fun bs w hS => ref_LocksCopy s w (Sl.rd.kp hs hS.kp) (small_locks (mAsk_ok (by assumption)).1))
 rintro y1 hF1
 refine m_split2 ?_
 obtain ⟨A1, c1, S1⟩ := y1
 have hF1 : S1.map CLock.abs = s.xs.map CLock.abs := hF1
 refine m_perm (R' := [ownL (lineR 3) S1, rowA 115 A1 c1 (S1 : List CLock)]) (List.Perm.refl _) ?_
 have hnm1 := locks_names (y := (⟨A1, c1, S1⟩ : Sl CLock)) (hs) hF1
 have hlen1 : S1.length = s.xs.length := by simpa using congrArg List.length hF1
 refine m_know (F := ∀ i, i < S1.length → Rds.ok (S1.getD i default)) (fun bs w hS i hi => Rds.okof (B := anyB) (w := w) (own_eltL (hS.res _ i0) hnm1 (mem_of_getD hi))) fun okown1 => ?_
 refine m_know (F := RowOk A1 c1 (S1 : List CLock)) (fun bs w hS => rowA_rok (hS.res _ i1)) fun hrow1 => ?_
 have nchrow1 := hrow1.2
 have hask := mAsk_ok h1
 have hm1 : mLocks (S1.map CLock.abs) = 0 := by rw [hF1]; exact hask.1
 have hw1 := hask.2.2.1
 have hw2 := hask.2.2.2
 have hln5 : S1.length ≤ 5 := by have h9 := (mLocks_bd hm1).1; simpa using h9
 refine Mp ?_ Tryz.call100 (fun bs w hS => tackroomref_lockAt (⟨A1, c1, S1⟩ : Sl CLock) t w (own_locks (hS.res _ i0) (hS.res _ i1) hnm1))
 have hJe : mIdx (fun x : CLock => decide (x.name = t)) S1 = mIdx (fun x : DLock => decide (x.name = t)) (S1.map CLock.abs) := mIdx_map CLock.abs (fun x : DLock => decide (x.name = t)) S1
 rw [hJe]
 have hJb := mIdx_bd (fun x : DLock => decide (x.name = t)) (S1.map CLock.abs)
 generalize hJ : mIdx (fun x : DLock => decide (x.name = t)) (S1.map CLock.abs) = J at hJb ⊢
 rw [List.length_map] at hJb
 refine Md (J < 0) (fun h2 => ?_) fun h2 => ?_
 · have h0J : ¬ 0 ≤ J := by omega
   refine Md ((5 : Int) ≤ (S1.length : Int)) (fun h3 => ?_) fun h3 => ?_
   · refine Mt [.slice A1 S1.length c1, vz 8, vi 0] fun bs w hS => ?_
     have hask0 : mAsk (S1.map CLock.abs) t who = 0 := by rw [hF1]; assumption
     rw [← hF1]
     have hq1 : (S1.getD J.toNat default).abs.holder = (S1.getD J.toNat default).holder := rfl
     have hq2 : (S1.getD J.toNat default).abs.fence = (S1.getD J.toNat default).fence := rfl
     have hq3 : (S1.getD J.toNat default).abs.line = (S1.getD J.toNat default).line.xs := rfl
     have hq4 : (S1.getD J.toNat default).abs.name = (S1.getD J.toNat default).name := rfl
     have hm : mTake (S1.map CLock.abs) t who wait = (S1.map CLock.abs, ⟨8, 0, emp⟩, 0) := by
       grind [mTake, lIdx]
     refine ⟨⟨A1, c1, S1⟩, ?_, ?_, hS.outS (y := (⟨A1, c1, S1⟩ : Sl CLock)) (out_locksG i1 hS.res (fun x hx => ?_))⟩
     · rw [hm] <;> rfl
     · exact (congrArg Prod.fst hm).symm
     · exact ⟨hnm1 x hx, own_inL i0 hS.res hx⟩
   refine Mf ?_ Tryz.call102 (fun bs w hS => ref_withLock (⟨A1, c1, S1⟩ : Sl CLock) (⟨t, who, 1, Sl.nil⟩ : CLock) w (own_locks (hS.res _ i0) (hS.res _ i1) hnm1) (by show S1.length ≤ _; omega))
   rintro y3 hF3
   obtain ⟨A3, c3, rfl⟩ := Sl.of_xs hF3
   refine m_weak (rowA 115 A3 c3 (mIns (fun z : CLock => Op.bytesLess t.toList z.name.toList) (⟨t, who, 1, Sl.nil⟩ : CLock) S1 : List CLock)) (List.Sublist.refl _) (fun w h => h) ?_
   refine Mt [.slice A3 (mIns (fun z : CLock => Op.bytesLess t.toList z.name.toList) (⟨t, who, 1, Sl.nil⟩ : CLock) S1).length c3, .agg #[vi 0, vi 1, ve], vi 0] fun bs w hS => ?_
   have hask0 : mAsk (S1.map CLock.abs) t who = 0 := by rw [hF1]; assumption
   rw [← hF1]
   have hq1 : (S1.getD J.toNat default).abs.holder = (S1.getD J.toNat default).holder := rfl
   have hq2 : (S1.getD J.toNat default).abs.fence = (S1.getD J.toNat default).fence := rfl
   have hq3 : (S1.getD J.toNat default).abs.line = (S1.getD J.toNat default).line.xs := rfl
   have hq4 : (S1.getD J.toNat default).abs.name = (S1.getD J.toNat default).name := rfl
   have hvy : mIns (fun z : CLock => Op.bytesLess t.toList z.name.toList) (⟨t, who, 1, Sl.nil⟩ : CLock) S1 = mIns (fun x : CLock => Op.bytesLess t.toList x.name.toList) (⟨t, who, 1, Sl.nil⟩ : CLock) S1 := rfl
   have hvx := insL_map hvy
   have hm : mTake (S1.map CLock.abs) t who wait = (mIns (fun x : DLock => Op.bytesLess t.toList x.name.toList) ⟨t, who, 1, []⟩ (S1.map CLock.abs), ⟨0, 1, emp⟩, 0) := by
     grind [mTake, lIdx]
   refine ⟨⟨A3, c3, mIns (fun z : CLock => Op.bytesLess t.toList z.name.toList) (⟨t, who, 1, Sl.nil⟩ : CLock) S1⟩, ?_, ?_, hS.outS (y := (⟨A3, c3, mIns (fun z : CLock => Op.bytesLess t.toList z.name.toList) (⟨t, who, 1, Sl.nil⟩ : CLock) S1⟩ : Sl CLock)) (out_locksG i0 hS.res (fun x hx => ?_))⟩
   · rw [hm] <;> rfl
   · exact Eq.trans hvx (congrArg Prod.fst hm).symm
   · rw [hvy] at hx
     rcases ins_mem hx with hx | hx
     · subst hx; exact ⟨ht, Sl.rd_nil _ _⟩
     · exact ⟨hnm1 x hx, own_inL i1 hS.res hx⟩
 have h0J : 0 ≤ J := by omega
 have hk5 := lock_all hm1 (k := J.toNat) (by omega)
 obtain ⟨hk51, hk52, hk53, hk54, hk55, hk56⟩ := hk5
 have hk7 : (S1.getD J.toNat default).line.n = (S1.getD J.toNat default).line.xs.length := rfl
 refine Mi ?_ (pc (pIo 43 J J.toNat S1.length i1) (pFo 45 J.toNat 1 1 i1))
 refine Md ((S1.getD J.toNat default).holder = 0) (fun h4 => ?_) fun h4 => ?_
 · refine Mi ?_ (pc (pIo 49 J J.toNat S1.length i1) (pFo 51 J.toNat 2 1 i1))
   refine Md ((1073741824 : Int) ≤ (S1.getD J.toNat default).fence) (fun h5 => ?_) fun h5 => ?_
   · refine Mt [.slice A1 S1.length c1, vz 8, vi 0] fun bs w hS => ?_
     have hask0 : mAsk (S1.map CLock.abs) t who = 0 := by rw [hF1]; assumption
     rw [← hF1]
     have hq1 : (S1.getD J.toNat default).abs.holder = (S1.getD J.toNat default).holder := rfl
     have hq2 : (S1.getD J.toNat default).abs.fence = (S1.getD J.toNat default).fence := rfl
     have hq3 : (S1.getD J.toNat default).abs.line = (S1.getD J.toNat default).line.xs := rfl
     have hq4 : (S1.getD J.toNat default).abs.name = (S1.getD J.toNat default).name := rfl
     have hlt : lTake (S1.getD J.toNat default).abs who wait = ((S1.getD J.toNat default).abs, ⟨8, 0, emp⟩) := by
       grind [lTake]
     have hm : mTake (S1.map CLock.abs) t who wait = (S1.map CLock.abs, ⟨8, 0, emp⟩, 0) := by
       unfold mTake lIdx
       simp only [hJ, lgetD, List.length_map]
       rw [hlt]
       repeat (first | rw [if_pos (by first | assumption | omega)] | rw [if_neg (by first | assumption | omega | (intro h0; first | exact absurd h0 (by assumption) | (simp_all; done)))])
       all_goals (show ((S1.map CLock.abs).set J.toNat (S1.getD J.toNat default).abs, _, _) = _; rw [← lgetD, set_getD (by rw [List.length_map]; omega)])
     refine ⟨⟨A1, c1, S1⟩, ?_, ?_, hS.outS (y := (⟨A1, c1, S1⟩ : Sl CLock)) (out_locksG i1 hS.res (fun x hx => ?_))⟩
     · rw [hm] <;> rfl
     · exact (congrArg Prod.fst hm).symm
     · exact ⟨hnm1 x hx, own_inL i0 hS.res hx⟩
   refine Mi ?_ (pIo 58 J J.toNat S1.length i1)
   refine m_f1 ?_
   refine Ms J.toNat 1 (⟨(S1.getD J.toNat default).name, who, (S1.getD J.toNat default).fence, (S1.getD J.toNat default).line⟩ : CLock) ?_ (by omega)
   intro L5 hL5 hlL5
   have hgL5 : L5.getD J.toNat default = (⟨(S1.getD J.toNat default).name, who, (S1.getD J.toNat default).fence, (S1.getD J.toNat default).line⟩ : CLock) := by rw [hL5]; exact getD_set (by omega)
   have hbL5 : L5 = List.set S1 J.toNat (⟨(S1.getD J.toNat default).name, who, (S1.getD J.toNat default).fence, (S1.getD J.toNat default).line⟩ : CLock) := by rw [hL5]
   refine Mi ?_ (pc (pIo 62 J J.toNat S1.length i0) (pc (pFk 64 J.toNat 2 1 hgL5 i0) (pc (pR ((S1.getD J.toNat default).fence + 1)) (pIo 66 J J.toNat S1.length i0))))
   refine Ms J.toNat 2 (⟨(S1.getD J.toNat default).name, who, (S1.getD J.toNat default).fence + 1, (S1.getD J.toNat default).line⟩ : CLock) ?_ (by omega) (hg := hgL5)
   intro L6 hL6 hlL6
   have hgL6 : L6.getD J.toNat default = (⟨(S1.getD J.toNat default).name, who, (S1.getD J.toNat default).fence + 1, (S1.getD J.toNat default).line⟩ : CLock) := by rw [hL6]; exact getD_set (by omega)
   have hbL6 : L6 = List.set S1 J.toNat (⟨(S1.getD J.toNat default).name, who, (S1.getD J.toNat default).fence + 1, (S1.getD J.toNat default).line⟩ : CLock) := by rw [hL6, hbL5, List.set_set]
   refine Mi ?_ (pc (pIo 70 J J.toNat S1.length i0) (pFk 72 J.toNat 1 1 hgL6 i0))
   refine Md (who = who) (fun h6 => ?_) fun h6 => ?_
   rotate_left
   · exact absurd rfl h6
   refine Mda 10 [] [0] [rowA 115 A1 c1 (L6 : List CLock), ownL (lineR 3) S1] Tryz_mixed ?_
   refine Mih ?_ (pc (pIo 78 J J.toNat S1.length i0) (pFk 80 J.toNat 2 1 hgL6 i0))
   refine Mz ?_
   refine Mt [.slice A1 S1.length c1, .agg #[vi 0, vi ((S1.getD J.toNat default).fence + 1), ve], vi 0] fun bs w hS => ?_
   have hask0 : mAsk (S1.map CLock.abs) t who = 0 := by rw [hF1]; assumption
   rw [← hF1]
   have hq1 : (S1.getD J.toNat default).abs.holder = (S1.getD J.toNat default).holder := rfl
   have hq2 : (S1.getD J.toNat default).abs.fence = (S1.getD J.toNat default).fence := rfl
   have hq3 : (S1.getD J.toNat default).abs.line = (S1.getD J.toNat default).line.xs := rfl
   have hq4 : (S1.getD J.toNat default).abs.name = (S1.getD J.toNat default).name := rfl
   have hvx := setL_map hbL6
   have hlt : lTake (S1.getD J.toNat default).abs who wait = (((⟨(S1.getD J.toNat default).name, who, (S1.getD J.toNat default).fence + 1, (S1.getD J.toNat default).line⟩ : CLock)).abs, ⟨0, (S1.getD J.toNat default).fence + 1, emp⟩) := by
     unfold lTake
     simp only [hq1, hq2, hq3, hq4]
     repeat (first | rw [if_pos (by first | assumption | omega | exact .inl (by assumption) | exact .inr (by assumption))] | rw [if_neg (by first | assumption | omega | (rintro (h8 | h8) <;> simp_all; done))])
     all_goals rfl
   have hm : mTake (S1.map CLock.abs) t who wait = ((S1.map CLock.abs).set J.toNat ((⟨(S1.getD J.toNat default).name, who, (S1.getD J.toNat default).fence + 1, (S1.getD J.toNat default).line⟩ : CLock)).abs, ⟨0, (S1.getD J.toNat default).fence + 1, emp⟩, 0) := by
     unfold mTake lIdx
     simp only [hJ, lgetD, List.length_map]
     rw [hlt]
     repeat (first | rw [if_pos (by first | assumption | omega)] | rw [if_neg (by first | assumption | omega | (intro h0; first | exact absurd h0 (by assumption) | (simp_all; done)))])
     all_goals rfl
   refine ⟨⟨A1, c1, L6⟩, ?_, ?_, hS.outS (y := (⟨A1, c1, L6⟩ : Sl CLock)) (out_locksG i0 hS.res (fun x hx => ?_))⟩
   · have hll : S1.length = L6.length := by rw [hbL6, List.length_set]
     rw [hm]
     exact congrArg (fun q => Ending.returned (.tuple #[.slice A1 q c1, .agg #[vi 0, vi ((S1.getD J.toNat default).fence + 1), ve], vi 0])) hll
   · exact Eq.trans hvx (congrArg Prod.fst hm).symm
   · rw [hbL6] at hx
     rcases mem_set hx with hx | hx
     · subst hx; exact ⟨hnm1 (S1.getD J.toNat default) (mem_of_getD (L := S1) (i := J.toNat) (by omega)), own_inL (x := (S1.getD J.toNat default)) i1 hS.res (mem_of_getD (L := S1) (i := J.toNat) (by omega))⟩
     · exact ⟨hnm1 x hx, own_inL i1 hS.res hx⟩
 refine Mi ?_ (pc (pIo 70 J J.toNat S1.length i1) (pFo 72 J.toNat 1 1 i1))
 refine Md ((S1.getD J.toNat default).holder = who) (fun h7 => ?_) fun h7 => ?_
 · refine Mda 10 [] [0] [ownL (lineR 3) S1, rowA 115 A1 c1 (S1 : List CLock)] Tryz_mixed ?_
   refine Mih ?_ (pc (pIo 78 J J.toNat S1.length i1) (pFo 80 J.toNat 2 1 i1))
   refine Mz ?_
   refine Mt [.slice A1 S1.length c1, .agg #[vi 0, vi (S1.getD J.toNat default).fence, ve], vi 0] fun bs w hS => ?_
   have hask0 : mAsk (S1.map CLock.abs) t who = 0 := by rw [hF1]; assumption
   rw [← hF1]
   have hq1 : (S1.getD J.toNat default).abs.holder = (S1.getD J.toNat default).holder := rfl
   have hq2 : (S1.getD J.toNat default).abs.fence = (S1.getD J.toNat default).fence := rfl
   have hq3 : (S1.getD J.toNat default).abs.line = (S1.getD J.toNat default).line.xs := rfl
   have hq4 : (S1.getD J.toNat default).abs.name = (S1.getD J.toNat default).name := rfl
   have hlt : lTake (S1.getD J.toNat default).abs who wait = ((S1.getD J.toNat default).abs, ⟨0, (S1.getD J.toNat default).fence, emp⟩) := by
     grind [lTake]
   have hm : mTake (S1.map CLock.abs) t who wait = (S1.map CLock.abs, ⟨0, (S1.getD J.toNat default).fence, emp⟩, 0) := by
     unfold mTake lIdx
     simp only [hJ, lgetD, List.length_map]
     rw [hlt]
     repeat (first | rw [if_pos (by first | assumption | omega)] | rw [if_neg (by first | assumption | omega | (intro h0; first | exact absurd h0 (by assumption) | (simp_all; done)))])
     all_goals (show ((S1.map CLock.abs).set J.toNat (S1.getD J.toNat default).abs, _, _) = _; rw [← lgetD, set_getD (by rw [List.length_map]; omega)])
   refine ⟨⟨A1, c1, S1⟩, ?_, ?_, hS.outS (y := (⟨A1, c1, S1⟩ : Sl CLock)) (out_locksG i1 hS.res (fun x hx => ?_))⟩
   · rw [hm] <;> rfl
   · exact (congrArg Prod.fst hm).symm
   · exact ⟨hnm1 x hx, own_inL i0 hS.res hx⟩
 refine Mi ?_ (pc (pIo 84 J J.toNat S1.length i1) (pFo 86 J.toNat 1 1 i1))
 refine Mb wait (fun h8 => ?_) fun h8 => ?_
 rotate_left
 · refine Mda 5 [] [0] [ownL (lineR 3) S1, rowA 115 A1 c1 (S1 : List CLock)] Tryz_mixed ?_
   refine Mz ?_
   refine Mt [.slice A1 S1.length c1, .agg #[vi 10, vi (S1.getD J.toNat default).holder, ve], vi 0] fun bs w hS => ?_
   have hask0 : mAsk (S1.map CLock.abs) t who = 0 := by rw [hF1]; assumption
   rw [← hF1]
   have hq1 : (S1.getD J.toNat default).abs.holder = (S1.getD J.toNat default).holder := rfl
   have hq2 : (S1.getD J.toNat default).abs.fence = (S1.getD J.toNat default).fence := rfl
   have hq3 : (S1.getD J.toNat default).abs.line = (S1.getD J.toNat default).line.xs := rfl
   have hq4 : (S1.getD J.toNat default).abs.name = (S1.getD J.toNat default).name := rfl
   have hlt : lTake (S1.getD J.toNat default).abs who wait = ((S1.getD J.toNat default).abs, ⟨10, (S1.getD J.toNat default).holder, emp⟩) := by
     grind [lTake]
   have hm : mTake (S1.map CLock.abs) t who wait = (S1.map CLock.abs, ⟨10, (S1.getD J.toNat default).holder, emp⟩, 0) := by
     unfold mTake lIdx
     simp only [hJ, lgetD, List.length_map]
     rw [hlt]
     repeat (first | rw [if_pos (by first | assumption | omega)] | rw [if_neg (by first | assumption | omega | (intro h0; first | exact absurd h0 (by assumption) | (simp_all; done)))])
     all_goals (show ((S1.map CLock.abs).set J.toNat (S1.getD J.toNat default).abs, _, _) = _; rw [← lgetD, set_getD (by rw [List.length_map]; omega)])
   refine ⟨⟨A1, c1, S1⟩, ?_, ?_, hS.outS (y := (⟨A1, c1, S1⟩ : Sl CLock)) (out_locksG i1 hS.res (fun x hx => ?_))⟩
   · rw [hm] <;> rfl
   · exact (congrArg Prod.fst hm).symm
   · exact ⟨hnm1 x hx, own_inL i0 hS.res hx⟩
 refine Mi ?_ (pc (pIo 92 J J.toNat S1.length i1) (pFo 94 J.toNat 3 1 i1))
 refine Mp ?_ Tryz.call103 (fun bs w hS => ref_has (S1.getD J.toNat default).line (S1.getD J.toNat default).line.n who w (own_eltL (hS.res _ i0) hnm1 (mem_of_getD (i := J.toNat) (by omega))).2 (by omega))
 have hlh : (((S1.getD J.toNat default).line.xs.take (S1.getD J.toNat default).line.n).any fun z => decide (z = who)) = lHas (S1.getD J.toNat default).abs who := by rw [take_all (Nat.le_refl _)]; rfl
 rw [hlh]
 refine Mbn (lHas (S1.getD J.toNat default).abs who) (fun h9 => ?_) fun h9 => ?_
 · refine Mda 5 [] [0] [ownL (lineR 3) S1, rowA 115 A1 c1 (S1 : List CLock)] Tryz_mixed ?_
   refine Mz ?_
   refine Mt [.slice A1 S1.length c1, .agg #[vi 10, vi (S1.getD J.toNat default).holder, ve], vi 0] fun bs w hS => ?_
   have hask0 : mAsk (S1.map CLock.abs) t who = 0 := by rw [hF1]; assumption
   rw [← hF1]
   have hq1 : (S1.getD J.toNat default).abs.holder = (S1.getD J.toNat default).holder := rfl
   have hq2 : (S1.getD J.toNat default).abs.fence = (S1.getD J.toNat default).fence := rfl
   have hq3 : (S1.getD J.toNat default).abs.line = (S1.getD J.toNat default).line.xs := rfl
   have hq4 : (S1.getD J.toNat default).abs.name = (S1.getD J.toNat default).name := rfl
   have hlt : lTake (S1.getD J.toNat default).abs who wait = ((S1.getD J.toNat default).abs, ⟨10, (S1.getD J.toNat default).holder, emp⟩) := by
     grind [lTake]
   have hm : mTake (S1.map CLock.abs) t who wait = (S1.map CLock.abs, ⟨10, (S1.getD J.toNat default).holder, emp⟩, 0) := by
     unfold mTake lIdx
     simp only [hJ, lgetD, List.length_map]
     rw [hlt]
     repeat (first | rw [if_pos (by first | assumption | omega)] | rw [if_neg (by first | assumption | omega | (intro h0; first | exact absurd h0 (by assumption) | (simp_all; done)))])
     all_goals (show ((S1.map CLock.abs).set J.toNat (S1.getD J.toNat default).abs, _, _) = _; rw [← lgetD, set_getD (by rw [List.length_map]; omega)])
   refine ⟨⟨A1, c1, S1⟩, ?_, ?_, hS.outS (y := (⟨A1, c1, S1⟩ : Sl CLock)) (out_locksG i1 hS.res (fun x hx => ?_))⟩
   · rw [hm] <;> rfl
   · exact (congrArg Prod.fst hm).symm
   · exact ⟨hnm1 x hx, own_inL i0 hS.res hx⟩
 refine Mi ?_ (pc (pIo 101 J J.toNat S1.length i1) (pFo 103 J.toNat 3 1 i1))
 refine Md ((3 : Int) ≤ (((S1.getD J.toNat default).line.n : Nat) : Int)) (fun h10 => ?_) fun h10 => ?_
 · refine Mt [.slice A1 S1.length c1, vz 8, vi 0] fun bs w hS => ?_
   have hask0 : mAsk (S1.map CLock.abs) t who = 0 := by rw [hF1]; assumption
   rw [← hF1]
   have hq1 : (S1.getD J.toNat default).abs.holder = (S1.getD J.toNat default).holder := rfl
   have hq2 : (S1.getD J.toNat default).abs.fence = (S1.getD J.toNat default).fence := rfl
   have hq3 : (S1.getD J.toNat default).abs.line = (S1.getD J.toNat default).line.xs := rfl
   have hq4 : (S1.getD J.toNat default).abs.name = (S1.getD J.toNat default).name := rfl
   have hlt : lTake (S1.getD J.toNat default).abs who wait = ((S1.getD J.toNat default).abs, ⟨8, 0, emp⟩) := by
     grind [lTake]
   have hm : mTake (S1.map CLock.abs) t who wait = (S1.map CLock.abs, ⟨8, 0, emp⟩, 0) := by
     unfold mTake lIdx
     simp only [hJ, lgetD, List.length_map]
     rw [hlt]
     repeat (first | rw [if_pos (by first | assumption | omega)] | rw [if_neg (by first | assumption | omega | (intro h0; first | exact absurd h0 (by assumption) | (simp_all; done)))])
     all_goals (show ((S1.map CLock.abs).set J.toNat (S1.getD J.toNat default).abs, _, _) = _; rw [← lgetD, set_getD (by rw [List.length_map]; omega)])
   refine ⟨⟨A1, c1, S1⟩, ?_, ?_, hS.outS (y := (⟨A1, c1, S1⟩ : Sl CLock)) (out_locksG i1 hS.res (fun x hx => ?_))⟩
   · rw [hm] <;> rfl
   · exact (congrArg Prod.fst hm).symm
   · exact ⟨hnm1 x hx, own_inL i0 hS.res hx⟩
 refine m_part2 (rowA 3 (S1.getD J.toNat default).line.A (S1.getD J.toNat default).line.c ((S1.getD J.toNat default).line.xs : List Int)) (ownL (lineR 3) (List.eraseIdx S1 J.toNat)) (ownL_get_fp (lineR 3) (i := J.toNat) (by omega)) (fun w h => ownL_get_p (lineR 3) (i := J.toNat) (by omega) w h) ?_
 refine Mi ?_ (pc (pIo 112 J J.toNat S1.length i2) (pFo 114 J.toNat 3 1 i2))
 refine M1 ?_
 refine Mal (α := Int) 8 ([who]) ?_
 intro A7 c7
 refine Mi ?_ (pIo 118 J J.toNat S1.length i2)
 refine m_f2 ?_
 refine Ms J.toNat 3 (⟨(S1.getD J.toNat default).name, (S1.getD J.toNat default).holder, (S1.getD J.toNat default).fence, ⟨A7, c7, (S1.getD J.toNat default).line.xs ++ [who]⟩⟩ : CLock) ?_ (by omega)
 intro L8 hL8 hlL8
 have hgL8 : L8.getD J.toNat default = (⟨(S1.getD J.toNat default).name, (S1.getD J.toNat default).holder, (S1.getD J.toNat default).fence, ⟨A7, c7, (S1.getD J.toNat default).line.xs ++ [who]⟩⟩ : CLock) := by rw [hL8]; exact getD_set (by omega)
 have hbL8 : L8 = List.set S1 J.toNat (⟨(S1.getD J.toNat default).name, (S1.getD J.toNat default).holder, (S1.getD J.toNat default).fence, ⟨A7, c7, (S1.getD J.toNat default).line.xs ++ [who]⟩⟩ : CLock) := by rw [hL8]
 refine Mda 5 [] [0] [rowA 115 A1 c1 (L8 : List CLock), rowA 3 A7 c7 ((S1.getD J.toNat default).line.xs ++ [who] : List Int), ownL (lineR 3) (List.eraseIdx S1 J.toNat)] Tryz_mixed ?_
 refine Mz ?_
 refine Mt [.slice A1 S1.length c1, .agg #[vi 10, vi (S1.getD J.toNat default).holder, ve], vi 0] fun bs w hS => ?_
 have hask0 : mAsk (S1.map CLock.abs) t who = 0 := by rw [hF1]; assumption
 rw [← hF1]
 have hq1 : (S1.getD J.toNat default).abs.holder = (S1.getD J.toNat default).holder := rfl
 have hq2 : (S1.getD J.toNat default).abs.fence = (S1.getD J.toNat default).fence := rfl
 have hq3 : (S1.getD J.toNat default).abs.line = (S1.getD J.toNat default).line.xs := rfl
 have hq4 : (S1.getD J.toNat default).abs.name = (S1.getD J.toNat default).name := rfl
 have hvx := setL_map hbL8
 have hlt : lTake (S1.getD J.toNat default).abs who wait = (((⟨(S1.getD J.toNat default).name, (S1.getD J.toNat default).holder, (S1.getD J.toNat default).fence, ⟨A7, c7, (S1.getD J.toNat default).line.xs ++ [who]⟩⟩ : CLock)).abs, ⟨10, (S1.getD J.toNat default).holder, emp⟩) := by
   unfold lTake
   simp only [hq1, hq2, hq3, hq4]
   repeat (first | rw [if_pos (by first | assumption | omega | exact .inl (by assumption) | exact .inr (by assumption))] | rw [if_neg (by first | assumption | omega | (rintro (h8 | h8) <;> simp_all; done))])
   all_goals rfl
 have hm : mTake (S1.map CLock.abs) t who wait = ((S1.map CLock.abs).set J.toNat ((⟨(S1.getD J.toNat default).name, (S1.getD J.toNat default).holder, (S1.getD J.toNat default).fence, ⟨A7, c7, (S1.getD J.toNat default).line.xs ++ [who]⟩⟩ : CLock)).abs, ⟨10, (S1.getD J.toNat default).holder, emp⟩, 0) := by
   unfold mTake lIdx
   simp only [hJ, lgetD, List.length_map]
   rw [hlt]
   repeat (first | rw [if_pos (by first | assumption | omega)] | rw [if_neg (by first | assumption | omega | (intro h0; first | exact absurd h0 (by assumption) | (simp_all; done)))])
   all_goals rfl
 refine ⟨⟨A1, c1, L8⟩, ?_, ?_, hS.outS (y := (⟨A1, c1, L8⟩ : Sl CLock)) (out_locksG i0 hS.res (fun x hx => ?_))⟩
 · have hll : S1.length = L8.length := by rw [hbL8, List.length_set]
   rw [hm]
   exact congrArg (fun q => Ending.returned (.tuple #[.slice A1 q c1, .agg #[vi 10, vi (S1.getD J.toNat default).holder, ve], vi 0])) hll
 · exact Eq.trans hvx (congrArg Prod.fst hm).symm
 · rw [hbL8] at hx
   rcases mem_set_ne hx with hx | hx
   · subst hx; exact ⟨hnm1 (S1.getD J.toNat default) (mem_of_getD (L := S1) (i := J.toNat) (by omega)), allR_row i1 (hS.res _ i1) (fun _ _ => trivial)⟩
   · exact ⟨hnm1 x (List.mem_of_mem_eraseIdx hx), own_inL i2 hS.res hx⟩

theorem lock_Free {B : Nat → Prop} (s : Sl CLock) (t : ByteArray) (who : Int) (w : World) (hs : s.rd B w) (ht : t.size ≤ 9223372036854775807) : Calls Tryz.prog 85 #[.slice s.A s.n s.c, vs t, vi who] w fun e w' => ∃ y : Sl CLock, e = .returned (.tuple #[.slice y.A y.n y.c, ((mFree (s.xs.map CLock.abs) t who).2.1).val, vi (mFree (s.xs.map CLock.abs) t who).2.2]) ∧ y.xs.map CLock.abs = (mFree (s.xs.map CLock.abs) t who).1 ∧ FreshS w w' y := by
 have oks := Sl.rd.ok hs
 have ncs := Sl.ok.nc oks
 have hns : s.n = s.xs.length := rfl
 refine M0 ?_ Tryz.func85
 by_cases h1 : mAsk (s.xs.map CLock.abs) t who = 0
 rotate_left
 · refine Mp ?_ Tryz.call148 (fun bs w hS => (lock_begin s t who w (Sl.rd.kp hs hS.kp) (by first | assumption | omega | (simp only [emp_size]; omega))).mono (fun e w' h => (h.resolve_right (fun h9 => h1 h9.1)).2))
   refine My false true ?_ (df h1)
   refine Mt [vn, vz 0, vi (mAsk (s.xs.map CLock.abs) t who)] fun bs w hS => ?_
   have hm : mFree (s.xs.map CLock.abs) t who = ([], zRep, mAsk (s.xs.map CLock.abs) t who) := by
     grind [mFree]
   refine ⟨Sl.nil, ?_, ?_, hS.outS (Sl.rd_nil _ _)⟩
   · rw [hm] <;> rfl
   · rw [hm] <;> rfl
 refine Mf ?_ Tryz.call148 (fun bs w hS => (lock_begin s t who w (Sl.rd.kp hs hS.kp) (by first | assumption | omega | (simp only [emp_size]; omega))).mono (fun e w' h => (h.resolve_left (fun h9 => h9.1 h1)).2))
 rintro y1 hF1
 refine m_split2 ?_
 obtain ⟨A1, c1, S1⟩ := y1
 have hF1 : S1.map CLock.abs = s.xs.map CLock.abs := hF1
 refine m_perm (R' := [ownL (lineR 3) S1, rowA 115 A1 c1 (S1 : List CLock)]) (List.Perm.refl _) ?_
 have hnm1 := locks_names (y := (⟨A1, c1, S1⟩ : Sl CLock)) hs hF1
 have hlen1 : S1.length = s.xs.length := by simpa using congrArg List.length hF1
 refine m_know (F := ∀ i, i < S1.length → Rds.ok (S1.getD i default)) (fun bs w hS i hi => Rds.okof (B := anyB) (w := w) (own_eltL (hS.res _ i0) hnm1 (mem_of_getD hi))) fun okown1 => ?_
 refine m_know (F := RowOk A1 c1 (S1 : List CLock)) (fun bs w hS => rowA_rok (hS.res _ i1)) fun hrow1 => ?_
 have nchrow1 := hrow1.2
 have hask := mAsk_ok h1
 have hm1 : mLocks (S1.map CLock.abs) = 0 := by rw [hF1]; exact hask.1
 have hw1 := hask.2.2.1
 have hw2 := hask.2.2.2
 have hln5 : S1.length ≤ 5 := by have h9 := (mLocks_bd hm1).1; simpa using h9
 have hbsS : mBS (fun x : CLock => cmpS x.name t) s.xs = mBS (fun x : CLock => cmpS x.name t) S1 := mBS_abs (L := s.xs) (L2 := S1) (f := CLock.abs) (c := fun x : DLock => cmpS x.name t) rfl hF1.symm
 have hbfS : mBSf (fun x : CLock => cmpS x.name t) s.xs = mBSf (fun x : CLock => cmpS x.name t) S1 := mBSf_abs (L := s.xs) (L2 := S1) (f := CLock.abs) (c := fun x : DLock => cmpS x.name t) rfl hF1.symm
 rw [hbsS, hbfS]
 have hbs := bsf_lock (L := S1) hm1 t
 have hJb := mIdx_bd (fun x : DLock => decide (x.name = t)) (S1.map CLock.abs)
 rw [List.length_map] at hJb
 generalize hJ : mIdx (fun x : DLock => decide (x.name = t)) (S1.map CLock.abs) = J at hbs hJb
 have hkl := mBS_le (fun x : CLock => cmpS x.name t) S1
 generalize hk : mBS (fun x : CLock => cmpS x.name t) S1 = k at hbs hkl ⊢
 generalize hf : mBSf (fun x : CLock => cmpS x.name t) S1 = fb at hbs ⊢
 refine Mq 24 false ?_ rfl
 refine Mbn fb (fun h2 => ?_) fun h2 => ?_
 rotate_left
 · have h0J := of_decide_eq_false (hbs.1.symm.trans h2)
   refine Mt [.slice A1 S1.length c1, vz 6, vi 0] fun bs w hS => ?_
   have hask0 : mAsk (S1.map CLock.abs) t who = 0 := by rw [hF1]; assumption
   rw [← hF1]
   have hq1 : (S1.getD k default).abs.holder = (S1.getD k default).holder := rfl
   have hq2 : (S1.getD k default).abs.fence = (S1.getD k default).fence := rfl
   have hq3 : (S1.getD k default).abs.line = (S1.getD k default).line.xs := rfl
   have hq4 : (S1.getD k default).abs.name = (S1.getD k default).name := rfl
   have hm : mFree (S1.map CLock.abs) t who = (S1.map CLock.abs, ⟨6, 0, emp⟩, 0) := by
     grind [mFree, lIdx]
   refine ⟨⟨A1, c1, S1⟩, ?_, ?_, hS.outS (y := (⟨A1, c1, S1⟩ : Sl CLock)) (out_locksG i1 hS.res (fun x hx => ?_))⟩
   · rw [hm] <;> rfl
   · exact (congrArg Prod.fst hm).symm
   · exact ⟨hnm1 x hx, own_inL i0 hS.res hx⟩
 have hkJ := hbs.2 h2
 subst hkJ
 have hk5 := lock_all hm1 (k := k) (by omega)
 obtain ⟨hk51, hk52, hk53, hk54, hk55, hk56⟩ := hk5
 have hk7 : (S1.getD k default).line.n = (S1.getD k default).line.xs.length := rfl
 refine Mi ?_ (pc (pIo 33 (k : Int) k S1.length i1) (pFo 37 k 3 1 i1))
 refine Mp ?_ Tryz.call138 (fun bs w hS => idx_ints (S1.getD k default).line (S1.getD k default).line.n who w (own_eltL (hS.res _ i0) hnm1 (mem_of_getD (i := k) (by omega))).2 (by omega))
 have hix : mIdx (fun z => decide (z = who)) ((S1.getD k default).line.xs.take (S1.getD k default).line.n) = mIdx (fun z => decide (z = who)) (S1.getD k default).line.xs := by rw [take_all (Nat.le_refl _)]
 rw [hix]
 have hIb := mIdx_bd (fun z => decide (z = who)) (S1.getD k default).line.xs
 generalize hI : mIdx (fun z => decide (z = who)) (S1.getD k default).line.xs = I at hIb ⊢
 refine Mi ?_ (pFo 50 k 1 1 i1)
 refine Md ((S1.getD k default).holder = who) (fun h3 => ?_) fun h3 => ?_
 · refine m_f1 ?_
   refine Mtu ?_ Tryz.call140 (fun bs w hS => lock_pass (B := (· ∈ (lineR 3 (S1.getD k default)).fp)) A1 c1 S1 k w (hS.res _ i0) hS.head1.2.2 (by omega) ⟨hnm1 _ (mem_of_getD (L := S1) (by omega)), Rr (hS.res _ i1 (S1.getD k default) (mem_of_getD (L := S1) (by omega))) (fun b hb => hb) (fun _ _ => trivial)⟩ (fun b hb => hS.disj (r2 := ownL (lineR 3) S1) i0 b (List.mem_flatMap.2 ⟨(S1.getD k default), mem_of_getD (L := S1) (by omega), hb⟩)) ⟨by omega, by omega⟩)
   rintro _ _
   obtain ⟨L4, hL4⟩ : ∃ M : List CLock, M = S1.set k (passC (S1.getD k default)) := ⟨_, rfl⟩
   rw [← hL4]
   have hlL4 : L4.length = S1.length := by rw [hL4, List.length_set]
   have hgL4 : L4.getD k default = passC (S1.getD k default) := by rw [hL4]; exact getD_set (by omega)
   refine Mda 9 [] [0] [rowA 115 A1 c1 (L4 : List CLock), ownL (lineR 3) S1] Tryz_mixed ?_
   refine Mih ?_ (pFk 73 k 1 1 hgL4 i0)
   refine Mz ?_
   refine Mt [.slice A1 S1.length c1, .agg #[vi 0, vi (passC (S1.getD k default)).holder, ve], vi 0] fun bs w hS => ?_
   have hask0 : mAsk (S1.map CLock.abs) t who = 0 := by rw [hF1]; assumption
   rw [← hF1]
   have hq1 : (S1.getD k default).abs.holder = (S1.getD k default).holder := rfl
   have hq2 : (S1.getD k default).abs.fence = (S1.getD k default).fence := rfl
   have hq3 : (S1.getD k default).abs.line = (S1.getD k default).line.xs := rfl
   have hq4 : (S1.getD k default).abs.name = (S1.getD k default).name := rfl
   have hvx := setL_map hL4
   have hpa := passC_abs (S1.getD k default)
   rw [hpa] at hvx
   have hlt : lFree (S1.getD k default).abs who = ((mPass (S1.getD k default).abs), ⟨0, (passC (S1.getD k default)).holder, emp⟩) := by
     unfold lFree
     simp only [hq1, hq2, hq3, hq4]
     repeat (first | rw [if_pos (by first | assumption | omega)] | rw [if_neg (by first | assumption | omega | (rw [hlh]; simp; done) | (intro h0; simp_all; done))])
     all_goals first | rfl | exact congrArg (fun h : Int => (mPass (S1.getD k default).abs, (⟨0, h, emp⟩ : DReply))) (congrArg DLock.holder hpa).symm
   have hm : mFree (S1.map CLock.abs) t who = ((S1.map CLock.abs).set k (mPass (S1.getD k default).abs), ⟨0, (passC (S1.getD k default)).holder, emp⟩, 0) := by
     unfold mFree lIdx
     simp only [hJ, Int.toNat_natCast, lgetD, List.length_map]
     rw [hlt]
     repeat (first | rw [if_pos (by first | assumption | omega)] | rw [if_neg (by first | assumption | omega | (intro h0; first | exact absurd h0 (by assumption) | (simp_all; done)))])
     all_goals rfl
   refine ⟨⟨A1, c1, L4⟩, ?_, ?_, hS.outS (y := (⟨A1, c1, L4⟩ : Sl CLock)) (out_locksG i0 hS.res (fun x hx => ?_))⟩
   · have hll : S1.length = L4.length := by rw [hL4, List.length_set]
     rw [hm]
     exact congrArg (fun q => Ending.returned (.tuple #[.slice A1 q c1, .agg #[vi 0, vi (passC (S1.getD k default)).holder, ve], vi 0])) hll
   · exact Eq.trans hvx (congrArg Prod.fst hm).symm
   · rw [hL4] at hx
     rcases mem_set hx with hx | hx
     · subst hx; have hP := passC_in i1 hS.res (x := (S1.getD k default)) (mem_of_getD (L := S1) (i := k) (by omega)); exact ⟨by rw [hP.1]; exact hnm1 (S1.getD k default) (mem_of_getD (L := S1) (i := k) (by omega)), hP.2⟩
     · exact ⟨hnm1 x hx, own_inL i1 hS.res hx⟩
 refine Md ((0 : Int) ≤ I) (fun h4 => ?_) fun h4 => ?_
 rotate_left
 · refine Mda 9 [] [0] [ownL (lineR 3) S1, rowA 115 A1 c1 (S1 : List CLock)] Tryz_mixed ?_
   refine Mih ?_ (pFo 44 k 1 1 i1)
   refine Mz ?_
   refine Mt [.slice A1 S1.length c1, .agg #[vi 10, vi (S1.getD k default).holder, ve], vi 0] fun bs w hS => ?_
   have hask0 : mAsk (S1.map CLock.abs) t who = 0 := by rw [hF1]; assumption
   rw [← hF1]
   have hq1 : (S1.getD k default).abs.holder = (S1.getD k default).holder := rfl
   have hq2 : (S1.getD k default).abs.fence = (S1.getD k default).fence := rfl
   have hq3 : (S1.getD k default).abs.line = (S1.getD k default).line.xs := rfl
   have hq4 : (S1.getD k default).abs.name = (S1.getD k default).name := rfl
   have hlh : lHas (S1.getD k default).abs who = false := by rw [has_idx]; show decide (0 ≤ mIdx _ (S1.getD k default).line.xs) = _; rw [hI]; exact decide_eq_false h4
   have hlt : lFree (S1.getD k default).abs who = ((S1.getD k default).abs, ⟨10, (S1.getD k default).holder, emp⟩) := by
     grind [lFree]
   have hm : mFree (S1.map CLock.abs) t who = (S1.map CLock.abs, ⟨10, (S1.getD k default).holder, emp⟩, 0) := by
     unfold mFree lIdx
     simp only [hJ, Int.toNat_natCast, lgetD, List.length_map]
     rw [hlt]
     repeat (first | rw [if_pos (by first | assumption | omega)] | rw [if_neg (by first | assumption | omega | (intro h0; first | exact absurd h0 (by assumption) | (simp_all; done)))])
     all_goals (show ((S1.map CLock.abs).set k (S1.getD k default).abs, _, _) = _; rw [← lgetD, set_getD (by rw [List.length_map]; omega)])
   refine ⟨⟨A1, c1, S1⟩, ?_, ?_, hS.outS (y := (⟨A1, c1, S1⟩ : Sl CLock)) (out_locksG i1 hS.res (fun x hx => ?_))⟩
   · rw [hm] <;> rfl
   · exact (congrArg Prod.fst hm).symm
   · exact ⟨hnm1 x hx, own_inL i0 hS.res hx⟩
 refine m_part2 (rowA 3 (S1.getD k default).line.A (S1.getD k default).line.c ((S1.getD k default).line.xs : List Int)) (ownL (lineR 3) (List.eraseIdx S1 k)) (ownL_get_fp (lineR 3) (i := k) (by omega)) (fun w h => ownL_get_p (lineR 3) (i := k) (by omega) w h) ?_
 refine Mi ?_ (pc (pFo 62 k 3 1 i2) (pR (I + 1)))
 refine Mtu ?_ (σ := Unit) (v := fun _ => .slice (S1.getD k default).line.A ((S1.getD k default).line.xs.take I.toNat ++ (S1.getD k default).line.xs.drop (I.toNat + 1)).length (S1.getD k default).line.c) (F := fun _ => True) (r := fun _ => rowA 3 (S1.getD k default).line.A (S1.getD k default).line.c ((S1.getD k default).line.xs.take I.toNat ++ (S1.getD k default).line.xs.drop (I.toNat + 1) : List Int)) (vs := fun bs => [.slice (S1.getD k default).line.A (S1.getD k default).line.n (S1.getD k default).line.c, vi I, vi (I + 1)]) Tryz.call139 (fun bs w hS => (delR_Int (S1.getD k default).line.A (S1.getD k default).line.c (S1.getD k default).line.xs I.toNat (I.toNat + 1) _ _ w (hS.res _ i0) hS.head1.2.2 (by omega) (by omega) (by first | omega | (simp only [Sl.n] at *; omega)) (by first | omega | (simp only [Sl.n] at *; omega))).mono (fun e w' ⟨h1, h2⟩ => ⟨(), h1, trivial, h2⟩))
 rintro _ _
 refine m_f2 ?_
 refine Ms k 3 (⟨(S1.getD k default).name, (S1.getD k default).holder, (S1.getD k default).fence, ⟨(S1.getD k default).line.A, (S1.getD k default).line.c, (S1.getD k default).line.xs.take I.toNat ++ (S1.getD k default).line.xs.drop (I.toNat + 1)⟩⟩ : CLock) ?_ (by omega)
 intro L6 hL6 hlL6
 have hgL6 : L6.getD k default = (⟨(S1.getD k default).name, (S1.getD k default).holder, (S1.getD k default).fence, ⟨(S1.getD k default).line.A, (S1.getD k default).line.c, (S1.getD k default).line.xs.take I.toNat ++ (S1.getD k default).line.xs.drop (I.toNat + 1)⟩⟩ : CLock) := by rw [hL6]; exact getD_set (by omega)
 have hbL6 : L6 = List.set S1 k (⟨(S1.getD k default).name, (S1.getD k default).holder, (S1.getD k default).fence, ⟨(S1.getD k default).line.A, (S1.getD k default).line.c, (S1.getD k default).line.xs.take I.toNat ++ (S1.getD k default).line.xs.drop (I.toNat + 1)⟩⟩ : CLock) := by rw [hL6]
 refine Mda 9 [] [0] [rowA 115 A1 c1 (L6 : List CLock), rowA 3 (S1.getD k default).line.A (S1.getD k default).line.c ((S1.getD k default).line.xs.take I.toNat ++ (S1.getD k default).line.xs.drop (I.toNat + 1) : List Int), ownL (lineR 3) (List.eraseIdx S1 k)] Tryz_mixed ?_
 refine Mih ?_ (pFk 73 k 1 1 hgL6 i0)
 refine Mz ?_
 refine Mt [.slice A1 S1.length c1, .agg #[vi 0, vi (S1.getD k default).holder, ve], vi 0] fun bs w hS => ?_
 have hask0 : mAsk (S1.map CLock.abs) t who = 0 := by rw [hF1]; assumption
 rw [← hF1]
 have hq1 : (S1.getD k default).abs.holder = (S1.getD k default).holder := rfl
 have hq2 : (S1.getD k default).abs.fence = (S1.getD k default).fence := rfl
 have hq3 : (S1.getD k default).abs.line = (S1.getD k default).line.xs := rfl
 have hq4 : (S1.getD k default).abs.name = (S1.getD k default).name := rfl
 have hvx := setL_map hbL6
 have hlh : lHas (S1.getD k default).abs who = true := by rw [has_idx]; show decide (0 ≤ mIdx _ (S1.getD k default).line.xs) = _; rw [hI]; exact decide_eq_true h4
 have hul : (S1.getD k default).line.xs.take I.toNat ++ (S1.getD k default).line.xs.drop (I.toNat + 1) = unline (S1.getD k default).line.xs who := line_one' (d := (S1.getD k default).abs) hk53 (i := I.toNat) (by show mIdx _ (S1.getD k default).line.xs = _; rw [hI]; omega) rfl
 rw [show ((⟨(S1.getD k default).name, (S1.getD k default).holder, (S1.getD k default).fence, ⟨(S1.getD k default).line.A, (S1.getD k default).line.c, (S1.getD k default).line.xs.take I.toNat ++ (S1.getD k default).line.xs.drop (I.toNat + 1)⟩⟩ : CLock)).abs = (⟨(S1.getD k default).name, (S1.getD k default).holder, (S1.getD k default).fence, unline (S1.getD k default).line.xs who⟩ : DLock) from congrArg (fun l => (⟨(S1.getD k default).name, (S1.getD k default).holder, (S1.getD k default).fence, l⟩ : DLock)) hul] at hvx
 have hlt : lFree (S1.getD k default).abs who = (⟨(S1.getD k default).name, (S1.getD k default).holder, (S1.getD k default).fence, unline (S1.getD k default).line.xs who⟩, ⟨0, (S1.getD k default).holder, emp⟩) := by
   grind [lFree]
 have hm : mFree (S1.map CLock.abs) t who = ((S1.map CLock.abs).set k ⟨(S1.getD k default).name, (S1.getD k default).holder, (S1.getD k default).fence, unline (S1.getD k default).line.xs who⟩, ⟨0, (S1.getD k default).holder, emp⟩, 0) := by
   unfold mFree lIdx
   simp only [hJ, Int.toNat_natCast, lgetD, List.length_map]
   rw [hlt]
   repeat (first | rw [if_pos (by first | assumption | omega)] | rw [if_neg (by first | assumption | omega | (intro h0; first | exact absurd h0 (by assumption) | (simp_all; done)))])
   all_goals rfl
 refine ⟨⟨A1, c1, L6⟩, ?_, ?_, hS.outS (y := (⟨A1, c1, L6⟩ : Sl CLock)) (out_locksG i0 hS.res (fun x hx => ?_))⟩
 · have hll : S1.length = L6.length := by rw [hbL6, List.length_set]
   rw [hm]
   exact congrArg (fun q => Ending.returned (.tuple #[.slice A1 q c1, .agg #[vi 0, vi (S1.getD k default).holder, ve], vi 0])) hll
 · exact Eq.trans hvx (congrArg Prod.fst hm).symm
 · rw [hbL6] at hx
   rcases mem_set_ne hx with hx | hx
   · subst hx; exact ⟨hnm1 (S1.getD k default) (mem_of_getD (L := S1) (i := k) (by omega)), allR_row i1 (hS.res _ i1) (fun _ _ => trivial)⟩
   · exact ⟨hnm1 x (List.mem_of_mem_eraseIdx hx), own_inL i2 hS.res hx⟩

theorem ref_FreedOf {B : Nat → Prop} (s : Sl CLock) (t : ByteArray) (who : Int) (w : World) (hs : s.rd B w) (ht : t.size ≤ 9223372036854775807) : Calls Tryz.prog 39 #[s.val, vs t, vi who] w fun e w' => ∃ y : Sl CLock, e = .returned (.tuple #[y.val, ((mFree (s.xs.map CLock.abs) t who).2.1).val, vi (mFree (s.xs.map CLock.abs) t who).2.2]) ∧ y.xs.map CLock.abs = (mFree (s.xs.map CLock.abs) t who).1 ∧ FreshS w w' y := by
 have oks := Sl.rd.ok hs
 have ncs := Sl.ok.nc oks
 have hns : s.n = s.xs.length := rfl
 refine M0 ?_ Tryz.func39
 refine Mp ?_ Tryz.call101 (fun bs w hS => ref_asked s t who w (Sl.rd.kp hs hS.kp) (by first | assumption | omega | (simp only [emp_size]; omega)))
 refine Mdn (mAsk (s.xs.map CLock.abs) t who = 0) (fun h1 => ?_) fun h1 => ?_
 rotate_left
 · refine Mt [vn, vz 0, vi (mAsk (s.xs.map CLock.abs) t who)] fun bs w hS => ?_
   have hm : mFree (s.xs.map CLock.abs) t who = ([], zRep, mAsk (s.xs.map CLock.abs) t who) := by
     grind [mFree]
   refine ⟨Sl.nil, ?_, ?_, hS.outS (Sl.rd_nil _ _)⟩
   · rw [hm] <;> rfl
   · rw [hm] <;> rfl
 refine Mf ?_ Tryz.call18 (fun bs w hS => ref_LocksCopy s w (Sl.rd.kp hs hS.kp) (small_locks (mAsk_ok (by assumption)).1))
 rintro y1 hF1
 refine m_split2 ?_
 obtain ⟨A1, c1, S1⟩ := y1
 have hF1 : S1.map CLock.abs = s.xs.map CLock.abs := hF1
 refine m_perm (R' := [ownL (lineR 3) S1, rowA 115 A1 c1 (S1 : List CLock)]) (List.Perm.refl _) ?_
 have hnm1 := locks_names (y := (⟨A1, c1, S1⟩ : Sl CLock)) (hs) hF1
 have hlen1 : S1.length = s.xs.length := by simpa using congrArg List.length hF1
 refine m_know (F := ∀ i, i < S1.length → Rds.ok (S1.getD i default)) (fun bs w hS i hi => Rds.okof (B := anyB) (w := w) (own_eltL (hS.res _ i0) hnm1 (mem_of_getD hi))) fun okown1 => ?_
 refine m_know (F := RowOk A1 c1 (S1 : List CLock)) (fun bs w hS => rowA_rok (hS.res _ i1)) fun hrow1 => ?_
 have nchrow1 := hrow1.2
 have hask := mAsk_ok h1
 have hm1 : mLocks (S1.map CLock.abs) = 0 := by rw [hF1]; exact hask.1
 have hw1 := hask.2.2.1
 have hw2 := hask.2.2.2
 have hln5 : S1.length ≤ 5 := by have h9 := (mLocks_bd hm1).1; simpa using h9
 refine Mp ?_ Tryz.call100 (fun bs w hS => tackroomref_lockAt (⟨A1, c1, S1⟩ : Sl CLock) t w (own_locks (hS.res _ i0) (hS.res _ i1) hnm1))
 have hJe : mIdx (fun x : CLock => decide (x.name = t)) S1 = mIdx (fun x : DLock => decide (x.name = t)) (S1.map CLock.abs) := mIdx_map CLock.abs (fun x : DLock => decide (x.name = t)) S1
 rw [hJe]
 have hJb := mIdx_bd (fun x : DLock => decide (x.name = t)) (S1.map CLock.abs)
 generalize hJ : mIdx (fun x : DLock => decide (x.name = t)) (S1.map CLock.abs) = J at hJb ⊢
 rw [List.length_map] at hJb
 refine Md (J < 0) (fun h2 => ?_) fun h2 => ?_
 · have h0J : ¬ 0 ≤ J := by omega
   refine Mt [.slice A1 S1.length c1, vz 6, vi 0] fun bs w hS => ?_
   have hask0 : mAsk (S1.map CLock.abs) t who = 0 := by rw [hF1]; assumption
   rw [← hF1]
   have hq1 : (S1.getD J.toNat default).abs.holder = (S1.getD J.toNat default).holder := rfl
   have hq2 : (S1.getD J.toNat default).abs.fence = (S1.getD J.toNat default).fence := rfl
   have hq3 : (S1.getD J.toNat default).abs.line = (S1.getD J.toNat default).line.xs := rfl
   have hq4 : (S1.getD J.toNat default).abs.name = (S1.getD J.toNat default).name := rfl
   have hm : mFree (S1.map CLock.abs) t who = (S1.map CLock.abs, ⟨6, 0, emp⟩, 0) := by
     grind [mFree, lIdx]
   refine ⟨⟨A1, c1, S1⟩, ?_, ?_, hS.outS (y := (⟨A1, c1, S1⟩ : Sl CLock)) (out_locksG i1 hS.res (fun x hx => ?_))⟩
   · rw [hm] <;> rfl
   · exact (congrArg Prod.fst hm).symm
   · exact ⟨hnm1 x hx, own_inL i0 hS.res hx⟩
 have h0J : 0 ≤ J := by omega
 have hk5 := lock_all hm1 (k := J.toNat) (by omega)
 obtain ⟨hk51, hk52, hk53, hk54, hk55, hk56⟩ := hk5
 have hk7 : (S1.getD J.toNat default).line.n = (S1.getD J.toNat default).line.xs.length := rfl
 refine Mi ?_ (pc (pIo 31 J J.toNat S1.length i1) (pFo 33 J.toNat 1 1 i1))
 refine Md ((S1.getD J.toNat default).holder = who) (fun h3 => ?_) fun h3 => ?_
 · refine Mi ?_ (pc (pIo 40 J J.toNat S1.length i1) (pEo 41 J.toNat i1))
   refine Mu ?_ Tryz.call104 (fun bs w hS => ref_passed (S1.getD J.toNat default) w (own_eltL (hS.res _ i0) hnm1 (mem_of_getD (i := J.toNat) (by omega))) ⟨by omega, by omega⟩ (by omega))
   rintro fp3 y3 hF3 hok3
   refine Mi ?_ (pIo 43 J J.toNat S1.length i2)
   refine m_f2 ?_
   refine Ms J.toNat 0 (⟨y3.name, y3.holder, y3.fence, y3.line⟩ : CLock) ?_ (by omega)
   intro L4 hL4 hlL4
   have hgL4 : L4.getD J.toNat default = (⟨y3.name, y3.holder, y3.fence, y3.line⟩ : CLock) := by rw [hL4]; exact getD_set (by omega)
   have hbL4 : L4 = List.set S1 J.toNat (⟨y3.name, y3.holder, y3.fence, y3.line⟩ : CLock) := by rw [hL4]
   refine Mda 10 [] [0] [rowA 115 A1 c1 (L4 : List CLock), subR fp3 y3, ownL (lineR 3) S1] Tryz_mixed ?_
   refine Mih ?_ (pc (pIo 72 J J.toNat S1.length i0) (pFk 74 J.toNat 1 1 hgL4 i0))
   refine Mz ?_
   refine Mt [.slice A1 S1.length c1, .agg #[vi 0, vi y3.holder, ve], vi 0] fun bs w hS => ?_
   have hask0 : mAsk (S1.map CLock.abs) t who = 0 := by rw [hF1]; assumption
   rw [← hF1]
   have hq1 : (S1.getD J.toNat default).abs.holder = (S1.getD J.toNat default).holder := rfl
   have hq2 : (S1.getD J.toNat default).abs.fence = (S1.getD J.toNat default).fence := rfl
   have hq3 : (S1.getD J.toNat default).abs.line = (S1.getD J.toNat default).line.xs := rfl
   have hq4 : (S1.getD J.toNat default).abs.name = (S1.getD J.toNat default).name := rfl
   have hvx := setL_map hbL4
   rw [show ((⟨y3.name, y3.holder, y3.fence, y3.line⟩ : CLock)).abs = mPass (S1.getD J.toNat default).abs from hF3] at hvx
   have hpa := hF3
   have hlt : lFree (S1.getD J.toNat default).abs who = ((mPass (S1.getD J.toNat default).abs), ⟨0, y3.holder, emp⟩) := by
     unfold lFree
     simp only [hq1, hq2, hq3, hq4]
     repeat (first | rw [if_pos (by first | assumption | omega)] | rw [if_neg (by first | assumption | omega | (rw [hlh]; simp; done) | (intro h0; simp_all; done))])
     all_goals first | rfl | exact congrArg (fun h : Int => (mPass (S1.getD J.toNat default).abs, (⟨0, h, emp⟩ : DReply))) (congrArg DLock.holder hpa).symm
   have hm : mFree (S1.map CLock.abs) t who = ((S1.map CLock.abs).set J.toNat (mPass (S1.getD J.toNat default).abs), ⟨0, y3.holder, emp⟩, 0) := by
     unfold mFree lIdx
     simp only [hJ, lgetD, List.length_map]
     rw [hlt]
     repeat (first | rw [if_pos (by first | assumption | omega)] | rw [if_neg (by first | assumption | omega | (intro h0; first | exact absurd h0 (by assumption) | (simp_all; done)))])
     all_goals rfl
   refine ⟨⟨A1, c1, L4⟩, ?_, ?_, hS.outS (y := (⟨A1, c1, L4⟩ : Sl CLock)) (out_locksG i0 hS.res (fun x hx => ?_))⟩
   · have hll : S1.length = L4.length := by rw [hbL4, List.length_set]
     rw [hm]
     exact congrArg (fun q => Ending.returned (.tuple #[.slice A1 q c1, .agg #[vi 0, vi y3.holder, ve], vi 0])) hll
   · exact Eq.trans hvx (congrArg Prod.fst hm).symm
   · rw [hbL4] at hx
     rcases mem_set hx with hx | hx
     · subst hx; exact allR_sub (y := y3) i1 (hS.res _ i1)
     · exact ⟨hnm1 x hx, own_inL i2 hS.res hx⟩
 refine Mi ?_ (pc (pIo 46 J J.toNat S1.length i1) (pFo 48 J.toNat 3 1 i1))
 refine Mp ?_ Tryz.call103 (fun bs w hS => ref_has (S1.getD J.toNat default).line (S1.getD J.toNat default).line.n who w (own_eltL (hS.res _ i0) hnm1 (mem_of_getD (i := J.toNat) (by omega))).2 (by omega))
 have hlh : (((S1.getD J.toNat default).line.xs.take (S1.getD J.toNat default).line.n).any fun z => decide (z = who)) = lHas (S1.getD J.toNat default).abs who := by rw [take_all (Nat.le_refl _)]; rfl
 rw [hlh]
 refine Mb (lHas (S1.getD J.toNat default).abs who) (fun h4 => ?_) fun h4 => ?_
 rotate_left
 · refine Mda 10 [] [0] [ownL (lineR 3) S1, rowA 115 A1 c1 (S1 : List CLock)] Tryz_mixed ?_
   refine Mih ?_ (pc (pIo 65 J J.toNat S1.length i1) (pFo 67 J.toNat 1 1 i1))
   refine Mz ?_
   refine Mt [.slice A1 S1.length c1, .agg #[vi 10, vi (S1.getD J.toNat default).holder, ve], vi 0] fun bs w hS => ?_
   have hask0 : mAsk (S1.map CLock.abs) t who = 0 := by rw [hF1]; assumption
   rw [← hF1]
   have hq1 : (S1.getD J.toNat default).abs.holder = (S1.getD J.toNat default).holder := rfl
   have hq2 : (S1.getD J.toNat default).abs.fence = (S1.getD J.toNat default).fence := rfl
   have hq3 : (S1.getD J.toNat default).abs.line = (S1.getD J.toNat default).line.xs := rfl
   have hq4 : (S1.getD J.toNat default).abs.name = (S1.getD J.toNat default).name := rfl
   have hlt : lFree (S1.getD J.toNat default).abs who = ((S1.getD J.toNat default).abs, ⟨10, (S1.getD J.toNat default).holder, emp⟩) := by
     grind [lFree]
   have hm : mFree (S1.map CLock.abs) t who = (S1.map CLock.abs, ⟨10, (S1.getD J.toNat default).holder, emp⟩, 0) := by
     unfold mFree lIdx
     simp only [hJ, lgetD, List.length_map]
     rw [hlt]
     repeat (first | rw [if_pos (by first | assumption | omega)] | rw [if_neg (by first | assumption | omega | (intro h0; first | exact absurd h0 (by assumption) | (simp_all; done)))])
     all_goals (show ((S1.map CLock.abs).set J.toNat (S1.getD J.toNat default).abs, _, _) = _; rw [← lgetD, set_getD (by rw [List.length_map]; omega)])
   refine ⟨⟨A1, c1, S1⟩, ?_, ?_, hS.outS (y := (⟨A1, c1, S1⟩ : Sl CLock)) (out_locksG i1 hS.res (fun x hx => ?_))⟩
   · rw [hm] <;> rfl
   · exact (congrArg Prod.fst hm).symm
   · exact ⟨hnm1 x hx, own_inL i0 hS.res hx⟩
 refine Mi ?_ (pc (pIo 55 J J.toNat S1.length i1) (pFo 57 J.toNat 3 1 i1))
 refine Mu ?_ Tryz.call105 (fun bs w hS => ref_unlined (S1.getD J.toNat default).line who w (own_eltL (hS.res _ i0) hnm1 (mem_of_getD (i := J.toNat) (by omega))).2 (by omega))
 rintro fp5 y5 hF5 hok5
 refine Mi ?_ (pIo 60 J J.toNat S1.length i2)
 refine m_f2 ?_
 refine Ms J.toNat 3 (⟨(S1.getD J.toNat default).name, (S1.getD J.toNat default).holder, (S1.getD J.toNat default).fence, y5⟩ : CLock) ?_ (by omega)
 intro L6 hL6 hlL6
 have hgL6 : L6.getD J.toNat default = (⟨(S1.getD J.toNat default).name, (S1.getD J.toNat default).holder, (S1.getD J.toNat default).fence, y5⟩ : CLock) := by rw [hL6]; exact getD_set (by omega)
 have hbL6 : L6 = List.set S1 J.toNat (⟨(S1.getD J.toNat default).name, (S1.getD J.toNat default).holder, (S1.getD J.toNat default).fence, y5⟩ : CLock) := by rw [hL6]
 refine Mda 10 [] [0] [rowA 115 A1 c1 (L6 : List CLock), subR fp5 y5, ownL (lineR 3) S1] Tryz_mixed ?_
 refine Mih ?_ (pc (pIo 72 J J.toNat S1.length i0) (pFk 74 J.toNat 1 1 hgL6 i0))
 refine Mz ?_
 refine Mt [.slice A1 S1.length c1, .agg #[vi 0, vi (S1.getD J.toNat default).holder, ve], vi 0] fun bs w hS => ?_
 have hask0 : mAsk (S1.map CLock.abs) t who = 0 := by rw [hF1]; assumption
 rw [← hF1]
 have hq1 : (S1.getD J.toNat default).abs.holder = (S1.getD J.toNat default).holder := rfl
 have hq2 : (S1.getD J.toNat default).abs.fence = (S1.getD J.toNat default).fence := rfl
 have hq3 : (S1.getD J.toNat default).abs.line = (S1.getD J.toNat default).line.xs := rfl
 have hq4 : (S1.getD J.toNat default).abs.name = (S1.getD J.toNat default).name := rfl
 have hvx := setL_map hbL6
 rw [show ((⟨(S1.getD J.toNat default).name, (S1.getD J.toNat default).holder, (S1.getD J.toNat default).fence, y5⟩ : CLock)).abs = ⟨(S1.getD J.toNat default).name, (S1.getD J.toNat default).holder, (S1.getD J.toNat default).fence, unline (S1.getD J.toNat default).line.xs who⟩ from congrArg (fun l => (⟨(S1.getD J.toNat default).name, (S1.getD J.toNat default).holder, (S1.getD J.toNat default).fence, l⟩ : DLock)) hF5] at hvx
 have hlt : lFree (S1.getD J.toNat default).abs who = (⟨(S1.getD J.toNat default).name, (S1.getD J.toNat default).holder, (S1.getD J.toNat default).fence, unline (S1.getD J.toNat default).line.xs who⟩, ⟨0, (S1.getD J.toNat default).holder, emp⟩) := by
   grind [lFree]
 have hm : mFree (S1.map CLock.abs) t who = ((S1.map CLock.abs).set J.toNat ⟨(S1.getD J.toNat default).name, (S1.getD J.toNat default).holder, (S1.getD J.toNat default).fence, unline (S1.getD J.toNat default).line.xs who⟩, ⟨0, (S1.getD J.toNat default).holder, emp⟩, 0) := by
   unfold mFree lIdx
   simp only [hJ, lgetD, List.length_map]
   rw [hlt]
   repeat (first | rw [if_pos (by first | assumption | omega)] | rw [if_neg (by first | assumption | omega | (intro h0; first | exact absurd h0 (by assumption) | (simp_all; done)))])
   all_goals rfl
 refine ⟨⟨A1, c1, L6⟩, ?_, ?_, hS.outS (y := (⟨A1, c1, L6⟩ : Sl CLock)) (out_locksG i0 hS.res (fun x hx => ?_))⟩
 · have hll : S1.length = L6.length := by rw [hbL6, List.length_set]
   rw [hm]
   exact congrArg (fun q => Ending.returned (.tuple #[.slice A1 q c1, .agg #[vi 0, vi (S1.getD J.toNat default).holder, ve], vi 0])) hll
 · exact Eq.trans hvx (congrArg Prod.fst hm).symm
 · rw [hbL6] at hx
   rcases mem_set hx with hx | hx
   · subst hx; exact ⟨hnm1 (S1.getD J.toNat default) (mem_of_getD (L := S1) (i := J.toNat) (by omega)), allR_sub (y := y5) i1 (hS.res _ i1)⟩
   · exact ⟨hnm1 x hx, own_inL i2 hS.res hx⟩

theorem log_CopyR {B : Nat → Prop} (x : CLog) (w : World) (hx : Rds.sub B w x) (hb : x.entries.n * 16 ≤ 140737488355328) : Calls Tryz.prog 112 #[x.val] w fun e w' => ∃ y : Sl ByteArray, e = .returned (.agg #[vi x.base, y.val]) ∧ y.xs = x.entries.xs ∧ Kp [] w w' ∧ Fresh w w' (rowA 9 y.A y.c y.xs) := by
 have okx := Rds.okof hx
 have ncx := Sl.ok.nc okx
 have hnx : x.entries.n = x.entries.xs.length := rfl
 have hla : mLast x.abs = x.base + (x.entries.n : Int) := rfl
 have q1 : x.abs.base = x.base := rfl
 have q2 : x.abs.entries = x.entries.xs := rfl
 have hat : ∀ q, x.entries.xs.getD q default = x.entries.at q := fun _ => rfl
 refine M0 ?_ Tryz.func112
 refine Mda 6 [] [] [] Tryz_mixed ?_
 refine Mf ?_ Tryz.call157 (fun bs w hS => clone_ByteArray x.entries w (Rds.kp hx hS.kp) hb)
 rintro y1 hF1
 exact Mt [.agg #[vi x.base, y1.val]] fun bs w hS => ⟨y1, rfl, hF1, hS.kp, hS.out1⟩
theorem log_Copy {B : Nat → Prop} (x : CLog) (w : World) (hx : Rds.sub B w x) (hsm : Rds.small x) : Calls Tryz.prog 112 #[x.val] w fun e w' => ∃ y : CLog, e = .returned (y.val) ∧ y.abs = x.abs ∧ FreshS w w' y :=
  (log_CopyR x w hx hsm.1).mono fun e w' ⟨y, h1, h2, h3, h4⟩ => ⟨⟨x.base, y⟩, h1, by simp [CLog.abs, h2], h3, h4.sub fun hp => Rr hp (fun b hb => hb) fun z hz => Sl.rd.mem (s := x.entries) hx z (h2 ▸ hz)⟩

theorem ref_LogCopyR {B : Nat → Prop} (x : CLog) (w : World) (hx : Rds.sub B w x) (hb : x.entries.n * 16 ≤ 140737488355328) : Calls Tryz.prog 46 #[x.val] w fun e w' => ∃ y : Sl ByteArray, e = .returned (.agg #[vi x.base, y.val]) ∧ y.xs = x.entries.xs ∧ Kp [] w w' ∧ Fresh w w' (rowA 9 y.A y.c y.xs) := by
 have okx := Rds.okof hx
 have ncx := Sl.ok.nc okx
 have hnx : x.entries.n = x.entries.xs.length := rfl
 have hla : mLast x.abs = x.base + (x.entries.n : Int) := rfl
 have q1 : x.abs.base = x.base := rfl
 have q2 : x.abs.entries = x.entries.xs := rfl
 have hat : ∀ q, x.entries.xs.getD q default = x.entries.at q := fun _ => rfl
 refine M0 ?_ Tryz.func46
 refine Mda 6 [] [] [] Tryz_mixed ?_
 refine m_rowA (α := ByteArray) 9 ?_
 refine Ma ?_ (α := ByteArray) (L2 := x.entries.xs) 16 (fun bs w hS => Sl.rd.src (s := x.entries) (Rds.kp hx hS.kp))
 intro A1 c1
 exact Mt [.agg #[vi x.base, .slice A1 ([] ++ x.entries.xs).length c1]] fun bs w hS => ⟨⟨A1, c1, [] ++ x.entries.xs⟩, rfl, by simp, hS.kp, hS.out1⟩
theorem ref_LogCopy {B : Nat → Prop} (x : CLog) (w : World) (hx : Rds.sub B w x) (hsm : Rds.small x) : Calls Tryz.prog 46 #[x.val] w fun e w' => ∃ y : CLog, e = .returned (y.val) ∧ y.abs = x.abs ∧ FreshS w w' y :=
  (ref_LogCopyR x w hx hsm.1).mono fun e w' ⟨y, h1, h2, h3, h4⟩ => ⟨⟨x.base, y⟩, h1, by simp [CLog.abs, h2], h3, h4.sub fun hp => Rr hp (fun b hb => hb) fun z hz => Sl.rd.mem (s := x.entries) hx z (h2 ▸ hz)⟩

theorem snap_number (q : RQ) (b : Nat) (w : World) (hb : (blkR b 238 [vs q.1, vi q.2]).p w) (hz : q.1.size ≤ 9223372036854775807) : Calls Tryz.prog 222 #[.pointer (some (⟨b, 0, none⟩ : Addr))] w fun e w' => ∃ _ : Unit, e = .returned (vi (rNum q).1) ∧ True ∧ Kp [b] w w' ∧ (blkR b 238 [vs (rNum q).2.1, vi (rNum q).2.2]).p w' := by
 have hbm := mRead_bd q.1
 refine Mj ?_ Tryz.func222 (WS.start1 w _ hb (by simp [blkR]) (blkR_lt hb))
 refine Mi ?_ (pBk 9 1 1 i0)
 refine Mdn (q.2 = 0) (fun h1 => ?_) fun h1 => ?_
 rotate_left
 · refine Mt [vi 0] fun bs w hS => ?_
   have hm : rNum q = (0, q) := by grind [rNum]
   rw [hm]
   exact ⟨(), rfl, trivial, hS.kp, hS.res _ i0⟩
 refine Mi ?_ (pBk 15 0 1 i0)
 refine Mp ?_ Tryz.call132 (fun bs w hS => codec_ReadNumber _ w hz)
 refine Msb 0 [vs (mRead q.1).2.1, vi q.2] ?_
 refine Msb 1 [vs (mRead q.1).2.1, vi (mRead q.1).2.2] ?_
 refine Mt [vi (mRead q.1).1] fun bs w hS => ?_
 have hm : rNum q = ((mRead q.1).1, ((mRead q.1).2.1, (mRead q.1).2.2)) := by grind [rNum]
 rw [hm]
 exact ⟨(), rfl, trivial, hS.kp, hS.res _ i0⟩

theorem snap_text_ (q : RQ) (b : Nat) (w : World) (hb : (blkR b 238 [vs q.1, vi q.2]).p w) (hz : q.1.size ≤ 9223372036854775807) : Calls Tryz.prog 225 #[.pointer (some (⟨b, 0, none⟩ : Addr))] w fun e w' => ∃ _ : Unit, e = .returned (vs (rTxt q).1) ∧ True ∧ Kp [b] w w' ∧ (blkR b 238 [vs (rTxt q).2.1, vi (rTxt q).2.2]).p w' := by
 refine Mj ?_ Tryz.func225 (WS.start1 w _ hb (by simp [blkR]) (blkR_lt hb))
 refine Mi ?_ (pBk 9 1 1 i0)
 refine Mdn (q.2 = 0) (fun h1 => ?_) fun h1 => ?_
 rotate_left
 · refine Mt [ve] fun bs w hS => ?_
   have hm : rTxt q = (emp, q) := by grind [rTxt]
   rw [hm]
   exact ⟨(), rfl, trivial, hS.kp, hS.res _ i0⟩
 refine Mi ?_ (pBk 15 0 1 i0)
 refine Mp ?_ Tryz.call133 (fun bs w hS => codec_ReadText _ w hz)
 refine Msb 0 [vs (mTell q.1).2.1, vi q.2] ?_
 refine Msb 1 [vs (mTell q.1).2.1, vi (mTell q.1).2.2] ?_
 refine Mt [vs (mTell q.1).1] fun bs w hS => ?_
 have hm : rTxt q = ((mTell q.1).1, ((mTell q.1).2.1, (mTell q.1).2.2)) := by grind [rTxt]
 rw [hm]
 exact ⟨(), rfl, trivial, hS.kp, hS.res _ i0⟩

theorem snap_count (q : RQ) (m : Int) (b : Nat) (w : World) (hb : (blkR b 238 [vs q.1, vi q.2]).p w) (hz : q.1.size ≤ 9223372036854775807) : Calls Tryz.prog 223 #[.pointer (some (⟨b, 0, none⟩ : Addr)), vi m] w fun e w' => ∃ _ : Unit, e = .returned (vi (rMany m q).1) ∧ True ∧ Kp [b] w w' ∧ (blkR b 238 [vs (rMany m q).2.1, vi (rMany m q).2.2]).p w' := by
 refine Mj ?_ Tryz.func223 (WS.start1 w _ hb (by simp [blkR]) (blkR_lt hb))
 refine Mtk ?_ Tryz.call222 (fun bs w hS => snap_number q b w (hS.res _ i0) hz)
 rintro y _
 refine Mi ?_ (pBk 11 1 1 i0)
 refine Md ((rNum q).2.2 = 0) (fun h1 => ?_) fun h1 => ?_
 rotate_left
 · refine Mi ?_ (pBk 24 1 1 i0)
   refine My false true ?_ (df h1)
   refine Mt [vi 0] fun bs w hS => ?_
   have hm : rMany m q = (0, (rNum q).2) := by grind [rMany]
   rw [hm]
   exact ⟨(), rfl, trivial, hS.kp, hS.res _ i0⟩
 refine Md (m < (rNum q).1) (fun h2 => ?_) fun h2 => ?_
 rotate_left
 · refine Mi ?_ (pBk 24 1 1 i0)
   refine My true true ?_ (dt h1)
   refine Mt [vi (rNum q).1] fun bs w hS => ?_
   have hm : rMany m q = rNum q := by grind [rMany]
   rw [hm]
   exact ⟨(), rfl, trivial, hS.kp, hS.res _ i0⟩
 refine Msb 1 [vs (rNum q).2.1, vi 1] ?_
 refine Mi ?_ (pBk 24 1 1 i0)
 refine Mq 25 true ?_ rfl
 refine Mt [vi 0] fun bs w hS => ?_
 have hm : rMany m q = (0, ((rNum q).2.1, 1)) := by grind [rMany]
 rw [hm]
 exact ⟨(), rfl, trivial, hS.kp, hS.res _ i0⟩

theorem ear_num (q : RQ) (b : Nat) (w : World) (hb : (blkR b 210 [vs q.1, vi q.2]).p w) (hz : q.1.size ≤ 9223372036854775807) : Calls Tryz.prog 159 #[.pointer (some (⟨b, 0, none⟩ : Addr))] w fun e w' => ∃ _ : Unit, e = .returned (vi (rNum q).1) ∧ True ∧ Kp [b] w w' ∧ (blkR b 210 [vs (rNum q).2.1, vi (rNum q).2.2]).p w' := by
 have hbm := mRead_bd q.1
 refine Mj ?_ Tryz.func159 (WS.start1 w _ hb (by simp [blkR]) (blkR_lt hb))
 refine Mi ?_ (pBk 9 1 1 i0)
 refine Mdn (q.2 = 0) (fun h1 => ?_) fun h1 => ?_
 rotate_left
 · refine Mt [vi 0] fun bs w hS => ?_
   have hm : rNum q = (0, q) := by grind [rNum]
   rw [hm]
   exact ⟨(), rfl, trivial, hS.kp, hS.res _ i0⟩
 refine Mi ?_ (pBk 15 0 1 i0)
 refine Mp ?_ Tryz.call95 (fun bs w hS => ref_NumberOf _ w hz)
 refine Msb 0 [vs (mRead q.1).2.1, vi q.2] ?_
 refine Msb 1 [vs (mRead q.1).2.1, vi (mRead q.1).2.2] ?_
 refine Mt [vi (mRead q.1).1] fun bs w hS => ?_
 have hm : rNum q = ((mRead q.1).1, ((mRead q.1).2.1, (mRead q.1).2.2)) := by grind [rNum]
 rw [hm]
 exact ⟨(), rfl, trivial, hS.kp, hS.res _ i0⟩

theorem ear_str (q : RQ) (b : Nat) (w : World) (hb : (blkR b 210 [vs q.1, vi q.2]).p w) (hz : q.1.size ≤ 9223372036854775807) : Calls Tryz.prog 161 #[.pointer (some (⟨b, 0, none⟩ : Addr))] w fun e w' => ∃ _ : Unit, e = .returned (vs (rTxt q).1) ∧ True ∧ Kp [b] w w' ∧ (blkR b 210 [vs (rTxt q).2.1, vi (rTxt q).2.2]).p w' := by
 refine Mj ?_ Tryz.func161 (WS.start1 w _ hb (by simp [blkR]) (blkR_lt hb))
 refine Mi ?_ (pBk 9 1 1 i0)
 refine Mdn (q.2 = 0) (fun h1 => ?_) fun h1 => ?_
 rotate_left
 · refine Mt [ve] fun bs w hS => ?_
   have hm : rTxt q = (emp, q) := by grind [rTxt]
   rw [hm]
   exact ⟨(), rfl, trivial, hS.kp, hS.res _ i0⟩
 refine Mi ?_ (pBk 15 0 1 i0)
 refine Mp ?_ Tryz.call96 (fun bs w hS => ref_TextOf _ w hz)
 refine Msb 0 [vs (mTell q.1).2.1, vi q.2] ?_
 refine Msb 1 [vs (mTell q.1).2.1, vi (mTell q.1).2.2] ?_
 refine Mt [vs (mTell q.1).1] fun bs w hS => ?_
 have hm : rTxt q = ((mTell q.1).1, ((mTell q.1).2.1, (mTell q.1).2.2)) := by grind [rTxt]
 rw [hm]
 exact ⟨(), rfl, trivial, hS.kp, hS.res _ i0⟩

theorem ear_many (q : RQ) (m : Int) (b : Nat) (w : World) (hb : (blkR b 210 [vs q.1, vi q.2]).p w) (hz : q.1.size ≤ 9223372036854775807) : Calls Tryz.prog 160 #[.pointer (some (⟨b, 0, none⟩ : Addr)), vi m] w fun e w' => ∃ _ : Unit, e = .returned (vi (rMany m q).1) ∧ True ∧ Kp [b] w w' ∧ (blkR b 210 [vs (rMany m q).2.1, vi (rMany m q).2.2]).p w' := by
 refine Mj ?_ Tryz.func160 (WS.start1 w _ hb (by simp [blkR]) (blkR_lt hb))
 refine Mtk ?_ Tryz.call159 (fun bs w hS => ear_num q b w (hS.res _ i0) hz)
 rintro y _
 refine Mi ?_ (pBk 11 1 1 i0)
 refine Md ((rNum q).2.2 = 0) (fun h1 => ?_) fun h1 => ?_
 rotate_left
 · refine Mi ?_ (pBk 24 1 1 i0)
   refine My false true ?_ (df h1)
   refine Mt [vi 0] fun bs w hS => ?_
   have hm : rMany m q = (0, (rNum q).2) := by grind [rMany]
   rw [hm]
   exact ⟨(), rfl, trivial, hS.kp, hS.res _ i0⟩
 refine Md (m < (rNum q).1) (fun h2 => ?_) fun h2 => ?_
 rotate_left
 · refine Mi ?_ (pBk 24 1 1 i0)
   refine My true true ?_ (dt h1)
   refine Mt [vi (rNum q).1] fun bs w hS => ?_
   have hm : rMany m q = rNum q := by grind [rMany]
   rw [hm]
   exact ⟨(), rfl, trivial, hS.kp, hS.res _ i0⟩
 refine Msb 1 [vs (rNum q).2.1, vi 1] ?_
 refine Mi ?_ (pBk 24 1 1 i0)
 refine Mq 25 true ?_ rfl
 refine Mt [vi 0] fun bs w hS => ?_
 have hm : rMany m q = (0, ((rNum q).2.1, 1)) := by grind [rMany]
 rw [hm]
 exact ⟨(), rfl, trivial, hS.kp, hS.res _ i0⟩

theorem snap_lock (q : RQ) (b : Nat) (w : World) (hb : (blkR b 238 [vs q.1, vi q.2]).p w) (hz : q.1.size ≤ 9223372036854775807) : Calls Tryz.prog 224 #[.pointer (some (⟨b, 0, none⟩ : Addr))] w fun e w' => ∃ y : CLock, e = .returned y.val ∧ (y.abs = (rLock q).1 ∧ y.name.size ≤ 9223372036854775807) ∧ TurnedN (blkR b 238 [vs q.1, vi q.2]) w w' (blkR b 238 [vs (rLock q).2.1, vi (rLock q).2.2]) (lineR 3 y) := by
 refine Mj ?_ Tryz.func224 (WS.start1 w _ hb (by simp [blkR]) (blkR_lt hb))
 refine Mtk ?_ Tryz.call225 (fun bs w hS => snap_text_ q b w (hS.res _ i0) hz)
 rintro y _
 refine Mtk ?_ Tryz.call222 (fun bs w hS => snap_number (rTxt q).2 b w (hS.res _ i0) (rTxt_bd q _ hz).1)
 rintro y _
 refine Mtk ?_ Tryz.call222 (fun bs w hS => snap_number (rNum (rTxt q).2).2 b w (hS.res _ i0) (rNum_bd (rTxt q).2 _ (rTxt_bd q _ hz).1))
 rintro y _
 refine Mtk ?_ Tryz.call223 (fun bs w hS => snap_count (rNum (rNum (rTxt q).2).2).2 3 b w (hS.res _ i0) (rNum_bd (rNum (rTxt q).2).2 _ (rNum_bd (rTxt q).2 _ (rTxt_bd q _ hz).1)))
 rintro y _
 have hmn5 := rMany_n 3 (by decide) (rNum (rNum (rTxt q).2).2).2
 refine m_rowA (α := Int) 3 ?_
 refine Ml (σ := Nat × Option Addr × Nat) (fun ⟨i0, A0x, c0x⟩ => i0 ≤ (rMany 3 (rNum (rNum (rTxt q).2).2).2).1.toNat) (fun ⟨i0, A0x, c0x⟩ => (rMany 3 (rNum (rNum (rTxt q).2).2).2).1.toNat - i0) (fun ⟨i0, A0x, c0x⟩ => [rowA 3 A0x c0x ((rIter rNum i0 (rMany 3 (rNum (rNum (rTxt q).2).2).2).2).1 : List Int), blkR b 238 [vs (rIter rNum i0 (rMany 3 (rNum (rNum (rTxt q).2).2).2).2).2.1, vi (rIter rNum i0 (rMany 3 (rNum (rNum (rTxt q).2).2).2).2).2.2]]) [13, 12, 3, 2, 0] (fun ⟨i0, A0x, c0x⟩ => [(13, vI (i0 : Int))]) (fun ⟨i0, A0x, c0x⟩ => [(1, [vS (rTxt q).1, vI (rNum (rTxt q).2).1, vI (rNum (rNum (rTxt q).2).2).1, .v (.slice A0x ((rIter rNum i0 (rMany 3 (rNum (rNum (rTxt q).2).2).2).2).1).length c0x)])]) ?_ (⟨0, none, 0⟩) (Nat.zero_le _)
 rintro ⟨i0, A0x, c0x⟩ h0l _ on1
 have h0n : (rIter rNum i0 (rMany 3 (rNum (rNum (rTxt q).2).2).2).2).1.length = i0 := by exact rIter_len _ _ _
 refine Md ((i0 : Int) < (rMany 3 (rNum (rNum (rTxt q).2).2).2).1) (fun h1 => ?_) fun h1 => ?_
 rotate_left
 · have hx_i0 : i0 = (rMany 3 (rNum (rNum (rTxt q).2).2).2).1.toNat := by omega
   subst hx_i0
   refine Mt [.agg #[vs (rTxt q).1, vi (rNum (rTxt q).2).1, vi (rNum (rNum (rTxt q).2).2).1, .slice A0x ((rIter rNum (rMany 3 (rNum (rNum (rTxt q).2).2).2).1.toNat (rMany 3 (rNum (rNum (rTxt q).2).2).2).2).1).length c0x]] fun bs w hS => ?_
   have hS2 := hS.f1
   exact ⟨(⟨(rTxt q).1, (rNum (rTxt q).2).1, (rNum (rNum (rTxt q).2).2).1, ⟨A0x, c0x, (rIter rNum (rMany 3 (rNum (rNum (rTxt q).2).2).2).1.toNat (rMany 3 (rNum (rNum (rTxt q).2).2).2).2).1⟩⟩ : CLock), rfl, ⟨rfl, (rTxt_bd q _ hz).2⟩, (hS2.turnedN (fun _ h => h)).as (allR_one _ _) (allR_one_fp _)⟩
 refine Mda 5 [] [] [rowA 3 A0x c0x ((rIter rNum i0 (rMany 3 (rNum (rNum (rTxt q).2).2).2).2).1 : List Int)] Tryz_mixed ?_ (hR := (.cons_cons _ (.cons _ .slnil)))
 refine m_f1 ?_
 refine Mtu ?_ (v := fun _ => vi (rNum (rIter rNum i0 (rMany 3 (rNum (rNum (rTxt q).2).2).2).2).2).1) Tryz.call222 (fun bs w hS => (snap_number (rIter rNum i0 (rMany 3 (rNum (rNum (rTxt q).2).2).2).2).2 b w (hS.res _ (.head _)) (rIter_bd (B := 9223372036854775807) (fun q h => rNum_bd q _ h) i0 (rMany 3 (rNum (rNum (rTxt q).2).2).2).2 (rMany_bd 3 (rNum (rNum (rTxt q).2).2).2 _ (rNum_bd (rNum (rTxt q).2).2 _ (rNum_bd (rTxt q).2 _ (rTxt_bd q _ hz).1))))).mono (fun e w' ⟨y, h1, h2, h3, h4⟩ => ⟨y, h1, h2, h3, h4, (by simp [blkR]), fun x hx => .inl hx⟩))
 rintro y _
 refine M1 ?_ (hR := (.cons _ (List.Sublist.refl _)))
 refine Mz ?_
 refine m_f1 ?_
 refine Mal (α := Int) 8 ([(rNum (rIter rNum i0 (rMany 3 (rNum (rNum (rTxt q).2).2).2).2).2).1]) ?_
 intro A7 c7
 refine Mi ?_ (pR ((i0 : Int) + 1))
 refine m_f1 (m_f1 ?_)
 exact on1 ⟨i0 + 1, A7, c7⟩ (by show i0 + 1 ≤ (rMany 3 (rNum (rNum (rTxt q).2).2).2).1.toNat; omega) (by show (rMany 3 (rNum (rNum (rTxt q).2).2).2).1.toNat - (i0 + 1) < (rMany 3 (rNum (rNum (rTxt q).2).2).2).1.toNat - i0; omega)

end Go.Proofs.YtbjakddkfgjkaaaGreat.W
