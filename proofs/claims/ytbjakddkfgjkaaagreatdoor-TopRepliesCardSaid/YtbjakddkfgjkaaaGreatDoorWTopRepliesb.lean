/-
  The functions that the law TopReplies reaches, walked: each returns what its model says.
  Conditions: those that each theorem states.
-/
import Derived.Test.YtbjakddkfgjkaaaGreatDoorWTopRepliesa
set_option linter.unusedVariables false
set_option linter.unusedSimpArgs false
set_option maxRecDepth 100000
set_option maxHeartbeats 2000000
namespace Go.Proofs.YtbjakddkfgjkaaaGreatDoor.W
open Go.Proofs.YtbjakddkfgjkaaaGreatDoor.Fw Go.RowKit
attribute [local irreducible] JM nx
theorem pair_Set {B : Nat → Prop} (s : Sl DPair) (t v : ByteArray) (w : World) (hs : s.rd B w) (ht : t.size ≤ 9223372036854775807) (hv : v.size ≤ 9223372036854775807) : Calls Tryz.prog 69 #[s.val, vs t, vs v] w fun e w' => ∃ y : Sl DPair, e = .returned (.tuple #[y.val, ((mPSet s.xs t v).2.1).val, vi (mPSet s.xs t v).2.2]) ∧ y.xs = (mPSet s.xs t v).1 ∧ FreshS w w' y := by
 have oks := Sl.rd.ok hs
 have ncs := Sl.ok.nc oks
 have hns : s.n = s.xs.length := rfl
 refine M0 ?_ Tryz.func69
 refine Mp ?_ Tryz.call57 (fun bs w hS => pair_Check s w (Sl.rd.kp hs hS.kp))
 refine Mdn (mPairs s.xs = 0) (fun h1 => ?_) fun h1 => ?_
 rotate_left
 · refine Mt [vn, vz 0, vi (mPairs s.xs)] fun bs w hS => ?_
   have hm : mPSet s.xs t v = ([], zRep, mPairs s.xs) := by
     grind [mPSet, pIdx]
   refine ⟨Sl.nil, ?_, ?_, hS.outS (Sl.rd_nil _ _)⟩
   · rw [hm] <;> rfl
   · rw [hm] <;> rfl
 have hln := (mPairs_bd h1).1
 refine Mp ?_ (vs := fun bs => [vs t]) Tryz.call82 (fun bs w hS => lock_Name _ w (by first | assumption | omega | (simp only [emp_size]; omega)))
 refine Mbn (mName t) (fun h2 => ?_) fun h2 => ?_
 rotate_left
 · refine Mt [vn, vz 0, vi 4] fun bs w hS => ?_
   have hm : mPSet s.xs t v = ([], zRep, 4) := by
     grind [mPSet, pIdx]
   refine ⟨Sl.nil, ?_, ?_, hS.outS (Sl.rd_nil _ _)⟩
   · rw [hm] <;> rfl
   · rw [hm] <;> rfl
 refine Md ((12 : Int) < (v.size : Int)) (fun h3 => ?_) fun h3 => ?_
 · refine Mt [vn, vz 0, vi 1] fun bs w hS => ?_
   have hm : mPSet s.xs t v = ([], zRep, 1) := by
     grind [mPSet, pIdx]
   refine ⟨Sl.nil, ?_, ?_, hS.outS (Sl.rd_nil _ _)⟩
   · rw [hm] <;> rfl
   · rw [hm] <;> rfl
 refine Mf ?_ Tryz.call59 (fun bs w hS => clone_Pair s w (Sl.rd.kp hs hS.kp) (by omega))
 rintro y1 hF1
 obtain ⟨A1, c1, rfl⟩ := Sl.of_xs hF1
 refine m_weak (rowA 132 A1 c1 (s.xs : List DPair)) (List.Sublist.refl _) (fun w h => h) ?_
 refine m_know (F := RowOk A1 c1 (s.xs : List DPair)) (fun bs w hS => rowA_rok (hS.res _ i0)) fun hrow1 => ?_
 have nchrow1 := hrow1.2
 refine Mp ?_ (v := .tuple #[vi ((mBS (fun x : DPair => cmpS x.name t) s.xs : Nat) : Int), vb (mBSf (fun x : DPair => cmpS x.name t) s.xs)]) Tryz.call97 (fun bs w hS => pair_find (⟨A1, c1, s.xs⟩ : Sl DPair) t w (Rr (B := anyB) (hS.res _ i0) (fun _ _ => trivial) (fun z hz => Sl.rd.mem (s := s) hs z hz)) (show s.xs.length ≤ 1048576 by omega))
 have hbs := bsf_pair (l := s.xs) (by assumption) t
 have hJb := mIdx_bd (fun x : DPair => decide (x.name = t)) s.xs
 generalize hJ : mIdx (fun x : DPair => decide (x.name = t)) s.xs = J at hbs hJb
 have hkl := mBS_le (fun x : DPair => cmpS x.name t) s.xs
 generalize hk : mBS (fun x : DPair => cmpS x.name t) s.xs = k at hbs hkl ⊢
 generalize hf : mBSf (fun x : DPair => cmpS x.name t) s.xs = fb at hbs ⊢
 refine Mbx fb true [(11, false)] (fun h4 => ?_) fun h4 => ?_
 rotate_left
 · have h0J := of_decide_eq_false (hbs.1.symm.trans h4)
   refine Md ((s.xs.length : Int) = 5) (fun h6 => ?_) fun h6 => ?_
   · refine Mt [.slice A1 s.xs.length c1, vz 8, vi 0] fun bs w hS => ?_
     have hm : mPSet s.xs t v = (s.xs, ⟨8, 0, emp⟩, 0) := by
       grind [mPSet, pIdx]
     refine ⟨⟨A1, c1, s.xs⟩, ?_, ?_, hS.outS (y := (⟨A1, c1, s.xs⟩ : Sl DPair)) (allR_row i0 (hS.res _ i0) (fun z hz => Sl.rd.mem (s := s) hs z hz))⟩
     · rw [hm] <;> rfl
     · exact Eq.trans rfl (congrArg Prod.fst hm).symm
   refine M1 ?_
   refine Mtu ?_ (v := fun q5 => .slice q5.1 (s.xs.take k ++ [(⟨t, v, 1⟩ : DPair)] ++ s.xs.drop k).length q5.2) (vs := fun bs => [.slice A1 s.xs.length c1, vi (k : Int), .slice (some (adr bs 1 0)) 1 1]) Tryz.call98 (fun bs w hS => (insR_Pair A1 c1 s.xs k _ (⟨t, v, 1⟩ : DPair) (bs.getD 1 0) 132 w (hS.res _ i0) hS.head1.2.2 rfl (by first | omega | (simp only [Sl.n] at *; omega)) (by first | omega | (simp only [Sl.n] at *; omega)) (hS.loc 1 ⟨132, [vS t, vS v, vI 1]⟩ (by kernel_rfl) (by simp)) (hS.ne_head (i := 1) (b := ⟨132, [vS t, vS v, vI 1]⟩) (by kernel_rfl))).mono (fun e w' ⟨y, h1, h2⟩ => ⟨y, h1, trivial, h2⟩))
   rintro q5 _
   refine Mt [.slice q5.1 (s.xs.take k ++ [(⟨t, v, 1⟩ : DPair)] ++ s.xs.drop k).length q5.2, .agg #[vi 0, vi 1, ve], vi 0] fun bs w hS => ?_
   have hvx : s.xs.take k ++ [(⟨t, v, 1⟩ : DPair)] ++ s.xs.drop k = mIns (fun x : DPair => Op.bytesLess t.toList x.name.toList) ⟨t, v, 1⟩ s.xs := ins_at ((ins_names DPair.name (pairs_srt (by assumption) t) (by rw [hJ]; omega)).trans hk)
   have hm : mPSet s.xs t v = (mIns (fun x : DPair => Op.bytesLess t.toList x.name.toList) ⟨t, v, 1⟩ s.xs, ⟨0, 1, emp⟩, 0) := by
     grind [mPSet, pIdx]
   refine ⟨⟨q5.1, q5.2, s.xs.take k ++ [(⟨t, v, 1⟩ : DPair)] ++ s.xs.drop k⟩, ?_, ?_, hS.outS (y := (⟨q5.1, q5.2, s.xs.take k ++ [(⟨t, v, 1⟩ : DPair)] ++ s.xs.drop k⟩ : Sl DPair)) (allR_row i0 (hS.res _ i0) (fun z hz => ?_))⟩
   · rw [hm] <;> rfl
   · exact Eq.trans hvx (congrArg Prod.fst hm).symm
   · rw [hvx] at hz
     rcases ins_mem hz with hz | hz
     · subst hz; exact ⟨ht, hv⟩
     · exact Sl.rd.mem (s := s) hs z hz
 have hkJ := hbs.2 h4
 subst hkJ
 have hpv := pairF_bd ((mPairs_bd (l := s.xs) (by assumption)).2 k (by omega))
 have hpv1 := hpv.2.2.1
 have hpv2 := hpv.2.2.2.1
 refine Mi ?_ (pc (pIo 46 (k : Int) k s.xs.length i0) (pFo 48 k 2 1 i0))
 refine Md ((s.xs.getD k default).version = 1073741824) (fun h5 => ?_) fun h5 => ?_
 · refine Mt [.slice A1 s.xs.length c1, vz 8, vi 0] fun bs w hS => ?_
   have hm : mPSet s.xs t v = (s.xs, ⟨8, 0, emp⟩, 0) := by
     grind [mPSet, pIdx]
   refine ⟨⟨A1, c1, s.xs⟩, ?_, ?_, hS.outS (y := (⟨A1, c1, s.xs⟩ : Sl DPair)) (allR_row i0 (hS.res _ i0) (fun z hz => Sl.rd.mem (s := s) hs z hz))⟩
   · rw [hm] <;> rfl
   · exact Eq.trans rfl (congrArg Prod.fst hm).symm
 refine Mi ?_ (pIo 67 (k : Int) k s.xs.length i0)
 refine Ms k 1 (⟨(s.xs.getD k default).name, v, (s.xs.getD k default).version⟩ : DPair) ?_ (by omega)
 intro L3 hL3 hlL3
 have hgL3 : L3.getD k default = (⟨(s.xs.getD k default).name, v, (s.xs.getD k default).version⟩ : DPair) := by rw [hL3]; exact getD_set (by omega)
 have hbL3 : L3 = List.set s.xs k (⟨(s.xs.getD k default).name, v, (s.xs.getD k default).version⟩ : DPair) := by rw [hL3]
 refine Mi ?_ (pc (pIo 71 (k : Int) k s.xs.length i0) (pc (pFk 73 k 2 1 hgL3 i0) (pc (pR ((s.xs.getD k default).version + 1)) (pIo 75 (k : Int) k s.xs.length i0))))
 refine Ms k 2 (⟨(s.xs.getD k default).name, v, (s.xs.getD k default).version + 1⟩ : DPair) ?_ (by omega) (hg := hgL3)
 intro L4 hL4 hlL4
 have hgL4 : L4.getD k default = (⟨(s.xs.getD k default).name, v, (s.xs.getD k default).version + 1⟩ : DPair) := by rw [hL4]; exact getD_set (by omega)
 have hbL4 : L4 = List.set s.xs k (⟨(s.xs.getD k default).name, v, (s.xs.getD k default).version + 1⟩ : DPair) := by rw [hL4, hbL3, List.set_set]
 refine Mda 10 [] [0] [rowA 132 A1 c1 (L4 : List DPair)] Tryz_mixed ?_
 refine Mih ?_ (pc (pIo 80 (k : Int) k s.xs.length i0) (pFk 82 k 2 1 hgL4 i0))
 refine Mz ?_
 refine Mt [.slice A1 s.xs.length c1, .agg #[vi 0, vi ((s.xs.getD k default).version + 1), ve], vi 0] fun bs w hS => ?_
 have hvx : L4 = s.xs.set k ⟨(s.xs.getD k default).name, v, (s.xs.getD k default).version + 1⟩ := hbL4
 have hm : mPSet s.xs t v = (s.xs.set k ⟨(s.xs.getD k default).name, v, (s.xs.getD k default).version + 1⟩, ⟨0, (s.xs.getD k default).version + 1, emp⟩, 0) := by
   grind [mPSet, pIdx]
 refine ⟨⟨A1, c1, L4⟩, ?_, ?_, hS.outS (y := (⟨A1, c1, L4⟩ : Sl DPair)) (allR_row i0 (hS.res _ i0) (fun z hz => ?_))⟩
 · have hll : L4.length = s.xs.length := by rw [hvx, List.length_set]
   rw [hm]
   exact congrArg (fun q => Ending.returned (.tuple #[.slice A1 q c1, .agg #[vi 0, vi ((s.xs.getD k default).version + 1), ve], vi 0])) hll.symm
 · exact Eq.trans hvx (congrArg Prod.fst hm).symm
 · rw [hvx] at hz
   rcases mem_set hz with hz | hz
   · subst hz; exact ⟨(Sl.rd.mem (s := s) hs _ (mem_of_getD (i := k) (by omega))).1, hv⟩
   · exact Sl.rd.mem (s := s) hs z hz
theorem session_Join {B : Nat → Prop} (s : Sl CSession) (n t : Int) (w : World) (hs : s.rd B w) (ht : inR t) : Calls Tryz.prog 34 #[s.val, vi n, vi t] w fun e w' => ∃ y : Sl CSession, e = .returned (.tuple #[y.val, ((mJoin (s.xs.map CSession.abs) n t).2.1).val, vi (mJoin (s.xs.map CSession.abs) n t).2.2]) ∧ y.xs.map CSession.abs = (mJoin (s.xs.map CSession.abs) n t).1 ∧ FreshS w w' y := by
 have oks := Sl.rd.ok hs
 have ncs := Sl.ok.nc oks
 have hns : s.n = s.xs.length := rfl
 have hml : (s.xs.map CSession.abs).length = s.n := by simp
 refine M0 ?_ Tryz.func34
 refine Mp ?_ Tryz.call22 (fun bs w hS => session_Check s n w (Sl.rd.kp hs hS.kp))
 refine Mdn (mSess (s.xs.map CSession.abs) n = 0) (fun h1 => ?_) fun h1 => ?_
 rotate_left
 · refine Mt [vn, vz 0, vi (mSess (s.xs.map CSession.abs) n)] fun bs w hS => ?_
   have hm : mJoin (s.xs.map CSession.abs) n t = ([], zRep, mSess (s.xs.map CSession.abs) n) := by
     grind [mJoin, sIdx]
   refine ⟨Sl.nil, ?_, ?_, hS.outS (Sl.rd_nil _ _)⟩
   · rw [hm] <;> rfl
   · rw [hm] <;> rfl
 obtain ⟨hi0, hi1, hln, hall⟩ := mSess_bd h1
 have hln2 : s.xs.length ≤ 4 := by simpa using hln
 refine Md (t < 1) (fun h2 => ?_) fun h2 => ?_
 · refine Mt [vn, vz 0, vi 2] fun bs w hS => ?_
   have hm : mJoin (s.xs.map CSession.abs) n t = ([], zRep, 2) := by
     grind [mJoin, sIdx]
   refine ⟨Sl.nil, ?_, ?_, hS.outS (Sl.rd_nil _ _)⟩
   · rw [hm] <;> rfl
   · rw [hm] <;> rfl
 refine Md ((9 : Int) < t) (fun h3 => ?_) fun h3 => ?_
 · refine Mt [vn, vz 0, vi 2] fun bs w hS => ?_
   have hm : mJoin (s.xs.map CSession.abs) n t = ([], zRep, 2) := by
     grind [mJoin, sIdx]
   refine ⟨Sl.nil, ?_, ?_, hS.outS (Sl.rd_nil _ _)⟩
   · rw [hm] <;> rfl
   · rw [hm] <;> rfl
 refine Md (n = 1073741824) (fun h4 => ?_) fun h4 => ?_
 · refine Mt [vn, vz 0, vi 2] fun bs w hS => ?_
   have hm : mJoin (s.xs.map CSession.abs) n t = ([], zRep, 2) := by
     grind [mJoin, sIdx]
   refine ⟨Sl.nil, ?_, ?_, hS.outS (Sl.rd_nil _ _)⟩
   · rw [hm] <;> rfl
   · rw [hm] <;> rfl
 refine Mf ?_ Tryz.call24 (fun bs w hS => session_Copy s w (Sl.rd.kp hs hS.kp) (small_sess (by assumption)))
 rintro y1 hF1
 refine m_split2 ?_
 obtain ⟨A1, c1, S1⟩ := y1
 have hF1 : S1.map CSession.abs = s.xs.map CSession.abs := hF1
 refine m_perm (R' := [ownL (keptR 95) S1, rowA 87 A1 c1 (S1 : List CSession)]) (List.Perm.refl _) ?_
 have hnm1 := sess_texts (y := (⟨A1, c1, S1⟩ : Sl CSession)) (hs) hF1
 have hlen1 : S1.length = s.xs.length := by simpa using congrArg List.length hF1
 refine m_know (F := ∀ i, i < S1.length → Rds.ok (S1.getD i default)) (fun bs w hS i hi => Rds.okof (B := anyB) (w := w) (own_elt (hS.res _ i0) hnm1 (mem_of_getD hi))) fun okown1 => ?_
 refine m_know (F := RowOk A1 c1 (S1 : List CSession)) (fun bs w hS => rowA_rok (hS.res _ i1)) fun hrow1 => ?_
 have nchrow1 := hrow1.2
 have hml1 : (S1.map CSession.abs).length = S1.length := by simp
 refine Mp ?_ Tryz.call26 (fun bs w hS => session_find (⟨A1, c1, S1⟩ : Sl CSession) t w (own_sess (hS.res _ i0) (hS.res _ i1) hnm1) (show S1.length ≤ 1048576 by omega))
 have hbs := bsf_sess (L := S1) (index := n) (t := t) (by rw [hF1]; assumption) ht
 have hJb := mIdx_bd (fun x : DSession => decide (x.client = t)) (S1.map CSession.abs)
 generalize hJ : mIdx (fun x : DSession => decide (x.client = t)) (S1.map CSession.abs) = J at hbs hJb
 have hkl := mBS_le (fun x : CSession => IntKind.i64.wrap (x.client - t)) S1
 generalize hk : mBS (fun x : CSession => IntKind.i64.wrap (x.client - t)) S1 = k at hbs hkl ⊢
 generalize hf : mBSf (fun x : CSession => IntKind.i64.wrap (x.client - t)) S1 = fb at hbs ⊢
 refine Mb fb (fun h5 => ?_) fun h5 => ?_
 · have hkJ := hbs.2 h5
   subst hkJ
   refine Mi ?_ (pc (pR (n + 1)) (pIo 44 (k : Int) k S1.length i1))
   refine m_f1 ?_
   refine Ms k 3 (⟨(S1.getD k default).client, (S1.getD k default).id, (S1.getD k default).acked, n + 1, (S1.getD k default).replies⟩ : CSession) ?_ (by omega)
   intro L3 hL3 hlL3
   have hgL3 : L3.getD k default = (⟨(S1.getD k default).client, (S1.getD k default).id, (S1.getD k default).acked, n + 1, (S1.getD k default).replies⟩ : CSession) := by rw [hL3]; exact getD_set (by omega)
   have hbL3 : L3 = List.set S1 k (⟨(S1.getD k default).client, (S1.getD k default).id, (S1.getD k default).acked, n + 1, (S1.getD k default).replies⟩ : CSession) := by rw [hL3]
   refine Mda 10 [] [0] [rowA 87 A1 c1 (L3 : List CSession), ownL (keptR 95) S1] Tryz_mixed ?_
   refine Mih ?_ (pc (pIo 49 (k : Int) k S1.length i0) (pFk 51 k 1 1 hgL3 i0))
   refine Mz ?_
   refine Mt [.slice A1 S1.length c1, .agg #[vi 7, vi (S1.getD k default).id, ve], vi 0] fun bs w hS => ?_
   have hm1 : mSess (S1.map CSession.abs) n = 0 := by rw [hF1]; assumption
   rw [← hF1]
   have hvx := setS_map hbL3
   have hm : mJoin (S1.map CSession.abs) n t = ((S1.map CSession.abs).set k { (S1.getD k default).abs with last := n + 1 }, ⟨7, (S1.getD k default).id, emp⟩, 0) := by
     unfold mJoin sIdx
     simp only [hJ, Int.toNat_natCast, sgetD, List.length_map]
     repeat (first | rw [if_pos (by first | assumption | omega)] | rw [if_neg (by first | assumption | omega | (intro h0; first | exact absurd h0 (by assumption) | (simp_all; done)))])
     all_goals rfl
   refine ⟨⟨A1, c1, L3⟩, ?_, ?_, hS.outS (y := (⟨A1, c1, L3⟩ : Sl CSession)) (out_sessG i0 hS.res (fun x hx => ?_))⟩
   · have hll : S1.length = L3.length := by rw [hbL3, List.length_set]
     rw [hm]
     exact congrArg (fun q => Ending.returned (.tuple #[.slice A1 q c1, .agg #[vi 7, vi (S1.getD k default).id, ve], vi 0])) hll
   · exact Eq.trans hvx (congrArg Prod.fst hm).symm
   · rw [hbL3] at hx
     rcases mem_set hx with hx | hx
     · subst hx; exact own_in (x := S1.getD k default) i1 hS.res hnm1 (mem_of_getD (L := S1) (i := k) (by omega))
     · exact own_in i1 hS.res hnm1 hx
 have h0J := of_decide_eq_false (hbs.1.symm.trans h5)
 refine Md ((S1.length : Int) = 4) (fun h6 => ?_) fun h6 => ?_
 · refine Mt [.slice A1 S1.length c1, vz 8, vi 0] fun bs w hS => ?_
   have hm1 : mSess (S1.map CSession.abs) n = 0 := by rw [hF1]; assumption
   rw [← hF1]
   have hm : mJoin (S1.map CSession.abs) n t = (S1.map CSession.abs, ⟨8, 0, emp⟩, 0) := by
     grind [mJoin, sIdx]
   refine ⟨⟨A1, c1, S1⟩, ?_, ?_, hS.outS (y := (⟨A1, c1, S1⟩ : Sl CSession)) (out_sessG i1 hS.res (fun x hx => ?_))⟩
   · rw [hm] <;> rfl
   · exact Eq.trans rfl (congrArg Prod.fst hm).symm
   · exact own_in i0 hS.res hnm1 hx
 refine Mi ?_ (pc (pR (n + 1)) (pR (n + 1)))
 refine M1 ?_
 refine m_f1 ?_
 refine Mtu ?_ Tryz.call63 (fun bs w hS => (insR_Session A1 c1 S1 k _ (⟨t, n + 1, 0, n + 1, Sl.nil⟩ : CSession) (bs.getD 1 0) 87 w (hS.res _ i0) hS.head1.2.2 rfl (by first | omega | (simp only [Sl.n] at *; omega)) (by first | omega | (simp only [Sl.n] at *; omega)) (hS.loc 1 ⟨87, [vI t, vI (n + 1), vI 0, vI (n + 1), .v vn]⟩ (by kernel_rfl) (by simp)) (hS.ne_head (i := 1) (b := ⟨87, [vI t, vI (n + 1), vI 0, vI (n + 1), .v vn]⟩) (by kernel_rfl))).mono (fun e w' ⟨y, h1, h2⟩ => ⟨y, h1, trivial, h2⟩))
 rintro q4 _
 refine Mi ?_ (pR (n + 1))
 refine Mt [.slice q4.1 (S1.take k ++ [(⟨t, n + 1, 0, n + 1, Sl.nil⟩ : CSession)] ++ S1.drop k).length q4.2, .agg #[vi 0, vi (n + 1), ve], vi 0] fun bs w hS => ?_
 have hm1 : mSess (S1.map CSession.abs) n = 0 := by rw [hF1]; assumption
 rw [← hF1]
 have hvy : S1.take k ++ [(⟨t, n + 1, 0, n + 1, Sl.nil⟩ : CSession)] ++ S1.drop k = mIns (fun x : CSession => decide (t < x.client)) (⟨t, n + 1, 0, n + 1, Sl.nil⟩ : CSession) S1 := (ins_at ((ins_sess (index := n) hm1 (by omega) (by rw [hJ]; omega)).trans hk))
 have hvx := insS_map hvy
 have hm : mJoin (S1.map CSession.abs) n t = (mIns (fun x : DSession => decide (t < x.client)) ⟨t, n + 1, 0, n + 1, []⟩ (S1.map CSession.abs), ⟨0, n + 1, emp⟩, 0) := by
   grind [mJoin, sIdx]
 refine ⟨⟨q4.1, q4.2, S1.take k ++ [(⟨t, n + 1, 0, n + 1, Sl.nil⟩ : CSession)] ++ S1.drop k⟩, ?_, ?_, hS.outS (y := (⟨q4.1, q4.2, S1.take k ++ [(⟨t, n + 1, 0, n + 1, Sl.nil⟩ : CSession)] ++ S1.drop k⟩ : Sl CSession)) (out_sessG i0 hS.res (fun x hx => ?_))⟩
 · rw [hm] <;> rfl
 · exact Eq.trans hvx (congrArg Prod.fst hm).symm
 · rw [hvy] at hx
   rcases ins_mem hx with hx | hx
   · subst hx; exact Sl.rd_nil _ _
   · exact own_in i1 hS.res hnm1 hx
theorem session_Keep_1 (x : DKept) (t : Int) (w : World) : Calls Tryz.prog 71 #[x.val, vi t] w fun e w' => e = .returned (vi (IntKind.i64.wrap (x.seq - t))) ∧ Kp [] w w' := by
 refine M0 ?_ Tryz.func71
 refine Mi ?_ (pG [(8, .val (vi (IntKind.i64.wrap (x.seq - t))))] (oc (sub_wrap : ∀ w, (do eqGuard .sub 3 (.tmp 6) (.tmp 7) (vi x.seq) (vi t); binOp .sub 3 (vi x.seq) (vi t) : Sem Value).run Tryz.prog w = .ok (vi (IntKind.i64.wrap (x.seq - t))) w) on))
 exact Mt [vi (IntKind.i64.wrap (x.seq - t))] fun bs w hS => ⟨rfl, hS.kp⟩
theorem bs_session_Keep_1 {B : Nat → Prop} (s : Sl DKept) (t : Int) (w : World) (hs : s.rd B w) (hn : s.n ≤ 1048576) : Calls Tryz.prog 70 #[s.val, vi t, .func (.func 71) #[] #[]] w fun e w' => e = .returned (.tuple #[vi (mBS (fun x : DKept => IntKind.i64.wrap (x.seq - t)) s.xs : Nat), vb (mBSf (fun x : DKept => IntKind.i64.wrap (x.seq - t)) s.xs)]) ∧ Kp [] w w' := by
 have oks := Sl.rd.ok hs
 have ncs := Sl.ok.nc oks
 have hns : s.n = s.xs.length := rfl
 refine Mj ?_ Tryz.func70 (WS.start w)
 refine Ml (σ := Nat × Nat × Nat) (fun ⟨i, j, f⟩ => i ≤ j ∧ j ≤ s.n ∧ j - i ≤ f ∧ mBS (fun x : DKept => IntKind.i64.wrap (x.seq - t)) s.xs = bsGo (fun j => decide (IntKind.i64.wrap ((s.at j).seq - t) < 0)) f i j) (fun ⟨i, j, f⟩ => f) (fun _ => []) [10, 9, 8, 0, 1, 2] (fun ⟨i, j, f⟩ => [(10, vI (j : Int)), (9, vI (i : Int))]) (fun _ => []) ?_ (⟨0, s.n, s.n⟩) ⟨Nat.zero_le _, Nat.le_refl _, Nat.le_refl _, rfl⟩
 rintro ⟨i, j, f⟩ ⟨h1, h2, h3, hI⟩ _ on1
 have hdiv : ((i : Int) + (j : Int)) / 2 = (((i + j) / 2 : Nat) : Int) := by omega
 refine Md ((i : Int) < (j : Int)) (fun h1 => ?_) fun h1 => ?_
 rotate_left
 · refine Md ((i : Int) < (s.n : Int)) (fun h3 => ?_) fun h3 => ?_
   rotate_left
   · refine Mt [vi (i : Int), vb false] fun bs w hS => ?_
     have hij : i = j := by omega
     subst hij
     have hr : mBS (fun x : DKept => IntKind.i64.wrap (x.seq - t)) s.xs = i := by rw [hI]; exact bsGo_end _ _ _ _ (Nat.le_refl _)
     refine ⟨?_, hS.kp⟩
     have hr2 : mBSf (fun x : DKept => IntKind.i64.wrap (x.seq - t)) s.xs = false := by
       unfold mBSf; rw [hr]
       rw [decide_eq_false (show ¬ i < s.xs.length by omega)]; rfl
     rw [hr, hr2]
     rfl
   refine Mi ?_ (pA 43 44 (i : Int) i (rdk hs))
   refine Mp ?_ Tryz.call71 (fun bs w hS => session_Keep_1 (s.at i) t w)
   refine Mt [vi (i : Int), vb (decide (IntKind.i64.wrap ((s.at i).seq - t) = 0))] fun bs w hS => ?_
   have hij : i = j := by omega
   subst hij
   have hr : mBS (fun x : DKept => IntKind.i64.wrap (x.seq - t)) s.xs = i := by rw [hI]; exact bsGo_end _ _ _ _ (Nat.le_refl _)
   refine ⟨?_, hS.kp⟩
   have hr2 : mBSf (fun x : DKept => IntKind.i64.wrap (x.seq - t)) s.xs = (decide (IntKind.i64.wrap ((s.at i).seq - t) = 0)) := by
     unfold mBSf; rw [hr]
     rw [decide_eq_true (show i < s.xs.length by omega)]; rfl
   rw [hr, hr2]
   rfl
 refine Mi ?_ (pc (pR ((i : Int) + (j : Int))) (pc (pG [(21, .val (.int .u64 ((i : Int) + (j : Int))))] (oc ((conv_i64_u64 Tryz.underlying3 Tryz.underlying175 (by omega) (by omega)) : ∀ w, (convert 3 175 (vi ((i : Int) + (j : Int))) : Sem Value).run Tryz.prog w = .ok (.int .u64 ((i : Int) + (j : Int))) w) on)) (pc (pG [(22, .val (.int .u64 (((i : Int) + (j : Int)) / 2)))] (oc (shr_u64 : ∀ w, (do eqGuard .shr 175 (.tmp 21) (.const (.int .u64 1)) (.int .u64 ((i : Int) + (j : Int))) (.int .u64 1); binOp .shr 175 (.int .u64 ((i : Int) + (j : Int))) (.int .u64 1) : Sem Value).run Tryz.prog w = .ok (.int .u64 (((i : Int) + (j : Int)) / 2)) w) on)) (pc (pG [(23, .val (vi (((i : Int) + (j : Int)) / 2)))] (oc ((conv_u64_i64 Tryz.underlying175 Tryz.underlying3 (by omega) (by omega)) : ∀ w, (convert 175 3 (.int .u64 (((i : Int) + (j : Int)) / 2)) : Sem Value).run Tryz.prog w = .ok (vi (((i : Int) + (j : Int)) / 2)) w) on)) (pA 27 28 (((i : Int) + (j : Int)) / 2) (((i : Int) + (j : Int)) / 2).toNat (rdk hs))))))
 refine Mp ?_ Tryz.call71 (fun bs w hS => session_Keep_1 (s.at (((i : Int) + (j : Int)) / 2).toNat) t w)
 refine Md (IntKind.i64.wrap ((s.at (((i : Int) + (j : Int)) / 2).toNat).seq - t) < 0) (fun h2 => ?_) fun h2 => ?_
 rotate_left
 · have hf1 : f = (f - 1) + 1 := by omega
   rw [hf1] at hI
   have hI2 := hI.trans (bsGo_down (by omega) (decide_eq_false (by assumption)))
   exact on1 ⟨i, (i + j) / 2, f - 1⟩ ⟨by omega, by omega, by omega, hI2⟩ (by show f - 1 < f; omega)
 refine Mi ?_ (pR ((((i : Int) + (j : Int)) / 2) + 1))
 have hf1 : f = (f - 1) + 1 := by omega
 rw [hf1] at hI
 have hI2 := hI.trans (bsGo_up (by omega) (decide_eq_true (by assumption)))
 exact on1 ⟨(i + j) / 2 + 1, j, f - 1⟩ ⟨by omega, by omega, by omega, hI2⟩ (by show f - 1 < f; omega)
theorem session_Keep {B : Nat → Prop} (s : Sl CSession) (n t q : Int) (r : DReply) (w : World) (hs : s.rd B w) (ht : inR t) (hq : inR q) (hr : r.text.size ≤ 9223372036854775807) : Calls Tryz.prog 37 #[s.val, vi n, vi t, vi q, r.val] w fun e w' => ∃ y : Sl CSession, e = .returned (.tuple #[y.val, vi (mKeep (s.xs.map CSession.abs) n t q r).2]) ∧ y.xs.map CSession.abs = (mKeep (s.xs.map CSession.abs) n t q r).1 ∧ FreshS w w' y := by
 have oks := Sl.rd.ok hs
 have ncs := Sl.ok.nc oks
 have hns : s.n = s.xs.length := rfl
 have hml : (s.xs.map CSession.abs).length = s.n := by simp
 refine M0 ?_ Tryz.func37
 refine Mp ?_ Tryz.call22 (fun bs w hS => session_Check s n w (Sl.rd.kp hs hS.kp))
 refine Mdn (mSess (s.xs.map CSession.abs) n = 0) (fun h1 => ?_) fun h1 => ?_
 rotate_left
 · have hm : mKeep (s.xs.map CSession.abs) n t q r = ([], mSess (s.xs.map CSession.abs) n) := by
     grind [mKeep, sIdx]
   exact Me2 hm Sl.nil rfl fun bs w hS => hS.outS (Sl.rd_nil _ _)
 obtain ⟨hi0, hi1, hln, hall⟩ := mSess_bd h1
 have hln2 : s.xs.length ≤ 4 := by simpa using hln
 refine Mf ?_ Tryz.call24 (fun bs w hS => session_Copy s w (Sl.rd.kp hs hS.kp) (small_sess (by assumption)))
 rintro y1 hF1
 refine m_split2 ?_
 obtain ⟨A1, c1, S1⟩ := y1
 have hF1 : S1.map CSession.abs = s.xs.map CSession.abs := hF1
 refine m_perm (R' := [ownL (keptR 95) S1, rowA 87 A1 c1 (S1 : List CSession)]) (List.Perm.refl _) ?_
 have hnm1 := sess_texts (y := (⟨A1, c1, S1⟩ : Sl CSession)) (hs) hF1
 have hlen1 : S1.length = s.xs.length := by simpa using congrArg List.length hF1
 refine m_know (F := ∀ i, i < S1.length → Rds.ok (S1.getD i default)) (fun bs w hS i hi => Rds.okof (B := anyB) (w := w) (own_elt (hS.res _ i0) hnm1 (mem_of_getD hi))) fun okown1 => ?_
 refine m_know (F := RowOk A1 c1 (S1 : List CSession)) (fun bs w hS => rowA_rok (hS.res _ i1)) fun hrow1 => ?_
 have nchrow1 := hrow1.2
 have hml1 : (S1.map CSession.abs).length = S1.length := by simp
 have hm1 : mSess (S1.map CSession.abs) n = 0 := by rw [hF1]; assumption
 refine Mp ?_ Tryz.call26 (fun bs w hS => session_find (⟨A1, c1, S1⟩ : Sl CSession) t w (own_sess (hS.res _ i0) (hS.res _ i1) hnm1) (show S1.length ≤ 1048576 by omega))
 have hbs := bsf_sess (L := S1) (index := n) (t := t) (by rw [hF1]; assumption) ht
 have hJb := mIdx_bd (fun x : DSession => decide (x.client = t)) (S1.map CSession.abs)
 generalize hJ : mIdx (fun x : DSession => decide (x.client = t)) (S1.map CSession.abs) = J at hbs hJb
 have hkl := mBS_le (fun x : CSession => IntKind.i64.wrap (x.client - t)) S1
 generalize hk : mBS (fun x : CSession => IntKind.i64.wrap (x.client - t)) S1 = k at hbs hkl ⊢
 generalize hf : mBSf (fun x : CSession => IntKind.i64.wrap (x.client - t)) S1 = fb at hbs ⊢
 refine Mbn fb (fun h2 => ?_) fun h2 => ?_
 rotate_left
 · have h0J := of_decide_eq_false (hbs.1.symm.trans h2)
   rw [← hF1]
   have hm : mKeep (S1.map CSession.abs) n t q r = ([], 11) := by
     grind [mKeep, sIdx]
   exact Me2 hm Sl.nil rfl fun bs w hS => hS.outS (Sl.rd_nil _ _)
 have hkJ := hbs.2 h2
 subst hkJ
 have hk5 := sess_all hm1 (k := k) (by omega)
 have hk6 : (S1.getD k default).replies.xs.length ≤ 4 := mReplies_len hk5.2.2.2.2
 have hk7 : (S1.getD k default).replies.n = (S1.getD k default).replies.xs.length := rfl
 refine Mi ?_ (pc (pIo 36 (k : Int) k S1.length i1) (pFo 41 k 4 1 i1))
 refine Mp ?_ Tryz.call70 (fun bs w hS => bs_session_Keep_1 (S1.getD k default).replies q w (own_elt (hS.res _ i0) hnm1 (mem_of_getD (i := k) (by omega))) (by show (Sl.xs _).length ≤ 1048576; omega))
 have hbk : mBSf (fun x : DKept => IntKind.i64.wrap (x.seq - q)) (S1.getD k default).replies.xs = decide (0 ≤ kIdx (S1.getD k default).replies.xs q) := bsf_kept (d := (S1.getD k default).abs) hk5.2.2.2.2 ⟨hk5.2.2.1, hk5.2.2.2.1⟩ hq
 rw [hbk]
 have hjl := mBS_le (fun x : DKept => IntKind.i64.wrap (x.seq - q)) (S1.getD k default).replies.xs
 generalize hj : mBS (fun x : DKept => IntKind.i64.wrap (x.seq - q)) (S1.getD k default).replies.xs = j at hjl ⊢
 refine Md (0 ≤ kIdx (S1.getD k default).replies.xs q) (fun h3 => ?_) fun h3 => ?_
 · refine Mt [vn, vi 7] fun bs w hS => ?_
   rw [← hF1]
   have hm : mKeep (S1.map CSession.abs) n t q r = ([], 7) := by
     unfold mKeep sIdx
     simp only [hJ, Int.toNat_natCast, sgetD, List.length_map]
     repeat (first | rw [if_pos (by first | assumption | omega)] | rw [if_neg (by first | assumption | omega | (intro h0; first | exact absurd h0 (by assumption) | (simp_all; done)))])
     all_goals rfl
   refine ⟨Sl.nil, ?_, ?_, hS.outS (Sl.rd_nil _ _)⟩
   · rw [hm] <;> rfl
   · rw [hm] <;> rfl
 have hkn : kIdx (S1.getD k default).replies.xs q < 0 := by omega
 refine m_part2 (rowA 95 (S1.getD k default).replies.A (S1.getD k default).replies.c ((S1.getD k default).replies.xs : List DKept)) (ownL (keptR 95) (List.eraseIdx S1 k)) (ownL_get_fp (keptR 95) (i := k) (by omega)) (fun w h => ownL_get_p (keptR 95) (i := k) (by omega) w h) ?_
 refine Mda 13 [] [] [ownL (keptR 95) (List.eraseIdx S1 k), rowA 87 A1 c1 (S1 : List CSession)] Tryz_mixed ?_ (hR := (.cons _ (List.Sublist.refl _)))
 refine Mih ?_ (pFo 51 k 4 1 i1) (hR := (.cons _ (List.Sublist.refl _)))
 refine M1 ?_ (hR := (.cons _ (List.Sublist.refl _)))
 refine Mtu ?_ Tryz.call72 (fun bs w hS => (insR_Kept (S1.getD k default).replies.A (S1.getD k default).replies.c (S1.getD k default).replies.xs j _ (⟨q, ⟨r.code, r.n, r.text⟩⟩ : DKept) (bs.getD 1 0) 95 w (hS.res _ i0) hS.head1.2.2 rfl (by omega) (by omega) (hS.loc 1 ⟨95, [vI q, vI r.code, vI r.n, vS r.text]⟩ (by kernel_rfl) (by simp)) (hS.ne_head (i := 1) (b := ⟨95, [vI q, vI r.code, vI r.n, vS r.text]⟩) (by kernel_rfl))).mono (fun e w' ⟨y, h1, h2⟩ => ⟨y, h1, trivial, h2⟩))
 rintro q3 _
 refine Mz ?_
 refine m_f2 ?_
 refine Ms k 4 (⟨(S1.getD k default).client, (S1.getD k default).id, (S1.getD k default).acked, (S1.getD k default).last, ⟨q3.1, q3.2, (S1.getD k default).replies.xs.take j ++ [(⟨q, ⟨r.code, r.n, r.text⟩⟩ : DKept)] ++ (S1.getD k default).replies.xs.drop j⟩⟩ : CSession) ?_ (by omega)
 intro L5 hL5 hlL5
 have hgL5 : L5.getD k default = (⟨(S1.getD k default).client, (S1.getD k default).id, (S1.getD k default).acked, (S1.getD k default).last, ⟨q3.1, q3.2, (S1.getD k default).replies.xs.take j ++ [(⟨q, ⟨r.code, r.n, r.text⟩⟩ : DKept)] ++ (S1.getD k default).replies.xs.drop j⟩⟩ : CSession) := by rw [hL5]; exact getD_set (by omega)
 have hbL5 : L5 = List.set S1 k (⟨(S1.getD k default).client, (S1.getD k default).id, (S1.getD k default).acked, (S1.getD k default).last, ⟨q3.1, q3.2, (S1.getD k default).replies.xs.take j ++ [(⟨q, ⟨r.code, r.n, r.text⟩⟩ : DKept)] ++ (S1.getD k default).replies.xs.drop j⟩⟩ : CSession) := by rw [hL5]
 refine Mi ?_ (pEk 62 k hgL5 i0)
 have hszk : ∀ z, z ∈ (S1.getD k default).replies.xs.take j ++ [(⟨q, ⟨r.code, r.n, r.text⟩⟩ : DKept)] ++ (S1.getD k default).replies.xs.drop j → z.reply.text.size ≤ 9223372036854775807 := fun z hz => by simp only [List.mem_append, List.mem_singleton] at hz; rcases hz with (hz | hz) | hz; exact hnm1 _ (mem_of_getD (L := S1) (i := k) (by omega)) z (List.mem_of_mem_take hz); subst hz; exact hr; exact hnm1 _ (mem_of_getD (L := S1) (i := k) (by omega)) z (List.mem_of_mem_drop hz)
 refine Mp ?_ (v := vb (mReplies (⟨(S1.getD k default).client, (S1.getD k default).id, (S1.getD k default).acked, (S1.getD k default).last, (S1.getD k default).replies.xs.take j ++ [(⟨q, ⟨r.code, r.n, r.text⟩⟩ : DKept)] ++ (S1.getD k default).replies.xs.drop j⟩ : DSession))) Tryz.call51 (fun bs w hS => session_replies (⟨(S1.getD k default).client, (S1.getD k default).id, (S1.getD k default).acked, (S1.getD k default).last, ⟨q3.1, q3.2, (S1.getD k default).replies.xs.take j ++ [(⟨q, ⟨r.code, r.n, r.text⟩⟩ : DKept)] ++ (S1.getD k default).replies.xs.drop j⟩⟩ : CSession) w (Rr (B := anyB) (hS.res _ i1) (fun _ _ => trivial) hszk) ⟨hk5.2.2.1, hk5.2.2.2.1⟩)
 have hmk := kept_ins (d := (S1.getD k default).abs) hk5.2.2.2.2 ⟨hk5.2.2.1, hk5.2.2.2.1⟩ r (by show mIdx _ _ < 0; exact hkn) hj
 have hmr : mReplies (⟨(S1.getD k default).client, (S1.getD k default).id, (S1.getD k default).acked, (S1.getD k default).last, (S1.getD k default).replies.xs.take j ++ [(⟨q, ⟨r.code, r.n, r.text⟩⟩ : DKept)] ++ (S1.getD k default).replies.xs.drop j⟩ : DSession) = mReplies (kIns (S1.getD k default).abs q r) := hmk.1
 rw [hmr]
 refine Mbn (mReplies (kIns (S1.getD k default).abs q r)) (fun h4 => ?_) fun h4 => ?_
 rotate_left
 · refine Mt [vn, vi 2] fun bs w hS => ?_
   rw [← hF1]
   have hm : mKeep (S1.map CSession.abs) n t q r = ([], 2) := by
     unfold mKeep sIdx
     simp only [hJ, Int.toNat_natCast, sgetD, List.length_map]
     repeat (first | rw [if_pos (by first | assumption | omega)] | rw [if_neg (by first | assumption | omega | (intro h0; first | exact absurd h0 (by assumption) | (simp_all; done)))])
     all_goals rfl
   refine ⟨Sl.nil, ?_, ?_, hS.outS (Sl.rd_nil _ _)⟩
   · rw [hm] <;> rfl
   · rw [hm] <;> rfl
 refine Mt [.slice A1 S1.length c1, vi 0] fun bs w hS => ?_
 rw [← hF1]
 have hvx := setS_map hbL5
 have hxe : ((⟨(S1.getD k default).client, (S1.getD k default).id, (S1.getD k default).acked, (S1.getD k default).last, ⟨q3.1, q3.2, (S1.getD k default).replies.xs.take j ++ [(⟨q, ⟨r.code, r.n, r.text⟩⟩ : DKept)] ++ (S1.getD k default).replies.xs.drop j⟩⟩ : CSession)).abs = kIns (S1.getD k default).abs q r := by exact congrArg (fun l => (⟨(S1.getD k default).client, (S1.getD k default).id, (S1.getD k default).acked, (S1.getD k default).last, l⟩ : DSession)) (hmk.2 (by assumption))
 rw [hxe] at hvx
 have hm : mKeep (S1.map CSession.abs) n t q r = ((S1.map CSession.abs).set k (kIns (S1.getD k default).abs q r), 0) := by
   unfold mKeep sIdx
   simp only [hJ, Int.toNat_natCast, sgetD, List.length_map]
   repeat (first | rw [if_pos (by first | assumption | omega)] | rw [if_neg (by first | assumption | omega | (intro h0; first | exact absurd h0 (by assumption) | (simp_all; done)))])
   all_goals rfl
 refine ⟨⟨A1, c1, L5⟩, ?_, ?_, hS.outS (y := (⟨A1, c1, L5⟩ : Sl CSession)) (out_sessG i0 hS.res (fun x hx => ?_))⟩
 · have hll : S1.length = L5.length := by rw [hbL5, List.length_set]
   rw [hm]
   exact congrArg (fun q => Ending.returned (.tuple #[.slice A1 q c1, vi 0])) hll
 · exact Eq.trans hvx (congrArg Prod.fst hm).symm
 · rw [hbL5] at hx
   rcases mem_set_ne hx with hx | hx
   · subst hx; exact allR_row i1 (hS.res _ i1) hszk
   · exact own_in i2 hS.res (fun z hz => hnm1 z (List.mem_of_mem_eraseIdx hz)) hx
theorem lock_begin_1 (x : CLock) (t : ByteArray) (w : World) : Calls Tryz.prog 122 #[x.val, vs t] w fun e w' => e = .returned (vi (cmpS x.name t)) ∧ Kp [] w w' := by
 refine M0 ?_ Tryz.func122
 refine Mp ?_ Tryz.call93 (fun bs w hS => strings_Compare x.name t w)
 exact Mt [vi (cmpS x.name t)] fun bs w hS => ⟨rfl, hS.kp⟩
theorem bs_lock_begin_1 {B : Nat → Prop} (s : Sl CLock) (t : ByteArray) (w : World) (hs : s.rd B w) (hn : s.n ≤ 1048576) : Calls Tryz.prog 91 #[s.val, vs t, .func (.func 122) #[] #[]] w fun e w' => e = .returned (.tuple #[vi (mBS (fun x : CLock => cmpS x.name t) s.xs : Nat), vb (mBSf (fun x : CLock => cmpS x.name t) s.xs)]) ∧ Kp [] w w' := by
 have oks := Sl.rd.ok hs
 have ncs := Sl.ok.nc oks
 have hns : s.n = s.xs.length := rfl
 refine Mj ?_ Tryz.func91 (WS.start w)
 refine Ml (σ := Nat × Nat × Nat) (fun ⟨i, j, f⟩ => i ≤ j ∧ j ≤ s.n ∧ j - i ≤ f ∧ mBS (fun x : CLock => cmpS x.name t) s.xs = bsGo (fun j => decide (cmpS (s.at j).name t < 0)) f i j) (fun ⟨i, j, f⟩ => f) (fun _ => []) [10, 9, 8, 0, 1, 2] (fun ⟨i, j, f⟩ => [(10, vI (j : Int)), (9, vI (i : Int))]) (fun _ => []) ?_ (⟨0, s.n, s.n⟩) ⟨Nat.zero_le _, Nat.le_refl _, Nat.le_refl _, rfl⟩
 rintro ⟨i, j, f⟩ ⟨h1, h2, h3, hI⟩ _ on1
 have hdiv : ((i : Int) + (j : Int)) / 2 = (((i + j) / 2 : Nat) : Int) := by omega
 refine Md ((i : Int) < (j : Int)) (fun h1 => ?_) fun h1 => ?_
 rotate_left
 · refine Md ((i : Int) < (s.n : Int)) (fun h3 => ?_) fun h3 => ?_
   rotate_left
   · refine Mt [vi (i : Int), vb false] fun bs w hS => ?_
     have hij : i = j := by omega
     subst hij
     have hr : mBS (fun x : CLock => cmpS x.name t) s.xs = i := by rw [hI]; exact bsGo_end _ _ _ _ (Nat.le_refl _)
     refine ⟨?_, hS.kp⟩
     have hr2 : mBSf (fun x : CLock => cmpS x.name t) s.xs = false := by
       unfold mBSf; rw [hr]
       rw [decide_eq_false (show ¬ i < s.xs.length by omega)]; rfl
     rw [hr, hr2]
     rfl
   refine Mi ?_ (pA 43 44 (i : Int) i (rdk hs))
   refine Mp ?_ Tryz.call122 (fun bs w hS => lock_begin_1 (s.at i) t w)
   refine Mt [vi (i : Int), vb (decide (cmpS (s.at i).name t = 0))] fun bs w hS => ?_
   have hij : i = j := by omega
   subst hij
   have hr : mBS (fun x : CLock => cmpS x.name t) s.xs = i := by rw [hI]; exact bsGo_end _ _ _ _ (Nat.le_refl _)
   refine ⟨?_, hS.kp⟩
   have hr2 : mBSf (fun x : CLock => cmpS x.name t) s.xs = (decide (cmpS (s.at i).name t = 0)) := by
     unfold mBSf; rw [hr]
     rw [decide_eq_true (show i < s.xs.length by omega)]; rfl
   rw [hr, hr2]
   rfl
 refine Mi ?_ (pc (pR ((i : Int) + (j : Int))) (pc (pG [(21, .val (.int .u64 ((i : Int) + (j : Int))))] (oc ((conv_i64_u64 Tryz.underlying3 Tryz.underlying175 (by omega) (by omega)) : ∀ w, (convert 3 175 (vi ((i : Int) + (j : Int))) : Sem Value).run Tryz.prog w = .ok (.int .u64 ((i : Int) + (j : Int))) w) on)) (pc (pG [(22, .val (.int .u64 (((i : Int) + (j : Int)) / 2)))] (oc (shr_u64 : ∀ w, (do eqGuard .shr 175 (.tmp 21) (.const (.int .u64 1)) (.int .u64 ((i : Int) + (j : Int))) (.int .u64 1); binOp .shr 175 (.int .u64 ((i : Int) + (j : Int))) (.int .u64 1) : Sem Value).run Tryz.prog w = .ok (.int .u64 (((i : Int) + (j : Int)) / 2)) w) on)) (pc (pG [(23, .val (vi (((i : Int) + (j : Int)) / 2)))] (oc ((conv_u64_i64 Tryz.underlying175 Tryz.underlying3 (by omega) (by omega)) : ∀ w, (convert 175 3 (.int .u64 (((i : Int) + (j : Int)) / 2)) : Sem Value).run Tryz.prog w = .ok (vi (((i : Int) + (j : Int)) / 2)) w) on)) (pA 27 28 (((i : Int) + (j : Int)) / 2) (((i : Int) + (j : Int)) / 2).toNat (rdk hs))))))
 refine Mp ?_ Tryz.call122 (fun bs w hS => lock_begin_1 (s.at (((i : Int) + (j : Int)) / 2).toNat) t w)
 refine Md (cmpS (s.at (((i : Int) + (j : Int)) / 2).toNat).name t < 0) (fun h2 => ?_) fun h2 => ?_
 rotate_left
 · have hf1 : f = (f - 1) + 1 := by omega
   rw [hf1] at hI
   have hI2 := hI.trans (bsGo_down (by omega) (decide_eq_false (by assumption)))
   exact on1 ⟨i, (i + j) / 2, f - 1⟩ ⟨by omega, by omega, by omega, hI2⟩ (by show f - 1 < f; omega)
 refine Mi ?_ (pR ((((i : Int) + (j : Int)) / 2) + 1))
 have hf1 : f = (f - 1) + 1 := by omega
 rw [hf1] at hI
 have hI2 := hI.trans (bsGo_up (by omega) (decide_eq_true (by assumption)))
 exact on1 ⟨(i + j) / 2 + 1, j, f - 1⟩ ⟨by omega, by omega, by omega, hI2⟩ (by show f - 1 < f; omega)
theorem lock_begin {B : Nat → Prop} (s : Sl CLock) (t : ByteArray) (who : Int) (w : World) (hs : s.rd B w) (ht : t.size ≤ 9223372036854775807) : Calls Tryz.prog 94 #[s.val, vs t, vi who] w fun e w' => (¬ mAsk (s.xs.map CLock.abs) t who = 0 ∧ e = .returned (.tuple #[vn, vi 0, vb false, vi (mAsk (s.xs.map CLock.abs) t who)]) ∧ Kp [] w w') ∨ (mAsk (s.xs.map CLock.abs) t who = 0 ∧ ∃ y : Sl CLock, e = .returned (.tuple #[y.val, vi ((mBS (fun x : CLock => cmpS x.name t) s.xs : Nat) : Int), vb (mBSf (fun x : CLock => cmpS x.name t) s.xs), vi 0]) ∧ y.xs.map CLock.abs = s.xs.map CLock.abs ∧ Kp [] w w' ∧ Fresh w w' (locksR 129 3 y)) := by
 have oks := Sl.rd.ok hs
 have ncs := Sl.ok.nc oks
 have hns : s.n = s.xs.length := rfl
 refine M0 ?_ Tryz.func94
 refine Mp ?_ Tryz.call56 (fun bs w hS => lock_Check s w (Sl.rd.kp hs hS.kp))
 refine Mdn (mLocks (s.xs.map CLock.abs) = 0) (fun h1 => ?_) fun h1 => ?_
 rotate_left
 · refine Mt [vn, vi 0, vb false, vi (mLocks (s.xs.map CLock.abs))] fun bs w hS => ?_
   have hm : mAsk (s.xs.map CLock.abs) t who = mLocks (s.xs.map CLock.abs) := by
     unfold mAsk
     repeat (first | rw [if_pos (by first | assumption | omega)] | rw [if_neg (by first | assumption | omega | (simp_all; done))])
     try rfl
     try omega
   refine .inl ⟨?_, ?_, hS.kp⟩
   · rw [hm]; first | assumption | omega
   · rw [hm] <;> rfl
 have hln := (mLocks_bd h1).1
 have hln2 : s.xs.length ≤ 5 := by simpa using hln
 refine Mp ?_ Tryz.call82 (fun bs w hS => lock_Name _ w (by first | assumption | omega | (simp only [emp_size]; omega)))
 refine Mbn (mName t) (fun h2 => ?_) fun h2 => ?_
 rotate_left
 · refine Mt [vn, vi 0, vb false, vi 4] fun bs w hS => ?_
   have hm : mAsk (s.xs.map CLock.abs) t who = 4 := by
     unfold mAsk
     repeat (first | rw [if_pos (by first | assumption | omega)] | rw [if_neg (by first | assumption | omega | (simp_all; done))])
     try rfl
     try omega
   refine .inl ⟨?_, ?_, hS.kp⟩
   · rw [hm]; first | assumption | omega
   · rw [hm] <;> rfl
 refine Mp ?_ Tryz.call83 (fun bs w hS => lock_client who w)
 refine Mbn (inB who 1 9) (fun h3 => ?_) fun h3 => ?_
 rotate_left
 · simp only [iT, iF] at h3
   refine Mt [vn, vi 0, vb false, vi 2] fun bs w hS => ?_
   have hm : mAsk (s.xs.map CLock.abs) t who = 2 := by
     unfold mAsk
     repeat (first | rw [if_pos (by first | assumption | omega)] | rw [if_neg (by first | assumption | omega | (simp_all; done))])
     try rfl
     try omega
   refine .inl ⟨?_, ?_, hS.kp⟩
   · rw [hm]; first | assumption | omega
   · rw [hm] <;> rfl
 simp only [iT, iF] at h3
 refine Mp ?_ Tryz.call91 (fun bs w hS => bs_lock_begin_1 s t w (Sl.rd.kp hs hS.kp) (show s.xs.length ≤ 1048576 by omega))
 refine Mf ?_ Tryz.call58 (fun bs w hS => lock_Copy s w (Sl.rd.kp hs hS.kp) (small_locks (by assumption)))
 rintro y1 hF1
 refine Mt [y1.val, vi ((mBS (fun x : CLock => cmpS x.name t) s.xs : Nat) : Int), vb (mBSf (fun x : CLock => cmpS x.name t) s.xs), vi 0] fun bs w hS => ?_
 have hm : mAsk (s.xs.map CLock.abs) t who = 0 := by
   unfold mAsk
   repeat (first | rw [if_pos (by first | assumption | omega)] | rw [if_neg (by first | assumption | omega | (simp_all; done))])
   try rfl
   try omega
 exact .inr ⟨hm, y1, rfl, hF1, hS.kp, hS.out1⟩
theorem lock_Take {B : Nat → Prop} (s : Sl CLock) (t : ByteArray) (who : Int) (wait : Bool) (w : World) (hs : s.rd B w) (ht : t.size ≤ 9223372036854775807) : Calls Tryz.prog 66 #[s.val, vs t, vi who, .bool wait] w fun e w' => ∃ y : Sl CLock, e = .returned (.tuple #[y.val, ((mTake (s.xs.map CLock.abs) t who wait).2.1).val, vi (mTake (s.xs.map CLock.abs) t who wait).2.2]) ∧ y.xs.map CLock.abs = (mTake (s.xs.map CLock.abs) t who wait).1 ∧ FreshS w w' y := by
 have oks := Sl.rd.ok hs
 have ncs := Sl.ok.nc oks
 have hns : s.n = s.xs.length := rfl
 refine M0 ?_ Tryz.func66
 by_cases h1 : mAsk (s.xs.map CLock.abs) t who = 0
 rotate_left
 · refine Mp ?_ Tryz.call94 (fun bs w hS => (lock_begin s t who w (Sl.rd.kp hs hS.kp) (by first | assumption | omega | (simp only [emp_size]; omega))).mono (fun e w' h => (h.resolve_right (fun h9 => h1 h9.1)).2))
   refine My false true ?_ (df h1)
   refine Mt [vn, vz 0, vi (mAsk (s.xs.map CLock.abs) t who)] fun bs w hS => ?_
   have hm : mTake (s.xs.map CLock.abs) t who wait = ([], zRep, mAsk (s.xs.map CLock.abs) t who) := by
     grind [mTake]
   refine ⟨Sl.nil, ?_, ?_, hS.outS (Sl.rd_nil _ _)⟩
   · rw [hm] <;> rfl
   · rw [hm] <;> rfl
 refine Mf ?_ Tryz.call94 (fun bs w hS => (lock_begin s t who w (Sl.rd.kp hs hS.kp) (by first | assumption | omega | (simp only [emp_size]; omega))).mono (fun e w' h => (h.resolve_left (fun h9 => h9.1 h1)).2))
 rintro y1 hF1
 refine m_split2 ?_
 obtain ⟨A1, c1, S1⟩ := y1
 have hF1 : S1.map CLock.abs = s.xs.map CLock.abs := hF1
 refine m_perm (R' := [ownL (lineR 3) S1, rowA 129 A1 c1 (S1 : List CLock)]) (List.Perm.refl _) ?_
 have hnm1 := locks_names (y := (⟨A1, c1, S1⟩ : Sl CLock)) hs hF1
 have hlen1 : S1.length = s.xs.length := by simpa using congrArg List.length hF1
 refine m_know (F := ∀ i, i < S1.length → Rds.ok (S1.getD i default)) (fun bs w hS i hi => Rds.okof (B := anyB) (w := w) (own_eltL (hS.res _ i0) hnm1 (mem_of_getD hi))) fun okown1 => ?_
 refine m_know (F := RowOk A1 c1 (S1 : List CLock)) (fun bs w hS => rowA_rok (hS.res _ i1)) fun hrow1 => ?_
 have nchrow1 := hrow1.2
 have hask := mAsk_ok h1
 have hm1 : mLocks (S1.map CLock.abs) = 0 := by rw [hF1]; exact hask.1
 have hw1 := hask.2.2.1
 have hw2 := hask.2.2.2
 have hln5 : S1.length ≤ 5 := by have h9 := (mLocks_bd hm1).1; simpa using h9
 have hbsS : mBS (fun x : CLock => cmpS x.name t) s.xs = mBS (fun x : CLock => cmpS x.name t) S1 := mBS_abs (L := s.xs) (L2 := S1) (f := CLock.abs) (c := fun x : DLock => cmpS x.name t) rfl hF1.symm
 have hbfS : mBSf (fun x : CLock => cmpS x.name t) s.xs = mBSf (fun x : CLock => cmpS x.name t) S1 := mBSf_abs (L := s.xs) (L2 := S1) (f := CLock.abs) (c := fun x : DLock => cmpS x.name t) rfl hF1.symm
 rw [hbsS, hbfS]
 have hbs := bsf_lock (L := S1) hm1 t
 have hJb := mIdx_bd (fun x : DLock => decide (x.name = t)) (S1.map CLock.abs)
 rw [List.length_map] at hJb
 generalize hJ : mIdx (fun x : DLock => decide (x.name = t)) (S1.map CLock.abs) = J at hbs hJb
 have hkl := mBS_le (fun x : CLock => cmpS x.name t) S1
 generalize hk : mBS (fun x : CLock => cmpS x.name t) S1 = k at hbs hkl ⊢
 generalize hf : mBSf (fun x : CLock => cmpS x.name t) S1 = fb at hbs ⊢
 refine Mq 24 false ?_ rfl
 refine Mbx fb true [(12, false)] (fun h2 => ?_) fun h2 => ?_
 rotate_left
 · have h0J := of_decide_eq_false (hbs.1.symm.trans h2)
   refine Md ((S1.length : Int) = 5) (fun h11 => ?_) fun h11 => ?_
   · refine Mt [.slice A1 S1.length c1, vz 8, vi 0] fun bs w hS => ?_
     have hask0 : mAsk (S1.map CLock.abs) t who = 0 := by rw [hF1]; assumption
     rw [← hF1]
     have hq1 : (S1.getD k default).abs.holder = (S1.getD k default).holder := rfl
     have hq2 : (S1.getD k default).abs.fence = (S1.getD k default).fence := rfl
     have hq3 : (S1.getD k default).abs.line = (S1.getD k default).line.xs := rfl
     have hq4 : (S1.getD k default).abs.name = (S1.getD k default).name := rfl
     have hm : mTake (S1.map CLock.abs) t who wait = (S1.map CLock.abs, ⟨8, 0, emp⟩, 0) := by
       grind [mTake, lIdx]
     refine ⟨⟨A1, c1, S1⟩, ?_, ?_, hS.outS (y := (⟨A1, c1, S1⟩ : Sl CLock)) (out_locksG i1 hS.res (fun x hx => ?_))⟩
     · rw [hm] <;> rfl
     · exact (congrArg Prod.fst hm).symm
     · exact ⟨hnm1 x hx, own_inL i0 hS.res hx⟩
   refine M1 ?_
   refine m_f1 ?_
   refine Mtu ?_ Tryz.call95 (fun bs w hS => (insR_Lock A1 c1 S1 k _ (⟨t, who, 1, Sl.nil⟩ : CLock) (bs.getD 1 0) 129 w (hS.res _ i0) hS.head1.2.2 rfl (by omega) (by omega) (hS.loc 1 ⟨129, [vS t, vI who, vI 1, .v vn]⟩ (by kernel_rfl) (by simp)) (hS.ne_head (i := 1) (b := ⟨129, [vS t, vI who, vI 1, .v vn]⟩) (by kernel_rfl))).mono (fun e w' ⟨y, h1, h2⟩ => ⟨y, h1, trivial, h2⟩))
   rintro q7 _
   refine Mt [.slice q7.1 (S1.take k ++ [(⟨t, who, 1, Sl.nil⟩ : CLock)] ++ S1.drop k).length q7.2, .agg #[vi 0, vi 1, ve], vi 0] fun bs w hS => ?_
   have hask0 : mAsk (S1.map CLock.abs) t who = 0 := by rw [hF1]; assumption
   rw [← hF1]
   have hq1 : (S1.getD k default).abs.holder = (S1.getD k default).holder := rfl
   have hq2 : (S1.getD k default).abs.fence = (S1.getD k default).fence := rfl
   have hq3 : (S1.getD k default).abs.line = (S1.getD k default).line.xs := rfl
   have hq4 : (S1.getD k default).abs.name = (S1.getD k default).name := rfl
   have hvy : S1.take k ++ [(⟨t, who, 1, Sl.nil⟩ : CLock)] ++ S1.drop k = mIns (fun x : CLock => Op.bytesLess t.toList x.name.toList) (⟨t, who, 1, Sl.nil⟩ : CLock) S1 := ins_at ((ins_lock hm1 (by rw [hJ]; omega)).trans hk)
   have hvx := insL_map hvy
   have hm : mTake (S1.map CLock.abs) t who wait = (mIns (fun x : DLock => Op.bytesLess t.toList x.name.toList) ⟨t, who, 1, []⟩ (S1.map CLock.abs), ⟨0, 1, emp⟩, 0) := by
     grind [mTake, lIdx]
   refine ⟨⟨q7.1, q7.2, S1.take k ++ [(⟨t, who, 1, Sl.nil⟩ : CLock)] ++ S1.drop k⟩, ?_, ?_, hS.outS (y := (⟨q7.1, q7.2, S1.take k ++ [(⟨t, who, 1, Sl.nil⟩ : CLock)] ++ S1.drop k⟩ : Sl CLock)) (out_locksG i0 hS.res (fun x hx => ?_))⟩
   · rw [hm] <;> rfl
   · exact Eq.trans hvx (congrArg Prod.fst hm).symm
   · rw [hvy] at hx
     rcases ins_mem hx with hx | hx
     · subst hx; exact ⟨ht, Sl.rd_nil _ _⟩
     · exact ⟨hnm1 x hx, own_inL i1 hS.res hx⟩
 have hkJ := hbs.2 h2
 subst hkJ
 have hk5 := lock_all hm1 (k := k) (by omega)
 obtain ⟨hk51, hk52, hk53, hk54, hk55, hk56⟩ := hk5
 have hk7 : (S1.getD k default).line.n = (S1.getD k default).line.xs.length := rfl
 refine Mi ?_ (pc (pIo 52 (k : Int) k S1.length i1) (pFo 57 k 1 1 i1))
 refine Md ((S1.getD k default).holder = who) (fun h3 => ?_) fun h3 => ?_
 · refine Mda 9 [] [0] [ownL (lineR 3) S1, rowA 129 A1 c1 (S1 : List CLock)] Tryz_mixed ?_
   refine Mih ?_ (pFo 64 k 2 1 i1)
   refine Mz ?_
   refine Mt [.slice A1 S1.length c1, .agg #[vi 0, vi (S1.getD k default).fence, ve], vi 0] fun bs w hS => ?_
   have hask0 : mAsk (S1.map CLock.abs) t who = 0 := by rw [hF1]; assumption
   rw [← hF1]
   have hq1 : (S1.getD k default).abs.holder = (S1.getD k default).holder := rfl
   have hq2 : (S1.getD k default).abs.fence = (S1.getD k default).fence := rfl
   have hq3 : (S1.getD k default).abs.line = (S1.getD k default).line.xs := rfl
   have hq4 : (S1.getD k default).abs.name = (S1.getD k default).name := rfl
   have hlt : lTake (S1.getD k default).abs who wait = ((S1.getD k default).abs, ⟨0, (S1.getD k default).fence, emp⟩) := by
     grind [lTake]
   have hm : mTake (S1.map CLock.abs) t who wait = (S1.map CLock.abs, ⟨0, (S1.getD k default).fence, emp⟩, 0) := by
     unfold mTake lIdx
     simp only [hJ, Int.toNat_natCast, lgetD, List.length_map]
     rw [hlt]
     repeat (first | rw [if_pos (by first | assumption | omega)] | rw [if_neg (by first | assumption | omega | (intro h0; first | exact absurd h0 (by assumption) | (simp_all; done)))])
     all_goals (show ((S1.map CLock.abs).set k (S1.getD k default).abs, _, _) = _; rw [← lgetD, set_getD (by rw [List.length_map]; omega)])
   refine ⟨⟨A1, c1, S1⟩, ?_, ?_, hS.outS (y := (⟨A1, c1, S1⟩ : Sl CLock)) (out_locksG i1 hS.res (fun x hx => ?_))⟩
   · rw [hm] <;> rfl
   · exact (congrArg Prod.fst hm).symm
   · exact ⟨hnm1 x hx, own_inL i0 hS.res hx⟩
 refine Mi ?_ (pFo 70 k 1 1 i1)
 refine Md ((S1.getD k default).holder = 0) (fun h4 => ?_) fun h4 => ?_
 · refine Mi ?_ (pFo 76 k 2 1 i1)
   refine Md ((S1.getD k default).fence = 1073741824) (fun h5 => ?_) fun h5 => ?_
   · refine Mt [.slice A1 S1.length c1, vz 8, vi 0] fun bs w hS => ?_
     have hask0 : mAsk (S1.map CLock.abs) t who = 0 := by rw [hF1]; assumption
     rw [← hF1]
     have hq1 : (S1.getD k default).abs.holder = (S1.getD k default).holder := rfl
     have hq2 : (S1.getD k default).abs.fence = (S1.getD k default).fence := rfl
     have hq3 : (S1.getD k default).abs.line = (S1.getD k default).line.xs := rfl
     have hq4 : (S1.getD k default).abs.name = (S1.getD k default).name := rfl
     have hlt : lTake (S1.getD k default).abs who wait = ((S1.getD k default).abs, ⟨8, 0, emp⟩) := by
       grind [lTake]
     have hm : mTake (S1.map CLock.abs) t who wait = (S1.map CLock.abs, ⟨8, 0, emp⟩, 0) := by
       unfold mTake lIdx
       simp only [hJ, Int.toNat_natCast, lgetD, List.length_map]
       rw [hlt]
       repeat (first | rw [if_pos (by first | assumption | omega)] | rw [if_neg (by first | assumption | omega | (intro h0; first | exact absurd h0 (by assumption) | (simp_all; done)))])
       all_goals (show ((S1.map CLock.abs).set k (S1.getD k default).abs, _, _) = _; rw [← lgetD, set_getD (by rw [List.length_map]; omega)])
     refine ⟨⟨A1, c1, S1⟩, ?_, ?_, hS.outS (y := (⟨A1, c1, S1⟩ : Sl CLock)) (out_locksG i1 hS.res (fun x hx => ?_))⟩
     · rw [hm] <;> rfl
     · exact (congrArg Prod.fst hm).symm
     · exact ⟨hnm1 x hx, own_inL i0 hS.res hx⟩
   refine Mi ?_ (pFo 85 k 1 1 i1)
   refine My true false ?_ (dt h4)
   refine Mi ?_ (pc (pFo 93 k 2 1 i1) (pR ((S1.getD k default).fence + 1)))
   refine m_f1 ?_
   refine Ms k 1 (⟨(S1.getD k default).name, who, (S1.getD k default).fence, (S1.getD k default).line⟩ : CLock) ?_ (by omega)
   intro L3 hL3 hlL3
   have hgL3 : L3.getD k default = (⟨(S1.getD k default).name, who, (S1.getD k default).fence, (S1.getD k default).line⟩ : CLock) := by rw [hL3]; exact getD_set (by omega)
   have hbL3 : L3 = List.set S1 k (⟨(S1.getD k default).name, who, (S1.getD k default).fence, (S1.getD k default).line⟩ : CLock) := by rw [hL3]
   refine Ms k 2 (⟨(S1.getD k default).name, who, (S1.getD k default).fence + 1, (S1.getD k default).line⟩ : CLock) ?_ (by omega) (hg := hgL3)
   intro L4 hL4 hlL4
   have hgL4 : L4.getD k default = (⟨(S1.getD k default).name, who, (S1.getD k default).fence + 1, (S1.getD k default).line⟩ : CLock) := by rw [hL4]; exact getD_set (by omega)
   have hbL4 : L4 = List.set S1 k (⟨(S1.getD k default).name, who, (S1.getD k default).fence + 1, (S1.getD k default).line⟩ : CLock) := by rw [hL4, hbL3, List.set_set]
   refine Mda 9 [] [0] [rowA 129 A1 c1 (L4 : List CLock), ownL (lineR 3) S1] Tryz_mixed ?_
   refine Mih ?_ (pFk 103 k 2 1 hgL4 i0)
   refine Mz ?_
   refine Mt [.slice A1 S1.length c1, .agg #[vi 0, vi ((S1.getD k default).fence + 1), ve], vi 0] fun bs w hS => ?_
   have hask0 : mAsk (S1.map CLock.abs) t who = 0 := by rw [hF1]; assumption
   rw [← hF1]
   have hq1 : (S1.getD k default).abs.holder = (S1.getD k default).holder := rfl
   have hq2 : (S1.getD k default).abs.fence = (S1.getD k default).fence := rfl
   have hq3 : (S1.getD k default).abs.line = (S1.getD k default).line.xs := rfl
   have hq4 : (S1.getD k default).abs.name = (S1.getD k default).name := rfl
   have hvx := setL_map hbL4
   have hlt : lTake (S1.getD k default).abs who wait = (((⟨(S1.getD k default).name, who, (S1.getD k default).fence + 1, (S1.getD k default).line⟩ : CLock)).abs, ⟨0, (S1.getD k default).fence + 1, emp⟩) := by
     unfold lTake
     simp only [hq1, hq2, hq3, hq4]
     repeat (first | rw [if_pos (by first | assumption | omega | exact .inl (by assumption) | exact .inr (by assumption))] | rw [if_neg (by first | assumption | omega | (rintro (h8 | h8) <;> simp_all; done))])
     all_goals rfl
   have hm : mTake (S1.map CLock.abs) t who wait = ((S1.map CLock.abs).set k ((⟨(S1.getD k default).name, who, (S1.getD k default).fence + 1, (S1.getD k default).line⟩ : CLock)).abs, ⟨0, (S1.getD k default).fence + 1, emp⟩, 0) := by
     unfold mTake lIdx
     simp only [hJ, Int.toNat_natCast, lgetD, List.length_map]
     rw [hlt]
     repeat (first | rw [if_pos (by first | assumption | omega)] | rw [if_neg (by first | assumption | omega | (intro h0; first | exact absurd h0 (by assumption) | (simp_all; done)))])
     all_goals rfl
   refine ⟨⟨A1, c1, L4⟩, ?_, ?_, hS.outS (y := (⟨A1, c1, L4⟩ : Sl CLock)) (out_locksG i0 hS.res (fun x hx => ?_))⟩
   · have hll : S1.length = L4.length := by rw [hbL4, List.length_set]
     rw [hm]
     exact congrArg (fun q => Ending.returned (.tuple #[.slice A1 q c1, .agg #[vi 0, vi ((S1.getD k default).fence + 1), ve], vi 0])) hll
   · exact Eq.trans hvx (congrArg Prod.fst hm).symm
   · rw [hbL4] at hx
     rcases mem_set hx with hx | hx
     · subst hx; exact ⟨hnm1 (S1.getD k default) (mem_of_getD (L := S1) (i := k) (by omega)), own_inL (x := (S1.getD k default)) i1 hS.res (mem_of_getD (L := S1) (i := k) (by omega))⟩
     · exact ⟨hnm1 x hx, own_inL i1 hS.res hx⟩
 refine Mi ?_ (pFo 85 k 1 1 i1)
 refine My false false ?_ (df h4)
 refine Mbn wait (fun h8 => ?_) fun h8 => ?_
 rotate_left
 · refine Mda 9 [] [0] [ownL (lineR 3) S1, rowA 129 A1 c1 (S1 : List CLock)] Tryz_mixed ?_
   refine Mih ?_ (pFo 120 k 1 1 i1)
   refine Mz ?_
   refine Mt [.slice A1 S1.length c1, .agg #[vi 10, vi (S1.getD k default).holder, ve], vi 0] fun bs w hS => ?_
   have hask0 : mAsk (S1.map CLock.abs) t who = 0 := by rw [hF1]; assumption
   rw [← hF1]
   have hq1 : (S1.getD k default).abs.holder = (S1.getD k default).holder := rfl
   have hq2 : (S1.getD k default).abs.fence = (S1.getD k default).fence := rfl
   have hq3 : (S1.getD k default).abs.line = (S1.getD k default).line.xs := rfl
   have hq4 : (S1.getD k default).abs.name = (S1.getD k default).name := rfl
   have hlt : lTake (S1.getD k default).abs who wait = ((S1.getD k default).abs, ⟨10, (S1.getD k default).holder, emp⟩) := by
     grind [lTake]
   have hm : mTake (S1.map CLock.abs) t who wait = (S1.map CLock.abs, ⟨10, (S1.getD k default).holder, emp⟩, 0) := by
     unfold mTake lIdx
     simp only [hJ, Int.toNat_natCast, lgetD, List.length_map]
     rw [hlt]
     repeat (first | rw [if_pos (by first | assumption | omega)] | rw [if_neg (by first | assumption | omega | (intro h0; first | exact absurd h0 (by assumption) | (simp_all; done)))])
     all_goals (show ((S1.map CLock.abs).set k (S1.getD k default).abs, _, _) = _; rw [← lgetD, set_getD (by rw [List.length_map]; omega)])
   refine ⟨⟨A1, c1, S1⟩, ?_, ?_, hS.outS (y := (⟨A1, c1, S1⟩ : Sl CLock)) (out_locksG i1 hS.res (fun x hx => ?_))⟩
   · rw [hm] <;> rfl
   · exact (congrArg Prod.fst hm).symm
   · exact ⟨hnm1 x hx, own_inL i0 hS.res hx⟩
 refine Mi ?_ (pFo 112 k 3 1 i1)
 refine Mp ?_ Tryz.call96 (fun bs w hS => has_ints (S1.getD k default).line (S1.getD k default).line.n who w (own_eltL (hS.res _ i0) hnm1 (mem_of_getD (i := k) (by omega))).2 (by omega))
 have hlh : (((S1.getD k default).line.xs.take (S1.getD k default).line.n).any fun z => decide (z = who)) = lHas (S1.getD k default).abs who := by rw [take_all (Nat.le_refl _)]; rfl
 rw [hlh]
 refine Mb (lHas (S1.getD k default).abs who) (fun h9 => ?_) fun h9 => ?_
 · refine Mda 9 [] [0] [ownL (lineR 3) S1, rowA 129 A1 c1 (S1 : List CLock)] Tryz_mixed ?_
   refine Mih ?_ (pFo 120 k 1 1 i1)
   refine Mz ?_
   refine Mt [.slice A1 S1.length c1, .agg #[vi 10, vi (S1.getD k default).holder, ve], vi 0] fun bs w hS => ?_
   have hask0 : mAsk (S1.map CLock.abs) t who = 0 := by rw [hF1]; assumption
   rw [← hF1]
   have hq1 : (S1.getD k default).abs.holder = (S1.getD k default).holder := rfl
   have hq2 : (S1.getD k default).abs.fence = (S1.getD k default).fence := rfl
   have hq3 : (S1.getD k default).abs.line = (S1.getD k default).line.xs := rfl
   have hq4 : (S1.getD k default).abs.name = (S1.getD k default).name := rfl
   have hlt : lTake (S1.getD k default).abs who wait = ((S1.getD k default).abs, ⟨10, (S1.getD k default).holder, emp⟩) := by
     grind [lTake]
   have hm : mTake (S1.map CLock.abs) t who wait = (S1.map CLock.abs, ⟨10, (S1.getD k default).holder, emp⟩, 0) := by
     unfold mTake lIdx
     simp only [hJ, Int.toNat_natCast, lgetD, List.length_map]
     rw [hlt]
     repeat (first | rw [if_pos (by first | assumption | omega)] | rw [if_neg (by first | assumption | omega | (intro h0; first | exact absurd h0 (by assumption) | (simp_all; done)))])
     all_goals (show ((S1.map CLock.abs).set k (S1.getD k default).abs, _, _) = _; rw [← lgetD, set_getD (by rw [List.length_map]; omega)])
   refine ⟨⟨A1, c1, S1⟩, ?_, ?_, hS.outS (y := (⟨A1, c1, S1⟩ : Sl CLock)) (out_locksG i1 hS.res (fun x hx => ?_))⟩
   · rw [hm] <;> rfl
   · exact (congrArg Prod.fst hm).symm
   · exact ⟨hnm1 x hx, own_inL i0 hS.res hx⟩
 refine Mi ?_ (pFo 126 k 3 1 i1)
 refine Md ((((S1.getD k default).line.n : Nat) : Int) = 3) (fun h10 => ?_) fun h10 => ?_
 · refine Mt [.slice A1 S1.length c1, vz 8, vi 0] fun bs w hS => ?_
   have hask0 : mAsk (S1.map CLock.abs) t who = 0 := by rw [hF1]; assumption
   rw [← hF1]
   have hq1 : (S1.getD k default).abs.holder = (S1.getD k default).holder := rfl
   have hq2 : (S1.getD k default).abs.fence = (S1.getD k default).fence := rfl
   have hq3 : (S1.getD k default).abs.line = (S1.getD k default).line.xs := rfl
   have hq4 : (S1.getD k default).abs.name = (S1.getD k default).name := rfl
   have hlt : lTake (S1.getD k default).abs who wait = ((S1.getD k default).abs, ⟨8, 0, emp⟩) := by
     grind [lTake]
   have hm : mTake (S1.map CLock.abs) t who wait = (S1.map CLock.abs, ⟨8, 0, emp⟩, 0) := by
     unfold mTake lIdx
     simp only [hJ, Int.toNat_natCast, lgetD, List.length_map]
     rw [hlt]
     repeat (first | rw [if_pos (by first | assumption | omega)] | rw [if_neg (by first | assumption | omega | (intro h0; first | exact absurd h0 (by assumption) | (simp_all; done)))])
     all_goals (show ((S1.map CLock.abs).set k (S1.getD k default).abs, _, _) = _; rw [← lgetD, set_getD (by rw [List.length_map]; omega)])
   refine ⟨⟨A1, c1, S1⟩, ?_, ?_, hS.outS (y := (⟨A1, c1, S1⟩ : Sl CLock)) (out_locksG i1 hS.res (fun x hx => ?_))⟩
   · rw [hm] <;> rfl
   · exact (congrArg Prod.fst hm).symm
   · exact ⟨hnm1 x hx, own_inL i0 hS.res hx⟩
 refine m_part2 (rowA 3 (S1.getD k default).line.A (S1.getD k default).line.c ((S1.getD k default).line.xs : List Int)) (ownL (lineR 3) (List.eraseIdx S1 k)) (ownL_get_fp (lineR 3) (i := k) (by omega)) (fun w h => ownL_get_p (lineR 3) (i := k) (by omega) w h) ?_
 refine Mi ?_ (pFo 135 k 3 1 i2)
 refine M1 ?_
 refine Mal (α := Int) 8 ([who]) ?_
 intro A5 c5
 refine m_f2 ?_
 refine Ms k 3 (⟨(S1.getD k default).name, (S1.getD k default).holder, (S1.getD k default).fence, ⟨A5, c5, (S1.getD k default).line.xs ++ [who]⟩⟩ : CLock) ?_ (by omega)
 intro L6 hL6 hlL6
 have hgL6 : L6.getD k default = (⟨(S1.getD k default).name, (S1.getD k default).holder, (S1.getD k default).fence, ⟨A5, c5, (S1.getD k default).line.xs ++ [who]⟩⟩ : CLock) := by rw [hL6]; exact getD_set (by omega)
 have hbL6 : L6 = List.set S1 k (⟨(S1.getD k default).name, (S1.getD k default).holder, (S1.getD k default).fence, ⟨A5, c5, (S1.getD k default).line.xs ++ [who]⟩⟩ : CLock) := by rw [hL6]
 refine Mda 9 [] [0] [rowA 129 A1 c1 (L6 : List CLock), rowA 3 A5 c5 ((S1.getD k default).line.xs ++ [who] : List Int), ownL (lineR 3) (List.eraseIdx S1 k)] Tryz_mixed ?_
 refine Mih ?_ (pFk 145 k 1 1 hgL6 i0)
 refine Mz ?_
 refine Mt [.slice A1 S1.length c1, .agg #[vi 10, vi (S1.getD k default).holder, ve], vi 0] fun bs w hS => ?_
 have hask0 : mAsk (S1.map CLock.abs) t who = 0 := by rw [hF1]; assumption
 rw [← hF1]
 have hq1 : (S1.getD k default).abs.holder = (S1.getD k default).holder := rfl
 have hq2 : (S1.getD k default).abs.fence = (S1.getD k default).fence := rfl
 have hq3 : (S1.getD k default).abs.line = (S1.getD k default).line.xs := rfl
 have hq4 : (S1.getD k default).abs.name = (S1.getD k default).name := rfl
 have hvx := setL_map hbL6
 have hlt : lTake (S1.getD k default).abs who wait = (((⟨(S1.getD k default).name, (S1.getD k default).holder, (S1.getD k default).fence, ⟨A5, c5, (S1.getD k default).line.xs ++ [who]⟩⟩ : CLock)).abs, ⟨10, (S1.getD k default).holder, emp⟩) := by
   unfold lTake
   simp only [hq1, hq2, hq3, hq4]
   repeat (first | rw [if_pos (by first | assumption | omega | exact .inl (by assumption) | exact .inr (by assumption))] | rw [if_neg (by first | assumption | omega | (rintro (h8 | h8) <;> simp_all; done))])
   all_goals rfl
 have hm : mTake (S1.map CLock.abs) t who wait = ((S1.map CLock.abs).set k ((⟨(S1.getD k default).name, (S1.getD k default).holder, (S1.getD k default).fence, ⟨A5, c5, (S1.getD k default).line.xs ++ [who]⟩⟩ : CLock)).abs, ⟨10, (S1.getD k default).holder, emp⟩, 0) := by
   unfold mTake lIdx
   simp only [hJ, Int.toNat_natCast, lgetD, List.length_map]
   rw [hlt]
   repeat (first | rw [if_pos (by first | assumption | omega)] | rw [if_neg (by first | assumption | omega | (intro h0; first | exact absurd h0 (by assumption) | (simp_all; done)))])
   all_goals rfl
 refine ⟨⟨A1, c1, L6⟩, ?_, ?_, hS.outS (y := (⟨A1, c1, L6⟩ : Sl CLock)) (out_locksG i0 hS.res (fun x hx => ?_))⟩
 · have hll : S1.length = L6.length := by rw [hbL6, List.length_set]
   rw [hm]
   exact congrArg (fun q => Ending.returned (.tuple #[.slice A1 q c1, .agg #[vi 10, vi (S1.getD k default).holder, ve], vi 0])) hll
 · exact Eq.trans hvx (congrArg Prod.fst hm).symm
 · rw [hbL6] at hx
   rcases mem_set_ne hx with hx | hx
   · subst hx; exact ⟨hnm1 (S1.getD k default) (mem_of_getD (L := S1) (i := k) (by omega)), allR_row i1 (hS.res _ i1) (fun _ _ => trivial)⟩
   · exact ⟨hnm1 x (List.mem_of_mem_eraseIdx hx), own_inL i2 hS.res hx⟩
theorem lock_Free {B : Nat → Prop} (s : Sl CLock) (t : ByteArray) (who : Int) (w : World) (hs : s.rd B w) (ht : t.size ≤ 9223372036854775807) : Calls Tryz.prog 67 #[s.val, vs t, vi who] w fun e w' => ∃ y : Sl CLock, e = .returned (.tuple #[y.val, ((mFree (s.xs.map CLock.abs) t who).2.1).val, vi (mFree (s.xs.map CLock.abs) t who).2.2]) ∧ y.xs.map CLock.abs = (mFree (s.xs.map CLock.abs) t who).1 ∧ FreshS w w' y := by
 have oks := Sl.rd.ok hs
 have ncs := Sl.ok.nc oks
 have hns : s.n = s.xs.length := rfl
 refine M0 ?_ Tryz.func67
 by_cases h1 : mAsk (s.xs.map CLock.abs) t who = 0
 rotate_left
 · refine Mp ?_ Tryz.call94 (fun bs w hS => (lock_begin s t who w (Sl.rd.kp hs hS.kp) (by first | assumption | omega | (simp only [emp_size]; omega))).mono (fun e w' h => (h.resolve_right (fun h9 => h1 h9.1)).2))
   refine My false true ?_ (df h1)
   refine Mt [vn, vz 0, vi (mAsk (s.xs.map CLock.abs) t who)] fun bs w hS => ?_
   have hm : mFree (s.xs.map CLock.abs) t who = ([], zRep, mAsk (s.xs.map CLock.abs) t who) := by
     grind [mFree]
   refine ⟨Sl.nil, ?_, ?_, hS.outS (Sl.rd_nil _ _)⟩
   · rw [hm] <;> rfl
   · rw [hm] <;> rfl
 refine Mf ?_ Tryz.call94 (fun bs w hS => (lock_begin s t who w (Sl.rd.kp hs hS.kp) (by first | assumption | omega | (simp only [emp_size]; omega))).mono (fun e w' h => (h.resolve_left (fun h9 => h9.1 h1)).2))
 rintro y1 hF1
 refine m_split2 ?_
 obtain ⟨A1, c1, S1⟩ := y1
 have hF1 : S1.map CLock.abs = s.xs.map CLock.abs := hF1
 refine m_perm (R' := [ownL (lineR 3) S1, rowA 129 A1 c1 (S1 : List CLock)]) (List.Perm.refl _) ?_
 have hnm1 := locks_names (y := (⟨A1, c1, S1⟩ : Sl CLock)) hs hF1
 have hlen1 : S1.length = s.xs.length := by simpa using congrArg List.length hF1
 refine m_know (F := ∀ i, i < S1.length → Rds.ok (S1.getD i default)) (fun bs w hS i hi => Rds.okof (B := anyB) (w := w) (own_eltL (hS.res _ i0) hnm1 (mem_of_getD hi))) fun okown1 => ?_
 refine m_know (F := RowOk A1 c1 (S1 : List CLock)) (fun bs w hS => rowA_rok (hS.res _ i1)) fun hrow1 => ?_
 have nchrow1 := hrow1.2
 have hask := mAsk_ok h1
 have hm1 : mLocks (S1.map CLock.abs) = 0 := by rw [hF1]; exact hask.1
 have hw1 := hask.2.2.1
 have hw2 := hask.2.2.2
 have hln5 : S1.length ≤ 5 := by have h9 := (mLocks_bd hm1).1; simpa using h9
 have hbsS : mBS (fun x : CLock => cmpS x.name t) s.xs = mBS (fun x : CLock => cmpS x.name t) S1 := mBS_abs (L := s.xs) (L2 := S1) (f := CLock.abs) (c := fun x : DLock => cmpS x.name t) rfl hF1.symm
 have hbfS : mBSf (fun x : CLock => cmpS x.name t) s.xs = mBSf (fun x : CLock => cmpS x.name t) S1 := mBSf_abs (L := s.xs) (L2 := S1) (f := CLock.abs) (c := fun x : DLock => cmpS x.name t) rfl hF1.symm
 rw [hbsS, hbfS]
 have hbs := bsf_lock (L := S1) hm1 t
 have hJb := mIdx_bd (fun x : DLock => decide (x.name = t)) (S1.map CLock.abs)
 rw [List.length_map] at hJb
 generalize hJ : mIdx (fun x : DLock => decide (x.name = t)) (S1.map CLock.abs) = J at hbs hJb
 have hkl := mBS_le (fun x : CLock => cmpS x.name t) S1
 generalize hk : mBS (fun x : CLock => cmpS x.name t) S1 = k at hbs hkl ⊢
 generalize hf : mBSf (fun x : CLock => cmpS x.name t) S1 = fb at hbs ⊢
 refine Mq 24 false ?_ rfl
 refine Mbn fb (fun h2 => ?_) fun h2 => ?_
 rotate_left
 · have h0J := of_decide_eq_false (hbs.1.symm.trans h2)
   refine Mt [.slice A1 S1.length c1, vz 6, vi 0] fun bs w hS => ?_
   have hask0 : mAsk (S1.map CLock.abs) t who = 0 := by rw [hF1]; assumption
   rw [← hF1]
   have hq1 : (S1.getD k default).abs.holder = (S1.getD k default).holder := rfl
   have hq2 : (S1.getD k default).abs.fence = (S1.getD k default).fence := rfl
   have hq3 : (S1.getD k default).abs.line = (S1.getD k default).line.xs := rfl
   have hq4 : (S1.getD k default).abs.name = (S1.getD k default).name := rfl
   have hm : mFree (S1.map CLock.abs) t who = (S1.map CLock.abs, ⟨6, 0, emp⟩, 0) := by
     grind [mFree, lIdx]
   refine ⟨⟨A1, c1, S1⟩, ?_, ?_, hS.outS (y := (⟨A1, c1, S1⟩ : Sl CLock)) (out_locksG i1 hS.res (fun x hx => ?_))⟩
   · rw [hm] <;> rfl
   · exact (congrArg Prod.fst hm).symm
   · exact ⟨hnm1 x hx, own_inL i0 hS.res hx⟩
 have hkJ := hbs.2 h2
 subst hkJ
 have hk5 := lock_all hm1 (k := k) (by omega)
 obtain ⟨hk51, hk52, hk53, hk54, hk55, hk56⟩ := hk5
 have hk7 : (S1.getD k default).line.n = (S1.getD k default).line.xs.length := rfl
 refine Mi ?_ (pc (pIo 33 (k : Int) k S1.length i1) (pFo 37 k 3 1 i1))
 refine Mp ?_ Tryz.call86 (fun bs w hS => idx_ints (S1.getD k default).line (S1.getD k default).line.n who w (own_eltL (hS.res _ i0) hnm1 (mem_of_getD (i := k) (by omega))).2 (by omega))
 have hix : mIdx (fun z => decide (z = who)) ((S1.getD k default).line.xs.take (S1.getD k default).line.n) = mIdx (fun z => decide (z = who)) (S1.getD k default).line.xs := by rw [take_all (Nat.le_refl _)]
 rw [hix]
 have hIb := mIdx_bd (fun z => decide (z = who)) (S1.getD k default).line.xs
 generalize hI : mIdx (fun z => decide (z = who)) (S1.getD k default).line.xs = I at hIb ⊢
 refine Mi ?_ (pFo 50 k 1 1 i1)
 refine Md ((S1.getD k default).holder = who) (fun h3 => ?_) fun h3 => ?_
 · refine m_f1 ?_
   refine Mtu ?_ Tryz.call88 (fun bs w hS => lock_pass (B := (· ∈ (lineR 3 (S1.getD k default)).fp)) A1 c1 S1 k w (hS.res _ i0) hS.head1.2.2 (by omega) ⟨hnm1 _ (mem_of_getD (L := S1) (by omega)), Rr (hS.res _ i1 (S1.getD k default) (mem_of_getD (L := S1) (by omega))) (fun b hb => hb) (fun _ _ => trivial)⟩ (fun b hb => hS.disj (r2 := ownL (lineR 3) S1) i0 b (List.mem_flatMap.2 ⟨(S1.getD k default), mem_of_getD (L := S1) (by omega), hb⟩)) ⟨by omega, by omega⟩)
   rintro _ _
   obtain ⟨L4, hL4⟩ : ∃ M : List CLock, M = S1.set k (passC (S1.getD k default)) := ⟨_, rfl⟩
   rw [← hL4]
   have hlL4 : L4.length = S1.length := by rw [hL4, List.length_set]
   have hgL4 : L4.getD k default = passC (S1.getD k default) := by rw [hL4]; exact getD_set (by omega)
   refine Mda 9 [] [0] [rowA 129 A1 c1 (L4 : List CLock), ownL (lineR 3) S1] Tryz_mixed ?_
   refine Mih ?_ (pFk 73 k 1 1 hgL4 i0)
   refine Mz ?_
   refine Mt [.slice A1 S1.length c1, .agg #[vi 0, vi (passC (S1.getD k default)).holder, ve], vi 0] fun bs w hS => ?_
   have hask0 : mAsk (S1.map CLock.abs) t who = 0 := by rw [hF1]; assumption
   rw [← hF1]
   have hq1 : (S1.getD k default).abs.holder = (S1.getD k default).holder := rfl
   have hq2 : (S1.getD k default).abs.fence = (S1.getD k default).fence := rfl
   have hq3 : (S1.getD k default).abs.line = (S1.getD k default).line.xs := rfl
   have hq4 : (S1.getD k default).abs.name = (S1.getD k default).name := rfl
   have hvx := setL_map hL4
   have hpa := passC_abs (S1.getD k default)
   rw [hpa] at hvx
   have hlt : lFree (S1.getD k default).abs who = ((mPass (S1.getD k default).abs), ⟨0, (passC (S1.getD k default)).holder, emp⟩) := by
     unfold lFree
     simp only [hq1, hq2, hq3, hq4]
     repeat (first | rw [if_pos (by first | assumption | omega)] | rw [if_neg (by first | assumption | omega | (rw [hlh]; simp; done) | (intro h0; simp_all; done))])
     all_goals first | rfl | exact congrArg (fun h : Int => (mPass (S1.getD k default).abs, (⟨0, h, emp⟩ : DReply))) (congrArg DLock.holder hpa).symm
   have hm : mFree (S1.map CLock.abs) t who = ((S1.map CLock.abs).set k (mPass (S1.getD k default).abs), ⟨0, (passC (S1.getD k default)).holder, emp⟩, 0) := by
     unfold mFree lIdx
     simp only [hJ, Int.toNat_natCast, lgetD, List.length_map]
     rw [hlt]
     repeat (first | rw [if_pos (by first | assumption | omega)] | rw [if_neg (by first | assumption | omega | (intro h0; first | exact absurd h0 (by assumption) | (simp_all; done)))])
     all_goals rfl
   refine ⟨⟨A1, c1, L4⟩, ?_, ?_, hS.outS (y := (⟨A1, c1, L4⟩ : Sl CLock)) (out_locksG i0 hS.res (fun x hx => ?_))⟩
   · have hll : S1.length = L4.length := by rw [hL4, List.length_set]
     rw [hm]
     exact congrArg (fun q => Ending.returned (.tuple #[.slice A1 q c1, .agg #[vi 0, vi (passC (S1.getD k default)).holder, ve], vi 0])) hll
   · exact Eq.trans hvx (congrArg Prod.fst hm).symm
   · rw [hL4] at hx
     rcases mem_set hx with hx | hx
     · subst hx; have hP := passC_in i1 hS.res (x := (S1.getD k default)) (mem_of_getD (L := S1) (i := k) (by omega)); exact ⟨by rw [hP.1]; exact hnm1 (S1.getD k default) (mem_of_getD (L := S1) (i := k) (by omega)), hP.2⟩
     · exact ⟨hnm1 x hx, own_inL i1 hS.res hx⟩
 refine Md ((0 : Int) ≤ I) (fun h4 => ?_) fun h4 => ?_
 rotate_left
 · refine Mda 9 [] [0] [ownL (lineR 3) S1, rowA 129 A1 c1 (S1 : List CLock)] Tryz_mixed ?_
   refine Mih ?_ (pFo 44 k 1 1 i1)
   refine Mz ?_
   refine Mt [.slice A1 S1.length c1, .agg #[vi 10, vi (S1.getD k default).holder, ve], vi 0] fun bs w hS => ?_
   have hask0 : mAsk (S1.map CLock.abs) t who = 0 := by rw [hF1]; assumption
   rw [← hF1]
   have hq1 : (S1.getD k default).abs.holder = (S1.getD k default).holder := rfl
   have hq2 : (S1.getD k default).abs.fence = (S1.getD k default).fence := rfl
   have hq3 : (S1.getD k default).abs.line = (S1.getD k default).line.xs := rfl
   have hq4 : (S1.getD k default).abs.name = (S1.getD k default).name := rfl
   have hlh : lHas (S1.getD k default).abs who = false := by rw [has_idx]; show decide (0 ≤ mIdx _ (S1.getD k default).line.xs) = _; rw [hI]; exact decide_eq_false h4
   have hlt : lFree (S1.getD k default).abs who = ((S1.getD k default).abs, ⟨10, (S1.getD k default).holder, emp⟩) := by
     grind [lFree]
   have hm : mFree (S1.map CLock.abs) t who = (S1.map CLock.abs, ⟨10, (S1.getD k default).holder, emp⟩, 0) := by
     unfold mFree lIdx
     simp only [hJ, Int.toNat_natCast, lgetD, List.length_map]
     rw [hlt]
     repeat (first | rw [if_pos (by first | assumption | omega)] | rw [if_neg (by first | assumption | omega | (intro h0; first | exact absurd h0 (by assumption) | (simp_all; done)))])
     all_goals (show ((S1.map CLock.abs).set k (S1.getD k default).abs, _, _) = _; rw [← lgetD, set_getD (by rw [List.length_map]; omega)])
   refine ⟨⟨A1, c1, S1⟩, ?_, ?_, hS.outS (y := (⟨A1, c1, S1⟩ : Sl CLock)) (out_locksG i1 hS.res (fun x hx => ?_))⟩
   · rw [hm] <;> rfl
   · exact (congrArg Prod.fst hm).symm
   · exact ⟨hnm1 x hx, own_inL i0 hS.res hx⟩
 refine m_part2 (rowA 3 (S1.getD k default).line.A (S1.getD k default).line.c ((S1.getD k default).line.xs : List Int)) (ownL (lineR 3) (List.eraseIdx S1 k)) (ownL_get_fp (lineR 3) (i := k) (by omega)) (fun w h => ownL_get_p (lineR 3) (i := k) (by omega) w h) ?_
 refine Mi ?_ (pc (pFo 62 k 3 1 i2) (pR (I + 1)))
 refine Mtu ?_ (σ := Unit) (v := fun _ => .slice (S1.getD k default).line.A ((S1.getD k default).line.xs.take I.toNat ++ (S1.getD k default).line.xs.drop (I.toNat + 1)).length (S1.getD k default).line.c) (F := fun _ => True) (r := fun _ => rowA 3 (S1.getD k default).line.A (S1.getD k default).line.c ((S1.getD k default).line.xs.take I.toNat ++ (S1.getD k default).line.xs.drop (I.toNat + 1) : List Int)) (vs := fun bs => [.slice (S1.getD k default).line.A (S1.getD k default).line.n (S1.getD k default).line.c, vi I, vi (I + 1)]) Tryz.call87 (fun bs w hS => (delR_Int (S1.getD k default).line.A (S1.getD k default).line.c (S1.getD k default).line.xs I.toNat (I.toNat + 1) _ _ w (hS.res _ i0) hS.head1.2.2 (by omega) (by omega) (by first | omega | (simp only [Sl.n] at *; omega)) (by first | omega | (simp only [Sl.n] at *; omega))).mono (fun e w' ⟨h1, h2⟩ => ⟨(), h1, trivial, h2⟩))
 rintro _ _
 refine m_f2 ?_
 refine Ms k 3 (⟨(S1.getD k default).name, (S1.getD k default).holder, (S1.getD k default).fence, ⟨(S1.getD k default).line.A, (S1.getD k default).line.c, (S1.getD k default).line.xs.take I.toNat ++ (S1.getD k default).line.xs.drop (I.toNat + 1)⟩⟩ : CLock) ?_ (by omega)
 intro L6 hL6 hlL6
 have hgL6 : L6.getD k default = (⟨(S1.getD k default).name, (S1.getD k default).holder, (S1.getD k default).fence, ⟨(S1.getD k default).line.A, (S1.getD k default).line.c, (S1.getD k default).line.xs.take I.toNat ++ (S1.getD k default).line.xs.drop (I.toNat + 1)⟩⟩ : CLock) := by rw [hL6]; exact getD_set (by omega)
 have hbL6 : L6 = List.set S1 k (⟨(S1.getD k default).name, (S1.getD k default).holder, (S1.getD k default).fence, ⟨(S1.getD k default).line.A, (S1.getD k default).line.c, (S1.getD k default).line.xs.take I.toNat ++ (S1.getD k default).line.xs.drop (I.toNat + 1)⟩⟩ : CLock) := by rw [hL6]
 refine Mda 9 [] [0] [rowA 129 A1 c1 (L6 : List CLock), rowA 3 (S1.getD k default).line.A (S1.getD k default).line.c ((S1.getD k default).line.xs.take I.toNat ++ (S1.getD k default).line.xs.drop (I.toNat + 1) : List Int), ownL (lineR 3) (List.eraseIdx S1 k)] Tryz_mixed ?_
 refine Mih ?_ (pFk 73 k 1 1 hgL6 i0)
 refine Mz ?_
 refine Mt [.slice A1 S1.length c1, .agg #[vi 0, vi (S1.getD k default).holder, ve], vi 0] fun bs w hS => ?_
 have hask0 : mAsk (S1.map CLock.abs) t who = 0 := by rw [hF1]; assumption
 rw [← hF1]
 have hq1 : (S1.getD k default).abs.holder = (S1.getD k default).holder := rfl
 have hq2 : (S1.getD k default).abs.fence = (S1.getD k default).fence := rfl
 have hq3 : (S1.getD k default).abs.line = (S1.getD k default).line.xs := rfl
 have hq4 : (S1.getD k default).abs.name = (S1.getD k default).name := rfl
 have hvx := setL_map hbL6
 have hlh : lHas (S1.getD k default).abs who = true := by rw [has_idx]; show decide (0 ≤ mIdx _ (S1.getD k default).line.xs) = _; rw [hI]; exact decide_eq_true h4
 have hul : (S1.getD k default).line.xs.take I.toNat ++ (S1.getD k default).line.xs.drop (I.toNat + 1) = unline (S1.getD k default).line.xs who := line_one' (d := (S1.getD k default).abs) hk53 (i := I.toNat) (by show mIdx _ (S1.getD k default).line.xs = _; rw [hI]; omega) rfl
 rw [show ((⟨(S1.getD k default).name, (S1.getD k default).holder, (S1.getD k default).fence, ⟨(S1.getD k default).line.A, (S1.getD k default).line.c, (S1.getD k default).line.xs.take I.toNat ++ (S1.getD k default).line.xs.drop (I.toNat + 1)⟩⟩ : CLock)).abs = (⟨(S1.getD k default).name, (S1.getD k default).holder, (S1.getD k default).fence, unline (S1.getD k default).line.xs who⟩ : DLock) from congrArg (fun l => (⟨(S1.getD k default).name, (S1.getD k default).holder, (S1.getD k default).fence, l⟩ : DLock)) hul] at hvx
 have hlt : lFree (S1.getD k default).abs who = (⟨(S1.getD k default).name, (S1.getD k default).holder, (S1.getD k default).fence, unline (S1.getD k default).line.xs who⟩, ⟨0, (S1.getD k default).holder, emp⟩) := by
   grind [lFree]
 have hm : mFree (S1.map CLock.abs) t who = ((S1.map CLock.abs).set k ⟨(S1.getD k default).name, (S1.getD k default).holder, (S1.getD k default).fence, unline (S1.getD k default).line.xs who⟩, ⟨0, (S1.getD k default).holder, emp⟩, 0) := by
   unfold mFree lIdx
   simp only [hJ, Int.toNat_natCast, lgetD, List.length_map]
   rw [hlt]
   repeat (first | rw [if_pos (by first | assumption | omega)] | rw [if_neg (by first | assumption | omega | (intro h0; first | exact absurd h0 (by assumption) | (simp_all; done)))])
   all_goals rfl
 refine ⟨⟨A1, c1, L6⟩, ?_, ?_, hS.outS (y := (⟨A1, c1, L6⟩ : Sl CLock)) (out_locksG i0 hS.res (fun x hx => ?_))⟩
 · have hll : S1.length = L6.length := by rw [hbL6, List.length_set]
   rw [hm]
   exact congrArg (fun q => Ending.returned (.tuple #[.slice A1 q c1, .agg #[vi 0, vi (S1.getD k default).holder, ve], vi 0])) hll
 · exact Eq.trans hvx (congrArg Prod.fst hm).symm
 · rw [hbL6] at hx
   rcases mem_set_ne hx with hx | hx
   · subst hx; exact ⟨hnm1 (S1.getD k default) (mem_of_getD (L := S1) (i := k) (by omega)), allR_row i1 (hS.res _ i1) (fun _ _ => trivial)⟩
   · exact ⟨hnm1 x (List.mem_of_mem_eraseIdx hx), own_inL i2 hS.res hx⟩
theorem log_CopyR {B : Nat → Prop} (x : CLog) (w : World) (hx : Rds.sub B w x) (hb : x.entries.n ≤ 1048576) : Calls Tryz.prog 76 #[x.val] w fun e w' => ∃ y : Sl ByteArray, e = .returned (.agg #[vi x.base, y.val]) ∧ y.xs = x.entries.xs ∧ Kp [] w w' ∧ Fresh w w' (rowA 9 y.A y.c y.xs) := by
 have okx := Rds.okof hx
 have ncx := Sl.ok.nc okx
 have hnx : x.entries.n = x.entries.xs.length := rfl
 have hla : mLast x.abs = x.base + (x.entries.n : Int) := rfl
 have q1 : x.abs.base = x.base := rfl
 have q2 : x.abs.entries = x.entries.xs := rfl
 have hat : ∀ q, x.entries.xs.getD q default = x.entries.at q := fun _ => rfl
 refine M0 ?_ Tryz.func76
 refine Mda 6 [] [] [] Tryz_mixed ?_
 refine Mf ?_ Tryz.call116 (fun bs w hS => clone_ByteArray x.entries w (Rds.kp hx hS.kp) hb)
 rintro y1 hF1
 exact Mt [.agg #[vi x.base, y1.val]] fun bs w hS => ⟨y1, rfl, hF1, hS.kp, hS.out1⟩
theorem log_Copy {B : Nat → Prop} (x : CLog) (w : World) (hx : Rds.sub B w x) (hsm : Rds.small x) : Calls Tryz.prog 76 #[x.val] w fun e w' => ∃ y : CLog, e = .returned (y.val) ∧ y.abs = x.abs ∧ FreshS w w' y :=
  (log_CopyR x w hx hsm.1).mono fun e w' ⟨y, h1, h2, h3, h4⟩ => ⟨⟨x.base, y⟩, h1, by simp [CLog.abs, h2], h3, h4.sub fun hp => Rr hp (fun b hb => hb) fun z hz => Sl.rd.mem (s := x.entries) hx z (h2 ▸ hz)⟩
theorem log_Put {B B' : Nat → Prop} (x : CLog) (n : Int) (m : Sl ByteArray) (w : World) (hx : Rds.sub B w x) (hm : m.rd B' w) : Calls Tryz.prog 150 #[x.val, vi n, m.val] w fun e w' => ∃ y : CLog, e = .returned (.tuple #[y.val, vi (mPut x.abs n m.xs).2]) ∧ y.abs = (mPut x.abs n m.xs).1 ∧ FreshS w w' y := by
 have okx := Rds.okof hx
 have ncx := Sl.ok.nc okx
 have hnx : x.entries.n = x.entries.xs.length := rfl
 have hla : mLast x.abs = x.base + (x.entries.n : Int) := rfl
 have q1 : x.abs.base = x.base := rfl
 have q2 : x.abs.entries = x.entries.xs := rfl
 have hat : ∀ q, x.entries.xs.getD q default = x.entries.at q := fun _ => rfl
 have okm := Sl.rd.ok hm
 have ncm := Sl.ok.nc okm
 have hmx : m.n = m.xs.length := rfl
 refine M0 ?_ Tryz.func150
 refine Mp ?_ Tryz.call152 (fun bs w hS => log_Check x w (Rds.kp hx hS.kp))
 refine Mdn (mLog x.abs = 0) (fun h1 => ?_) fun h1 => ?_
 rotate_left
 · have hm : mPut x.abs n m.xs = (zLog, mLog x.abs) := by grind [mPut]
   exact Me2 hm ⟨0, Sl.nil⟩ rfl fun bs w hS => hS.outS (y := (⟨0, Sl.nil⟩ : CLog)) (Sl.rd_nil _ _)
 obtain ⟨hb1, hb2, hb3, hb4⟩ := mLog_bd h1
 rw [q1] at hb1 hb2
 rw [q2] at hb3
 have hmsz : ∀ z, z ∈ x.entries.xs → z.size ≤ 9223372036854775807 := fun z hz => Sl.rd.mem (s := x.entries) hx z hz
 refine Md (n < 0) (fun h2 => ?_) fun h2 => ?_
 · have hm : mPut x.abs n m.xs = (zLog, 2) := by
     unfold mPut; rw [if_neg (by simpa using (by assumption : mLog _ = 0)), hla, q1, q2]
     first | rw [if_pos (by omega)] | rw [if_neg (by omega), if_pos (by omega)] | rw [if_neg (by omega), if_neg (by omega), if_pos (by omega)] | (rw [if_neg (by omega), if_neg (by omega), if_neg (by omega), if_neg (by simp), if_pos (by show 400 < E.length; omega)])
     all_goals first | rfl | (exfalso; omega)
   exact Me2 hm ⟨0, Sl.nil⟩ rfl fun bs w hS => hS.outS (y := (⟨0, Sl.nil⟩ : CLog)) (Sl.rd_nil _ _)
 refine Md ((1073741824 : Int) < n) (fun h3 => ?_) fun h3 => ?_
 · have hm : mPut x.abs n m.xs = (zLog, 2) := by
     unfold mPut; rw [if_neg (by simpa using (by assumption : mLog _ = 0)), hla, q1, q2]
     first | rw [if_pos (by omega)] | rw [if_neg (by omega), if_pos (by omega)] | rw [if_neg (by omega), if_neg (by omega), if_pos (by omega)] | (rw [if_neg (by omega), if_neg (by omega), if_neg (by omega), if_neg (by simp), if_pos (by show 400 < E.length; omega)])
     all_goals first | rfl | (exfalso; omega)
   exact Me2 hm ⟨0, Sl.nil⟩ rfl fun bs w hS => hS.outS (y := (⟨0, Sl.nil⟩ : CLog)) (Sl.rd_nil _ _)
 refine Md ((400 : Int) < (m.n : Int)) (fun h4 => ?_) fun h4 => ?_
 · have hm : mPut x.abs n m.xs = (zLog, 1) := by
     unfold mPut; rw [if_neg (by simpa using (by assumption : mLog _ = 0)), hla, q1, q2]
     first | rw [if_pos (by omega)] | rw [if_neg (by omega), if_pos (by omega)] | rw [if_neg (by omega), if_neg (by omega), if_pos (by omega)] | (rw [if_neg (by omega), if_neg (by omega), if_neg (by omega), if_neg (by simp), if_pos (by show 400 < E.length; omega)])
     all_goals first | rfl | (exfalso; omega)
   exact Me2 hm ⟨0, Sl.nil⟩ rfl fun bs w hS => hS.outS (y := (⟨0, Sl.nil⟩ : CLog)) (Sl.rd_nil _ _)
 refine Mp ?_ Tryz.call14 (fun bs w hS => log_Last x w (Rds.kp hx hS.kp) (by first | exact ⟨by omega, by omega, by omega⟩ | omega))
 refine Md (x.base + (x.entries.n : Int) < n) (fun h5 => ?_) fun h5 => ?_
 · have hm : mPut x.abs n m.xs = (zLog, 13) := by
     unfold mPut; rw [if_neg (by simpa using (by assumption : mLog _ = 0)), hla, q1, q2]
     first | rw [if_pos (by omega)] | rw [if_neg (by omega), if_pos (by omega)] | rw [if_neg (by omega), if_neg (by omega), if_pos (by omega)] | (rw [if_neg (by omega), if_neg (by omega), if_neg (by omega), if_neg (by simp), if_pos (by show 400 < E.length; omega)])
     all_goals first | rfl | (exfalso; omega)
   exact Me2 hm ⟨0, Sl.nil⟩ rfl fun bs w hS => hS.outS (y := (⟨0, Sl.nil⟩ : CLog)) (Sl.rd_nil _ _)
 refine Md (n < x.base) (fun h6 => ?_) fun h6 => ?_
 rotate_left
 · refine Mf ?_ Tryz.call76 (fun bs w hS => log_CopyR x w (Rds.kp hx hS.kp) (by omega))
   rintro y9 hF9
   obtain ⟨A9, c9, rfl⟩ := Sl.of_xs hF9
   refine m_weak (rowA 9 A9 c9 (x.entries.xs : List ByteArray)) (List.Sublist.refl _) (fun w h => h) ?_
   refine m_know (F := RowOk A9 c9 (x.entries.xs : List ByteArray)) (fun bs w hS => rowA_rok (hS.res _ i0)) fun hrow9 => ?_
   have nchrow9 := hrow9.2
   obtain ⟨r, hr, hrn⟩ : ∃ r : Sl ByteArray, r = m ∧ True := ⟨m, rfl, trivial⟩
   have hrx : r.xs = m.xs.drop (x.base - n).toNat := by rw [hr, show (x.base - n).toNat = 0 by omega]; rfl
   have hrr : Sl.rd anyB w r := by rw [hr]; exact hm.wide (fun _ _ => trivial)
   have hrk : r.n = m.n := by rw [hr]
   have okr := Sl.rd.ok hrr
   have ncr := Sl.ok.nc okr
   have hrnx : r.n = r.xs.length := rfl
   refine Mk 58 ?_ (show (vI (m.n : Int)) = vI (r.n : Int) by rw [hrk])
   refine Mk 57 ?_ (show (.v (.slice m.A m.n m.c)) = .v (.slice r.A r.n r.c) by rw [hrk, hr]; first | done | rfl)
   refine Ml (σ := Nat × Option Addr × Nat × List ByteArray) (fun ⟨i, A, c, E⟩ => i ≤ r.n ∧ putGo x.entries.xs (n - x.base).toNat (m.xs.drop (x.base - n).toNat) = putGo E ((n - x.base).toNat + i) (r.xs.drop i) ∧ (n - x.base).toNat + i ≤ E.length ∧ E.length ≤ 400 + i ∧ ∀ z, z ∈ E → z.size ≤ 9223372036854775807) (fun ⟨i, A, c, E⟩ => r.n - i) (fun ⟨i, A, c, E⟩ => [rowA 9 A c (E : List ByteArray)]) [57, 58, 59, 10, 6, 3, 1] (fun ⟨i, A, c, E⟩ => [(59, vI (i : Int))]) (fun ⟨i, A, c, E⟩ => [(2, [vI x.base, .v (.slice A E.length c)])]) ?_ (⟨0, A9, c9, x.entries.xs⟩) ⟨Nat.zero_le _, by rw [hrx]; rfl, by omega, by omega, hmsz⟩
   rintro ⟨i, A, c, E⟩ ⟨hi, hP, hE, hE4, hEs⟩ _ on3
   refine m_know (F := RowOk A c (E : List ByteArray)) (fun bs w hS => rowA_rok (hS.res _ i0)) fun hrow => ?_
   have nch := hrow.2
   refine Md ((i : Int) < (r.n : Int)) (fun h17 => ?_) fun h17 => ?_
   rotate_left
   · refine Md ((400 : Int) < (E.length : Int)) (fun h23 => ?_) fun h23 => ?_
     rotate_left
     · have hpg : putGo x.entries.xs (n - x.base).toNat (m.xs.drop (x.base - n).toNat) = (E, 0) := by rw [hP]; exact putGo_end (by omega)
       have hm : mPut x.abs n m.xs = (⟨x.base, E⟩, 0) := by grind [mPut]
       exact Me2 hm ⟨x.base, ⟨A, c, E⟩⟩ rfl fun bs w hS => hS.outS (y := (⟨x.base, ⟨A, c, E⟩⟩ : CLog)) (allR_row i0 (hS.res _ i0) hEs)
     have hpg : putGo x.entries.xs (n - x.base).toNat (m.xs.drop (x.base - n).toNat) = (E, 0) := by rw [hP]; exact putGo_end (by omega)
     have hm : mPut x.abs n m.xs = (zLog, 8) := by
       unfold mPut; rw [if_neg (by simpa using (by assumption : mLog _ = 0)), hla, q1, q2]
       first | rw [if_pos (by omega)] | rw [if_neg (by omega), if_pos (by omega)] | rw [if_neg (by omega), if_neg (by omega), if_pos (by omega)] | (rw [if_neg (by omega), if_neg (by omega), if_neg (by omega), hpg, if_neg (by simp), if_pos (by show 400 < E.length; omega)])
       all_goals first | rfl | (exfalso; omega)
     exact Me2 hm ⟨0, Sl.nil⟩ rfl fun bs w hS => hS.outS (y := (⟨0, Sl.nil⟩ : CLog)) (Sl.rd_nil _ _)
   refine Mi ?_ (pA 62 63 (i : Int) i (rdk hrr))
   refine Mp ?_ Tryz.call10 (fun bs w hS => command_Decode (r.at i) w (Sl.ok.at (s := r) (i := i) okr (by omega)))
   refine Mdn ((mDecode (r.at i)).2 = 0) (fun h18 => ?_) fun h18 => ?_
   rotate_left
   · have hpg : putGo x.entries.xs (n - x.base).toNat (m.xs.drop (x.base - n).toNat) = ([], (mDecode (r.at i)).2) := by rw [hP]; exact putGo_bad (by omega) h18
     have hm : mPut x.abs n m.xs = (zLog, (mDecode (r.at i)).2) := by grind [mPut]
     exact Me2 hm ⟨0, Sl.nil⟩ rfl fun bs w hS => hS.outS (y := (⟨0, Sl.nil⟩ : CLog)) (Sl.rd_nil _ _)
   refine Mi ?_ (pc (pR (n + (i : Int))) (pR ((n + (i : Int)) - x.base)))
   refine Md ((n + (i : Int)) - x.base < (E.length : Int)) (fun h19 => ?_) fun h19 => ?_
   rotate_left
   · by_cases h22 : (E.length : Int) < (n + (i : Int)) - x.base
     · refine Mmin ?_ (if_pos h22)
       refine Mi ?_ (pG [(100, .sl 0 E.length)] (oc (rfl : 0 = 0) (oc (rfl : (E.length : Int) = (E.length : Int)) (oc ((by omega) : E.length ≤ c) on))))
       refine M1 ?_
       refine m_weak (rowA 9 A c ((E).take E.length : List ByteArray)) (List.Sublist.refl _) (fun w h => rowA_take h E.length (by omega)) ?_
       refine Mal (α := ByteArray) 16 ([(r.at i)]) ?_ (n := E.length) (hn := by rw [List.length_take]; omega)
       intro A13 c13
       refine Mi ?_ (pR ((i : Int) + 1))
       exact on3 ⟨i + 1, A13, c13, ((E).take E.length) ++ [(r.at i)]⟩ ⟨by omega, by rw [hP, Pn (by omega) h18, putOne_new (k := (n - x.base).toNat + i) (by rintro ⟨hz1, hz2⟩; omega), show (n - x.base).toNat + i + 1 = (n - x.base).toNat + (i + 1) by omega]; (rw [show (n - x.base).toNat + i = E.length by omega] <;> rfl), by simp only [List.length_append, List.length_take, List.length_cons, List.length_nil]; omega, by simp only [List.length_append, List.length_take, List.length_cons, List.length_nil]; omega, fun z hz => by simp only [List.nil_append, List.mem_append, List.mem_singleton] at hz; rcases hz with hz | hz; exact hEs z (List.mem_of_mem_take hz); subst hz; exact mDecode_size h18⟩ (by show r.n - (i + 1) < r.n - i; omega)
     refine Mmin ?_ (if_neg h22)
     refine Mi ?_ (pG [(100, .sl 0 ((n + (i : Int)) - x.base).toNat)] (oc (rfl : 0 = 0) (oc ((by omega) : (n + (i : Int)) - x.base = ((((n + (i : Int)) - x.base).toNat : Nat) : Int)) (oc ((by omega) : ((n + (i : Int)) - x.base).toNat ≤ c) on))))
     refine M1 ?_
     refine m_weak (rowA 9 A c ((E).take ((n + (i : Int)) - x.base).toNat : List ByteArray)) (List.Sublist.refl _) (fun w h => rowA_take h ((n + (i : Int)) - x.base).toNat (by omega)) ?_
     refine Mal (α := ByteArray) 16 ([(r.at i)]) ?_ (n := ((n + (i : Int)) - x.base).toNat) (hn := by rw [List.length_take]; omega)
     intro A14 c14
     refine Mi ?_ (pR ((i : Int) + 1))
     exact on3 ⟨i + 1, A14, c14, ((E).take ((n + (i : Int)) - x.base).toNat) ++ [(r.at i)]⟩ ⟨by omega, by rw [hP, Pn (by omega) h18, putOne_new (k := (n - x.base).toNat + i) (by rintro ⟨hz1, hz2⟩; omega), show (n - x.base).toNat + i + 1 = (n - x.base).toNat + (i + 1) by omega]; (rw [show (n - x.base).toNat + i = ((n + (i : Int)) - x.base).toNat by omega] <;> rfl), by simp only [List.length_append, List.length_take, List.length_cons, List.length_nil]; omega, by simp only [List.length_append, List.length_take, List.length_cons, List.length_nil]; omega, fun z hz => by simp only [List.nil_append, List.mem_append, List.mem_singleton] at hz; rcases hz with hz | hz; exact hEs z (List.mem_of_mem_take hz); subst hz; exact mDecode_size h18⟩ (by show r.n - (i + 1) < r.n - i; omega)
   refine Mi ?_ (pc (pIo 88 ((n + (i : Int)) - x.base) ((n + (i : Int)) - x.base).toNat E.length i0) (pEo 89 ((n + (i : Int)) - x.base).toNat i0))
   refine Md ((E.getD ((n + (i : Int)) - x.base).toNat default) = (r.at i)) (fun h20 => ?_) fun h20 => ?_
   · refine Mi ?_ (pR ((i : Int) + 1))
     exact on3 ⟨i + 1, A, c, E⟩ ⟨by omega, by rw [hP, Pn (by omega) h18, putOne_same (k := (n - x.base).toNat + i) (by omega) (by rw [show (n - x.base).toNat + i = ((n + (i : Int)) - x.base).toNat by omega]; exact h20), show (n - x.base).toNat + i + 1 = (n - x.base).toNat + (i + 1) by omega], by omega, by omega, hEs⟩ (by show r.n - (i + 1) < r.n - i; omega)
   by_cases h21 : (E.length : Int) < (n + (i : Int)) - x.base
   · refine Mmin ?_ (if_pos h21)
     refine Mi ?_ (pG [(100, .sl 0 E.length)] (oc (rfl : 0 = 0) (oc (rfl : (E.length : Int) = (E.length : Int)) (oc ((by omega) : E.length ≤ c) on))))
     refine M1 ?_
     refine m_weak (rowA 9 A c ((E).take E.length : List ByteArray)) (List.Sublist.refl _) (fun w h => rowA_take h E.length (by omega)) ?_
     refine Mal (α := ByteArray) 16 ([(r.at i)]) ?_ (n := E.length) (hn := by rw [List.length_take]; omega)
     intro A11 c11
     refine Mi ?_ (pR ((i : Int) + 1))
     exact on3 ⟨i + 1, A11, c11, ((E).take E.length) ++ [(r.at i)]⟩ ⟨by omega, by rw [hP, Pn (by omega) h18, putOne_new (k := (n - x.base).toNat + i) (by rintro ⟨hz1, hz2⟩; first | omega | (rw [show (n - x.base).toNat + i = ((n + (i : Int)) - x.base).toNat by omega] at hz2; exact h20 hz2)), show (n - x.base).toNat + i + 1 = (n - x.base).toNat + (i + 1) by omega]; (rw [show (n - x.base).toNat + i = E.length by omega] <;> rfl), by simp only [List.length_append, List.length_take, List.length_cons, List.length_nil]; omega, by simp only [List.length_append, List.length_take, List.length_cons, List.length_nil]; omega, fun z hz => by simp only [List.nil_append, List.mem_append, List.mem_singleton] at hz; rcases hz with hz | hz; exact hEs z (List.mem_of_mem_take hz); subst hz; exact mDecode_size h18⟩ (by show r.n - (i + 1) < r.n - i; omega)
   refine Mmin ?_ (if_neg h21)
   refine Mi ?_ (pG [(100, .sl 0 ((n + (i : Int)) - x.base).toNat)] (oc (rfl : 0 = 0) (oc ((by omega) : (n + (i : Int)) - x.base = ((((n + (i : Int)) - x.base).toNat : Nat) : Int)) (oc ((by omega) : ((n + (i : Int)) - x.base).toNat ≤ c) on))))
   refine M1 ?_
   refine m_weak (rowA 9 A c ((E).take ((n + (i : Int)) - x.base).toNat : List ByteArray)) (List.Sublist.refl _) (fun w h => rowA_take h ((n + (i : Int)) - x.base).toNat (by omega)) ?_
   refine Mal (α := ByteArray) 16 ([(r.at i)]) ?_ (n := ((n + (i : Int)) - x.base).toNat) (hn := by rw [List.length_take]; omega)
   intro A12 c12
   refine Mi ?_ (pR ((i : Int) + 1))
   exact on3 ⟨i + 1, A12, c12, ((E).take ((n + (i : Int)) - x.base).toNat) ++ [(r.at i)]⟩ ⟨by omega, by rw [hP, Pn (by omega) h18, putOne_new (k := (n - x.base).toNat + i) (by rintro ⟨hz1, hz2⟩; first | omega | (rw [show (n - x.base).toNat + i = ((n + (i : Int)) - x.base).toNat by omega] at hz2; exact h20 hz2)), show (n - x.base).toNat + i + 1 = (n - x.base).toNat + (i + 1) by omega]; (rw [show (n - x.base).toNat + i = ((n + (i : Int)) - x.base).toNat by omega] <;> rfl), by simp only [List.length_append, List.length_take, List.length_cons, List.length_nil]; omega, by simp only [List.length_append, List.length_take, List.length_cons, List.length_nil]; omega, fun z hz => by simp only [List.nil_append, List.mem_append, List.mem_singleton] at hz; rcases hz with hz | hz; exact hEs z (List.mem_of_mem_take hz); subst hz; exact mDecode_size h18⟩ (by show r.n - (i + 1) < r.n - i; omega)
 refine Mi ?_ (pR (x.base - n))
 by_cases h7 : (m.n : Int) < x.base - n
 · refine Mmin ?_ (if_pos h7)
   refine Mi ?_ (pc (pG [(51, .sl m.n m.n)] (oc (rfl : (m.n : Int) = (m.n : Int)) (oc (rfl : m.n = m.n) (oc ((by omega) : m.n ≤ m.n) on)))) (pR (n + (m.n : Int))))
   refine Mf ?_ Tryz.call76 (fun bs w hS => log_CopyR x w (Rds.kp hx hS.kp) (by omega))
   rintro y1 hF1
   obtain ⟨A1, c1, rfl⟩ := Sl.of_xs hF1
   refine m_weak (rowA 9 A1 c1 (x.entries.xs : List ByteArray)) (List.Sublist.refl _) (fun w h => h) ?_
   refine m_know (F := RowOk A1 c1 (x.entries.xs : List ByteArray)) (fun bs w hS => rowA_rok (hS.res _ i0)) fun hrow1 => ?_
   have nchrow1 := hrow1.2
   obtain ⟨r, hr⟩ : ∃ r : Sl ByteArray, r = ⟨offA m.A m.c m.n 1, m.c - m.n, m.xs.drop m.n⟩ := ⟨_, rfl⟩
   have hrx : r.xs = m.xs.drop (x.base - n).toNat := by rw [hr] <;> exact drop_cut (by first | omega | (split at * <;> omega))
   have hrr : Sl.rd anyB w r := by rw [hr]; exact (hm.wide (fun _ _ => trivial)).drop _ (by first | omega | (split <;> omega))
   have hrk : r.n = m.n - m.n := by rw [hr]; exact List.length_drop ..
   have okr := Sl.rd.ok hrr
   have ncr := Sl.ok.nc okr
   have hrnx : r.n = r.xs.length := rfl
   refine Mk 58 ?_ (show (vI ((m.n - m.n : Nat) : Int)) = vI (r.n : Int) by rw [hrk])
   refine Mk 57 ?_ (show (.v (.slice (if m.c = m.n then m.A else m.A.map (·.add (m.n * 1))) (m.n - m.n) (m.c - m.n))) = .v (.slice r.A r.n r.c) by rw [hrk, hr]; first | done | rfl)
   refine Ml (σ := Nat × Option Addr × Nat × List ByteArray) (fun ⟨i, A, c, E⟩ => i ≤ r.n ∧ putGo x.entries.xs (n - x.base).toNat (m.xs.drop (x.base - n).toNat) = putGo E ((n - x.base).toNat + i) (r.xs.drop i) ∧ (n - x.base).toNat + i ≤ E.length ∧ E.length ≤ 400 + i ∧ ∀ z, z ∈ E → z.size ≤ 9223372036854775807) (fun ⟨i, A, c, E⟩ => r.n - i) (fun ⟨i, A, c, E⟩ => [rowA 9 A c (E : List ByteArray)]) [57, 58, 59, 10, 1, 6, 3] (fun ⟨i, A, c, E⟩ => [(59, vI (i : Int))]) (fun ⟨i, A, c, E⟩ => [(2, [vI x.base, .v (.slice A E.length c)])]) ?_ (⟨0, A1, c1, x.entries.xs⟩) ⟨Nat.zero_le _, by rw [hrx]; rfl, by omega, by omega, hmsz⟩
   rintro ⟨i, A, c, E⟩ ⟨hi, hP, hE, hE4, hEs⟩ _ on1
   refine m_know (F := RowOk A c (E : List ByteArray)) (fun bs w hS => rowA_rok (hS.res _ i0)) fun hrow => ?_
   have nch := hrow.2
   refine Md ((i : Int) < (r.n : Int)) (fun h8 => ?_) fun h8 => ?_
   · exfalso; omega
   refine Md ((400 : Int) < (E.length : Int)) (fun h9 => ?_) fun h9 => ?_
   rotate_left
   · have hpg : putGo x.entries.xs (n - x.base).toNat (m.xs.drop (x.base - n).toNat) = (E, 0) := by rw [hP]; exact putGo_end (by omega)
     have hm : mPut x.abs n m.xs = (⟨x.base, E⟩, 0) := by grind [mPut]
     exact Me2 hm ⟨x.base, ⟨A, c, E⟩⟩ rfl fun bs w hS => hS.outS (y := (⟨x.base, ⟨A, c, E⟩⟩ : CLog)) (allR_row i0 (hS.res _ i0) hEs)
   have hpg : putGo x.entries.xs (n - x.base).toNat (m.xs.drop (x.base - n).toNat) = (E, 0) := by rw [hP]; exact putGo_end (by omega)
   have hm : mPut x.abs n m.xs = (zLog, 8) := by
     unfold mPut; rw [if_neg (by simpa using (by assumption : mLog _ = 0)), hla, q1, q2]
     first | rw [if_pos (by omega)] | rw [if_neg (by omega), if_pos (by omega)] | rw [if_neg (by omega), if_neg (by omega), if_pos (by omega)] | (rw [if_neg (by omega), if_neg (by omega), if_neg (by omega), hpg, if_neg (by simp), if_pos (by show 400 < E.length; omega)])
     all_goals first | rfl | (exfalso; omega)
   exact Me2 hm ⟨0, Sl.nil⟩ rfl fun bs w hS => hS.outS (y := (⟨0, Sl.nil⟩ : CLog)) (Sl.rd_nil _ _)
 refine Mmin ?_ (if_neg h7)
 refine Mi ?_ (pc (pG [(51, .sl (x.base - n).toNat m.n)] (oc ((by omega) : x.base - n = (((x.base - n).toNat : Nat) : Int)) (oc (rfl : m.n = m.n) (oc ((by omega) : (x.base - n).toNat ≤ m.n) on)))) (pR (n + (x.base - n))))
 refine Mf ?_ Tryz.call76 (fun bs w hS => log_CopyR x w (Rds.kp hx hS.kp) (by omega))
 rintro y3 hF3
 obtain ⟨A3, c3, rfl⟩ := Sl.of_xs hF3
 refine m_weak (rowA 9 A3 c3 (x.entries.xs : List ByteArray)) (List.Sublist.refl _) (fun w h => h) ?_
 refine m_know (F := RowOk A3 c3 (x.entries.xs : List ByteArray)) (fun bs w hS => rowA_rok (hS.res _ i0)) fun hrow3 => ?_
 have nchrow3 := hrow3.2
 obtain ⟨r, hr⟩ : ∃ r : Sl ByteArray, r = ⟨offA m.A m.c (x.base - n).toNat 1, m.c - (x.base - n).toNat, m.xs.drop (x.base - n).toNat⟩ := ⟨_, rfl⟩
 have hrx : r.xs = m.xs.drop (x.base - n).toNat := by rw [hr] <;> exact drop_cut (by first | omega | (split at * <;> omega))
 have hrr : Sl.rd anyB w r := by rw [hr]; exact (hm.wide (fun _ _ => trivial)).drop _ (by first | omega | (split <;> omega))
 have hrk : r.n = m.n - (x.base - n).toNat := by rw [hr]; exact List.length_drop ..
 have okr := Sl.rd.ok hrr
 have ncr := Sl.ok.nc okr
 have hrnx : r.n = r.xs.length := rfl
 refine Mk 58 ?_ (show (vI ((m.n - (x.base - n).toNat : Nat) : Int)) = vI (r.n : Int) by rw [hrk])
 refine Mk 57 ?_ (show (.v (.slice (if m.c = (x.base - n).toNat then m.A else m.A.map (·.add ((x.base - n).toNat * 1))) (m.n - (x.base - n).toNat) (m.c - (x.base - n).toNat))) = .v (.slice r.A r.n r.c) by rw [hrk, hr]; first | done | rfl)
 refine Ml (σ := Nat × Option Addr × Nat × List ByteArray) (fun ⟨i, A, c, E⟩ => i ≤ r.n ∧ putGo x.entries.xs (n - x.base).toNat (m.xs.drop (x.base - n).toNat) = putGo E ((n - x.base).toNat + i) (r.xs.drop i) ∧ (n - x.base).toNat + i ≤ E.length ∧ E.length ≤ 400 + i ∧ ∀ z, z ∈ E → z.size ≤ 9223372036854775807) (fun ⟨i, A, c, E⟩ => r.n - i) (fun ⟨i, A, c, E⟩ => [rowA 9 A c (E : List ByteArray)]) [57, 58, 59, 10, 1, 6, 3] (fun ⟨i, A, c, E⟩ => [(59, vI (i : Int))]) (fun ⟨i, A, c, E⟩ => [(2, [vI x.base, .v (.slice A E.length c)])]) ?_ (⟨0, A3, c3, x.entries.xs⟩) ⟨Nat.zero_le _, by rw [hrx]; rfl, by omega, by omega, hmsz⟩
 rintro ⟨i, A, c, E⟩ ⟨hi, hP, hE, hE4, hEs⟩ _ on2
 refine m_know (F := RowOk A c (E : List ByteArray)) (fun bs w hS => rowA_rok (hS.res _ i0)) fun hrow => ?_
 have nch := hrow.2
 refine Md ((i : Int) < (r.n : Int)) (fun h10 => ?_) fun h10 => ?_
 rotate_left
 · refine Md ((400 : Int) < (E.length : Int)) (fun h16 => ?_) fun h16 => ?_
   rotate_left
   · have hpg : putGo x.entries.xs (n - x.base).toNat (m.xs.drop (x.base - n).toNat) = (E, 0) := by rw [hP]; exact putGo_end (by omega)
     have hm : mPut x.abs n m.xs = (⟨x.base, E⟩, 0) := by grind [mPut]
     exact Me2 hm ⟨x.base, ⟨A, c, E⟩⟩ rfl fun bs w hS => hS.outS (y := (⟨x.base, ⟨A, c, E⟩⟩ : CLog)) (allR_row i0 (hS.res _ i0) hEs)
   have hpg : putGo x.entries.xs (n - x.base).toNat (m.xs.drop (x.base - n).toNat) = (E, 0) := by rw [hP]; exact putGo_end (by omega)
   have hm : mPut x.abs n m.xs = (zLog, 8) := by
     unfold mPut; rw [if_neg (by simpa using (by assumption : mLog _ = 0)), hla, q1, q2]
     first | rw [if_pos (by omega)] | rw [if_neg (by omega), if_pos (by omega)] | rw [if_neg (by omega), if_neg (by omega), if_pos (by omega)] | (rw [if_neg (by omega), if_neg (by omega), if_neg (by omega), hpg, if_neg (by simp), if_pos (by show 400 < E.length; omega)])
     all_goals first | rfl | (exfalso; omega)
   exact Me2 hm ⟨0, Sl.nil⟩ rfl fun bs w hS => hS.outS (y := (⟨0, Sl.nil⟩ : CLog)) (Sl.rd_nil _ _)
 refine Mi ?_ (pA 62 63 (i : Int) i (rdk hrr))
 refine Mp ?_ Tryz.call10 (fun bs w hS => command_Decode (r.at i) w (Sl.ok.at (s := r) (i := i) okr (by omega)))
 refine Mdn ((mDecode (r.at i)).2 = 0) (fun h11 => ?_) fun h11 => ?_
 rotate_left
 · have hpg : putGo x.entries.xs (n - x.base).toNat (m.xs.drop (x.base - n).toNat) = ([], (mDecode (r.at i)).2) := by rw [hP]; exact putGo_bad (by omega) h11
   have hm : mPut x.abs n m.xs = (zLog, (mDecode (r.at i)).2) := by grind [mPut]
   exact Me2 hm ⟨0, Sl.nil⟩ rfl fun bs w hS => hS.outS (y := (⟨0, Sl.nil⟩ : CLog)) (Sl.rd_nil _ _)
 refine Mi ?_ (pc (pR ((n + (x.base - n)) + (i : Int))) (pR (((n + (x.base - n)) + (i : Int)) - x.base)))
 refine Md (((n + (x.base - n)) + (i : Int)) - x.base < (E.length : Int)) (fun h12 => ?_) fun h12 => ?_
 rotate_left
 · by_cases h15 : (E.length : Int) < ((n + (x.base - n)) + (i : Int)) - x.base
   · refine Mmin ?_ (if_pos h15)
     refine Mi ?_ (pG [(100, .sl 0 E.length)] (oc (rfl : 0 = 0) (oc (rfl : (E.length : Int) = (E.length : Int)) (oc ((by omega) : E.length ≤ c) on))))
     refine M1 ?_
     refine m_weak (rowA 9 A c ((E).take E.length : List ByteArray)) (List.Sublist.refl _) (fun w h => rowA_take h E.length (by omega)) ?_
     refine Mal (α := ByteArray) 16 ([(r.at i)]) ?_ (n := E.length) (hn := by rw [List.length_take]; omega)
     intro A7 c7
     refine Mi ?_ (pR ((i : Int) + 1))
     exact on2 ⟨i + 1, A7, c7, ((E).take E.length) ++ [(r.at i)]⟩ ⟨by omega, by rw [hP, Pn (by omega) h11, putOne_new (k := (n - x.base).toNat + i) (by rintro ⟨hz1, hz2⟩; omega), show (n - x.base).toNat + i + 1 = (n - x.base).toNat + (i + 1) by omega]; (rw [show (n - x.base).toNat + i = E.length by omega] <;> rfl), by simp only [List.length_append, List.length_take, List.length_cons, List.length_nil]; omega, by simp only [List.length_append, List.length_take, List.length_cons, List.length_nil]; omega, fun z hz => by simp only [List.nil_append, List.mem_append, List.mem_singleton] at hz; rcases hz with hz | hz; exact hEs z (List.mem_of_mem_take hz); subst hz; exact mDecode_size h11⟩ (by show r.n - (i + 1) < r.n - i; omega)
   refine Mmin ?_ (if_neg h15)
   refine Mi ?_ (pG [(100, .sl 0 (((n + (x.base - n)) + (i : Int)) - x.base).toNat)] (oc (rfl : 0 = 0) (oc ((by omega) : ((n + (x.base - n)) + (i : Int)) - x.base = (((((n + (x.base - n)) + (i : Int)) - x.base).toNat : Nat) : Int)) (oc ((by omega) : (((n + (x.base - n)) + (i : Int)) - x.base).toNat ≤ c) on))))
   refine M1 ?_
   refine m_weak (rowA 9 A c ((E).take (((n + (x.base - n)) + (i : Int)) - x.base).toNat : List ByteArray)) (List.Sublist.refl _) (fun w h => rowA_take h (((n + (x.base - n)) + (i : Int)) - x.base).toNat (by omega)) ?_
   refine Mal (α := ByteArray) 16 ([(r.at i)]) ?_ (n := (((n + (x.base - n)) + (i : Int)) - x.base).toNat) (hn := by rw [List.length_take]; omega)
   intro A8 c8
   refine Mi ?_ (pR ((i : Int) + 1))
   exact on2 ⟨i + 1, A8, c8, ((E).take (((n + (x.base - n)) + (i : Int)) - x.base).toNat) ++ [(r.at i)]⟩ ⟨by omega, by rw [hP, Pn (by omega) h11, putOne_new (k := (n - x.base).toNat + i) (by rintro ⟨hz1, hz2⟩; omega), show (n - x.base).toNat + i + 1 = (n - x.base).toNat + (i + 1) by omega]; (rw [show (n - x.base).toNat + i = (((n + (x.base - n)) + (i : Int)) - x.base).toNat by omega] <;> rfl), by simp only [List.length_append, List.length_take, List.length_cons, List.length_nil]; omega, by simp only [List.length_append, List.length_take, List.length_cons, List.length_nil]; omega, fun z hz => by simp only [List.nil_append, List.mem_append, List.mem_singleton] at hz; rcases hz with hz | hz; exact hEs z (List.mem_of_mem_take hz); subst hz; exact mDecode_size h11⟩ (by show r.n - (i + 1) < r.n - i; omega)
 refine Mi ?_ (pc (pIo 88 (((n + (x.base - n)) + (i : Int)) - x.base) (((n + (x.base - n)) + (i : Int)) - x.base).toNat E.length i0) (pEo 89 (((n + (x.base - n)) + (i : Int)) - x.base).toNat i0))
 refine Md ((E.getD (((n + (x.base - n)) + (i : Int)) - x.base).toNat default) = (r.at i)) (fun h13 => ?_) fun h13 => ?_
 · refine Mi ?_ (pR ((i : Int) + 1))
   exact on2 ⟨i + 1, A, c, E⟩ ⟨by omega, by rw [hP, Pn (by omega) h11, putOne_same (k := (n - x.base).toNat + i) (by omega) (by rw [show (n - x.base).toNat + i = (((n + (x.base - n)) + (i : Int)) - x.base).toNat by omega]; exact h13), show (n - x.base).toNat + i + 1 = (n - x.base).toNat + (i + 1) by omega], by omega, by omega, hEs⟩ (by show r.n - (i + 1) < r.n - i; omega)
 by_cases h14 : (E.length : Int) < ((n + (x.base - n)) + (i : Int)) - x.base
 · refine Mmin ?_ (if_pos h14)
   refine Mi ?_ (pG [(100, .sl 0 E.length)] (oc (rfl : 0 = 0) (oc (rfl : (E.length : Int) = (E.length : Int)) (oc ((by omega) : E.length ≤ c) on))))
   refine M1 ?_
   refine m_weak (rowA 9 A c ((E).take E.length : List ByteArray)) (List.Sublist.refl _) (fun w h => rowA_take h E.length (by omega)) ?_
   refine Mal (α := ByteArray) 16 ([(r.at i)]) ?_ (n := E.length) (hn := by rw [List.length_take]; omega)
   intro A5 c5
   refine Mi ?_ (pR ((i : Int) + 1))
   exact on2 ⟨i + 1, A5, c5, ((E).take E.length) ++ [(r.at i)]⟩ ⟨by omega, by rw [hP, Pn (by omega) h11, putOne_new (k := (n - x.base).toNat + i) (by rintro ⟨hz1, hz2⟩; first | omega | (rw [show (n - x.base).toNat + i = (((n + (x.base - n)) + (i : Int)) - x.base).toNat by omega] at hz2; exact h13 hz2)), show (n - x.base).toNat + i + 1 = (n - x.base).toNat + (i + 1) by omega]; (rw [show (n - x.base).toNat + i = E.length by omega] <;> rfl), by simp only [List.length_append, List.length_take, List.length_cons, List.length_nil]; omega, by simp only [List.length_append, List.length_take, List.length_cons, List.length_nil]; omega, fun z hz => by simp only [List.nil_append, List.mem_append, List.mem_singleton] at hz; rcases hz with hz | hz; exact hEs z (List.mem_of_mem_take hz); subst hz; exact mDecode_size h11⟩ (by show r.n - (i + 1) < r.n - i; omega)
 refine Mmin ?_ (if_neg h14)
 refine Mi ?_ (pG [(100, .sl 0 (((n + (x.base - n)) + (i : Int)) - x.base).toNat)] (oc (rfl : 0 = 0) (oc ((by omega) : ((n + (x.base - n)) + (i : Int)) - x.base = (((((n + (x.base - n)) + (i : Int)) - x.base).toNat : Nat) : Int)) (oc ((by omega) : (((n + (x.base - n)) + (i : Int)) - x.base).toNat ≤ c) on))))
 refine M1 ?_
 refine m_weak (rowA 9 A c ((E).take (((n + (x.base - n)) + (i : Int)) - x.base).toNat : List ByteArray)) (List.Sublist.refl _) (fun w h => rowA_take h (((n + (x.base - n)) + (i : Int)) - x.base).toNat (by omega)) ?_
 refine Mal (α := ByteArray) 16 ([(r.at i)]) ?_ (n := (((n + (x.base - n)) + (i : Int)) - x.base).toNat) (hn := by rw [List.length_take]; omega)
 intro A6 c6
 refine Mi ?_ (pR ((i : Int) + 1))
 exact on2 ⟨i + 1, A6, c6, ((E).take (((n + (x.base - n)) + (i : Int)) - x.base).toNat) ++ [(r.at i)]⟩ ⟨by omega, by rw [hP, Pn (by omega) h11, putOne_new (k := (n - x.base).toNat + i) (by rintro ⟨hz1, hz2⟩; first | omega | (rw [show (n - x.base).toNat + i = (((n + (x.base - n)) + (i : Int)) - x.base).toNat by omega] at hz2; exact h13 hz2)), show (n - x.base).toNat + i + 1 = (n - x.base).toNat + (i + 1) by omega]; (rw [show (n - x.base).toNat + i = (((n + (x.base - n)) + (i : Int)) - x.base).toNat by omega] <;> rfl), by simp only [List.length_append, List.length_take, List.length_cons, List.length_nil]; omega, by simp only [List.length_append, List.length_take, List.length_cons, List.length_nil]; omega, fun z hz => by simp only [List.nil_append, List.mem_append, List.mem_singleton] at hz; rcases hz with hz | hz; exact hEs z (List.mem_of_mem_take hz); subst hz; exact mDecode_size h11⟩ (by show r.n - (i + 1) < r.n - i; omega)
theorem snap_number (q : RQ) (b : Nat) (w : World) (hb : (blkR b 254 [vs q.1, vi q.2]).p w) (hz : q.1.size ≤ 9223372036854775807) : Calls Tryz.prog 165 #[.pointer (some (⟨b, 0, none⟩ : Addr))] w fun e w' => ∃ _ : Unit, e = .returned (vi (rNum q).1) ∧ True ∧ Kp [b] w w' ∧ (blkR b 254 [vs (rNum q).2.1, vi (rNum q).2.2]).p w' := by
 have hbm := mRead_bd q.1
 refine Mj ?_ Tryz.func165 (WS.start1 w _ hb (by simp [blkR]) (blkR_lt hb))
 refine Mi ?_ (pBk 9 1 1 i0)
 refine Mdn (q.2 = 0) (fun h1 => ?_) fun h1 => ?_
 rotate_left
 · refine Mt [vi 0] fun bs w hS => ?_
   have hm : rNum q = (0, q) := by grind [rNum]
   rw [hm]
   exact ⟨(), rfl, trivial, hS.kp, hS.res _ i0⟩
 refine Mi ?_ (pBk 15 0 1 i0)
 refine Mp ?_ Tryz.call48 (fun bs w hS => codec_ReadNumber _ w hz)
 refine Msb 0 [vs (mRead q.1).2.1, vi q.2] ?_
 refine Msb 1 [vs (mRead q.1).2.1, vi (mRead q.1).2.2] ?_
 refine Mt [vi (mRead q.1).1] fun bs w hS => ?_
 have hm : rNum q = ((mRead q.1).1, ((mRead q.1).2.1, (mRead q.1).2.2)) := by grind [rNum]
 rw [hm]
 exact ⟨(), rfl, trivial, hS.kp, hS.res _ i0⟩
theorem snap_text_ (q : RQ) (b : Nat) (w : World) (hb : (blkR b 254 [vs q.1, vi q.2]).p w) (hz : q.1.size ≤ 9223372036854775807) : Calls Tryz.prog 168 #[.pointer (some (⟨b, 0, none⟩ : Addr))] w fun e w' => ∃ _ : Unit, e = .returned (vs (rTxt q).1) ∧ True ∧ Kp [b] w w' ∧ (blkR b 254 [vs (rTxt q).2.1, vi (rTxt q).2.2]).p w' := by
 refine Mj ?_ Tryz.func168 (WS.start1 w _ hb (by simp [blkR]) (blkR_lt hb))
 refine Mi ?_ (pBk 9 1 1 i0)
 refine Mdn (q.2 = 0) (fun h1 => ?_) fun h1 => ?_
 rotate_left
 · refine Mt [ve] fun bs w hS => ?_
   have hm : rTxt q = (emp, q) := by grind [rTxt]
   rw [hm]
   exact ⟨(), rfl, trivial, hS.kp, hS.res _ i0⟩
 refine Mi ?_ (pBk 15 0 1 i0)
 refine Mp ?_ Tryz.call49 (fun bs w hS => codec_ReadText _ w hz)
 refine Msb 0 [vs (mTell q.1).2.1, vi q.2] ?_
 refine Msb 1 [vs (mTell q.1).2.1, vi (mTell q.1).2.2] ?_
 refine Mt [vs (mTell q.1).1] fun bs w hS => ?_
 have hm : rTxt q = ((mTell q.1).1, ((mTell q.1).2.1, (mTell q.1).2.2)) := by grind [rTxt]
 rw [hm]
 exact ⟨(), rfl, trivial, hS.kp, hS.res _ i0⟩
theorem snap_count (q : RQ) (m : Int) (b : Nat) (w : World) (hb : (blkR b 254 [vs q.1, vi q.2]).p w) (hz : q.1.size ≤ 9223372036854775807) : Calls Tryz.prog 166 #[.pointer (some (⟨b, 0, none⟩ : Addr)), vi m] w fun e w' => ∃ _ : Unit, e = .returned (vi (rMany m q).1) ∧ True ∧ Kp [b] w w' ∧ (blkR b 254 [vs (rMany m q).2.1, vi (rMany m q).2.2]).p w' := by
 refine Mj ?_ Tryz.func166 (WS.start1 w _ hb (by simp [blkR]) (blkR_lt hb))
 refine Mtk ?_ Tryz.call165 (fun bs w hS => snap_number q b w (hS.res _ i0) hz)
 rintro y _
 refine Mi ?_ (pBk 11 1 1 i0)
 refine Md ((rNum q).2.2 = 0) (fun h1 => ?_) fun h1 => ?_
 rotate_left
 · refine Mi ?_ (pBk 24 1 1 i0)
   refine My false true ?_ (df h1)
   refine Mt [vi 0] fun bs w hS => ?_
   have hm : rMany m q = (0, (rNum q).2) := by grind [rMany]
   rw [hm]
   exact ⟨(), rfl, trivial, hS.kp, hS.res _ i0⟩
 refine Md (m < (rNum q).1) (fun h2 => ?_) fun h2 => ?_
 rotate_left
 · refine Mi ?_ (pBk 24 1 1 i0)
   refine My true true ?_ (dt h1)
   refine Mt [vi (rNum q).1] fun bs w hS => ?_
   have hm : rMany m q = rNum q := by grind [rMany]
   rw [hm]
   exact ⟨(), rfl, trivial, hS.kp, hS.res _ i0⟩
 refine Msb 1 [vs (rNum q).2.1, vi 1] ?_
 refine Mi ?_ (pBk 24 1 1 i0)
 refine Mq 25 true ?_ rfl
 refine Mt [vi 0] fun bs w hS => ?_
 have hm : rMany m q = (0, ((rNum q).2.1, 1)) := by grind [rMany]
 rw [hm]
 exact ⟨(), rfl, trivial, hS.kp, hS.res _ i0⟩
theorem snap_lock (q : RQ) (b : Nat) (w : World) (hb : (blkR b 254 [vs q.1, vi q.2]).p w) (hz : q.1.size ≤ 9223372036854775807) : Calls Tryz.prog 167 #[.pointer (some (⟨b, 0, none⟩ : Addr))] w fun e w' => ∃ y : CLock, e = .returned y.val ∧ (y.abs = (rLock q).1 ∧ y.name.size ≤ 9223372036854775807) ∧ TurnedN (blkR b 254 [vs q.1, vi q.2]) w w' (blkR b 254 [vs (rLock q).2.1, vi (rLock q).2.2]) (lineR 3 y) := by
 refine Mj ?_ Tryz.func167 (WS.start1 w _ hb (by simp [blkR]) (blkR_lt hb))
 refine Mtk ?_ Tryz.call168 (fun bs w hS => snap_text_ q b w (hS.res _ i0) hz)
 rintro y _
 refine Mtk ?_ Tryz.call165 (fun bs w hS => snap_number (rTxt q).2 b w (hS.res _ i0) (rTxt_bd q _ hz).1)
 rintro y _
 refine Mtk ?_ Tryz.call165 (fun bs w hS => snap_number (rNum (rTxt q).2).2 b w (hS.res _ i0) (rNum_bd (rTxt q).2 _ (rTxt_bd q _ hz).1))
 rintro y _
 refine Mtk ?_ Tryz.call166 (fun bs w hS => snap_count (rNum (rNum (rTxt q).2).2).2 3 b w (hS.res _ i0) (rNum_bd (rNum (rTxt q).2).2 _ (rNum_bd (rTxt q).2 _ (rTxt_bd q _ hz).1)))
 rintro y _
 have hmn5 := rMany_n 3 (by decide) (rNum (rNum (rTxt q).2).2).2
 refine m_rowA (α := Int) 3 ?_
 refine Ml (σ := Nat × Option Addr × Nat) (fun ⟨i0, A0x, c0x⟩ => i0 ≤ (rMany 3 (rNum (rNum (rTxt q).2).2).2).1.toNat) (fun ⟨i0, A0x, c0x⟩ => (rMany 3 (rNum (rNum (rTxt q).2).2).2).1.toNat - i0) (fun ⟨i0, A0x, c0x⟩ => [rowA 3 A0x c0x ((rIter rNum i0 (rMany 3 (rNum (rNum (rTxt q).2).2).2).2).1 : List Int), blkR b 254 [vs (rIter rNum i0 (rMany 3 (rNum (rNum (rTxt q).2).2).2).2).2.1, vi (rIter rNum i0 (rMany 3 (rNum (rNum (rTxt q).2).2).2).2).2.2]]) [13, 12, 3, 2, 0] (fun ⟨i0, A0x, c0x⟩ => [(13, vI (i0 : Int))]) (fun ⟨i0, A0x, c0x⟩ => [(1, [vS (rTxt q).1, vI (rNum (rTxt q).2).1, vI (rNum (rNum (rTxt q).2).2).1, .v (.slice A0x ((rIter rNum i0 (rMany 3 (rNum (rNum (rTxt q).2).2).2).2).1).length c0x)])]) ?_ (⟨0, none, 0⟩) (Nat.zero_le _)
 rintro ⟨i0, A0x, c0x⟩ h0l _ on1
 have h0n : (rIter rNum i0 (rMany 3 (rNum (rNum (rTxt q).2).2).2).2).1.length = i0 := by exact rIter_len _ _ _
 refine Md ((i0 : Int) < (rMany 3 (rNum (rNum (rTxt q).2).2).2).1) (fun h1 => ?_) fun h1 => ?_
 rotate_left
 · have hx_i0 : i0 = (rMany 3 (rNum (rNum (rTxt q).2).2).2).1.toNat := by omega
   subst hx_i0
   refine Mt [.agg #[vs (rTxt q).1, vi (rNum (rTxt q).2).1, vi (rNum (rNum (rTxt q).2).2).1, .slice A0x ((rIter rNum (rMany 3 (rNum (rNum (rTxt q).2).2).2).1.toNat (rMany 3 (rNum (rNum (rTxt q).2).2).2).2).1).length c0x]] fun bs w hS => ?_
   have hS2 := hS.f1
   exact ⟨(⟨(rTxt q).1, (rNum (rTxt q).2).1, (rNum (rNum (rTxt q).2).2).1, ⟨A0x, c0x, (rIter rNum (rMany 3 (rNum (rNum (rTxt q).2).2).2).1.toNat (rMany 3 (rNum (rNum (rTxt q).2).2).2).2).1⟩⟩ : CLock), rfl, ⟨rfl, (rTxt_bd q _ hz).2⟩, (hS2.turnedN (fun _ h => h)).as (allR_one _ _) (allR_one_fp _)⟩
 refine Mda 5 [] [] [rowA 3 A0x c0x ((rIter rNum i0 (rMany 3 (rNum (rNum (rTxt q).2).2).2).2).1 : List Int)] Tryz_mixed ?_ (hR := (.cons_cons _ (.cons _ .slnil)))
 refine m_f1 ?_
 refine Mtu ?_ (v := fun _ => vi (rNum (rIter rNum i0 (rMany 3 (rNum (rNum (rTxt q).2).2).2).2).2).1) Tryz.call165 (fun bs w hS => (snap_number (rIter rNum i0 (rMany 3 (rNum (rNum (rTxt q).2).2).2).2).2 b w (hS.res _ (.head _)) (rIter_bd (B := 9223372036854775807) (fun q h => rNum_bd q _ h) i0 (rMany 3 (rNum (rNum (rTxt q).2).2).2).2 (rMany_bd 3 (rNum (rNum (rTxt q).2).2).2 _ (rNum_bd (rNum (rTxt q).2).2 _ (rNum_bd (rTxt q).2 _ (rTxt_bd q _ hz).1))))).mono (fun e w' ⟨y, h1, h2, h3, h4⟩ => ⟨y, h1, h2, h3, h4, (by simp [blkR]), fun x hx => .inl hx⟩))
 rintro y _
 refine M1 ?_ (hR := (.cons _ (List.Sublist.refl _)))
 refine Mz ?_
 refine m_f1 ?_
 refine Mal (α := Int) 8 ([(rNum (rIter rNum i0 (rMany 3 (rNum (rNum (rTxt q).2).2).2).2).2).1]) ?_
 intro A7 c7
 refine Mi ?_ (pR ((i0 : Int) + 1))
 refine m_f1 (m_f1 ?_)
 exact on1 ⟨i0 + 1, A7, c7⟩ (by show i0 + 1 ≤ (rMany 3 (rNum (rNum (rTxt q).2).2).2).1.toNat; omega) (by show (rMany 3 (rNum (rNum (rTxt q).2).2).2).1.toNat - (i0 + 1) < (rMany 3 (rNum (rNum (rTxt q).2).2).2).1.toNat - i0; omega)
theorem snap_session (q : RQ) (b : Nat) (w : World) (hb : (blkR b 254 [vs q.1, vi q.2]).p w) (hz : q.1.size ≤ 9223372036854775807) : Calls Tryz.prog 169 #[.pointer (some (⟨b, 0, none⟩ : Addr))] w fun e w' => ∃ y : CSession, e = .returned y.val ∧ (y.abs = (rSess q).1 ∧ ∀ k, k ∈ y.replies.xs → k.reply.text.size ≤ 9223372036854775807) ∧ TurnedN (blkR b 254 [vs q.1, vi q.2]) w w' (blkR b 254 [vs (rSess q).2.1, vi (rSess q).2.2]) (keptR 95 y) := by
 refine Mj ?_ Tryz.func169 (WS.start1 w _ hb (by simp [blkR]) (blkR_lt hb))
 refine Mtk ?_ Tryz.call165 (fun bs w hS => snap_number q b w (hS.res _ i0) hz)
 rintro y _
 refine Mtk ?_ Tryz.call165 (fun bs w hS => snap_number (rNum q).2 b w (hS.res _ i0) (rNum_bd q _ hz))
 rintro y _
 refine Mtk ?_ Tryz.call165 (fun bs w hS => snap_number (rNum (rNum q).2).2 b w (hS.res _ i0) (rNum_bd (rNum q).2 _ (rNum_bd q _ hz)))
 rintro y _
 refine Mtk ?_ Tryz.call165 (fun bs w hS => snap_number (rNum (rNum (rNum q).2).2).2 b w (hS.res _ i0) (rNum_bd (rNum (rNum q).2).2 _ (rNum_bd (rNum q).2 _ (rNum_bd q _ hz))))
 rintro y _
 refine Mtk ?_ Tryz.call166 (fun bs w hS => snap_count (rNum (rNum (rNum (rNum q).2).2).2).2 4 b w (hS.res _ i0) (rNum_bd (rNum (rNum (rNum q).2).2).2 _ (rNum_bd (rNum (rNum q).2).2 _ (rNum_bd (rNum q).2 _ (rNum_bd q _ hz)))))
 rintro y _
 have hmn6 := rMany_n 4 (by decide) (rNum (rNum (rNum (rNum q).2).2).2).2
 refine m_rowA (α := DKept) 95 ?_
 refine Ml (σ := Nat × Option Addr × Nat) (fun ⟨i0, A0x, c0x⟩ => i0 ≤ (rMany 4 (rNum (rNum (rNum (rNum q).2).2).2).2).1.toNat ∧ ∀ x, x ∈ (rIter rKept i0 (rMany 4 (rNum (rNum (rNum (rNum q).2).2).2).2).2).1 → x.reply.text.size ≤ 9223372036854775807) (fun ⟨i0, A0x, c0x⟩ => (rMany 4 (rNum (rNum (rNum (rNum q).2).2).2).2).1.toNat - i0) (fun ⟨i0, A0x, c0x⟩ => [rowA 95 A0x c0x ((rIter rKept i0 (rMany 4 (rNum (rNum (rNum (rNum q).2).2).2).2).2).1 : List DKept), blkR b 254 [vs (rIter rKept i0 (rMany 4 (rNum (rNum (rNum (rNum q).2).2).2).2).2).2.1, vi (rIter rKept i0 (rMany 4 (rNum (rNum (rNum (rNum q).2).2).2).2).2).2.2]]) [15, 14, 3, 2, 0] (fun ⟨i0, A0x, c0x⟩ => [(15, vI (i0 : Int))]) (fun ⟨i0, A0x, c0x⟩ => [(1, [vI (rNum q).1, vI (rNum (rNum q).2).1, vI (rNum (rNum (rNum q).2).2).1, vI (rNum (rNum (rNum (rNum q).2).2).2).1, .v (.slice A0x ((rIter rKept i0 (rMany 4 (rNum (rNum (rNum (rNum q).2).2).2).2).2).1).length c0x)])]) ?_ (⟨0, none, 0⟩) ⟨(Nat.zero_le _), (fun x hx => by cases hx)⟩
 rintro ⟨i0, A0x, c0x⟩ ⟨h0l, h0s⟩ _ on1
 have h0n : (rIter rKept i0 (rMany 4 (rNum (rNum (rNum (rNum q).2).2).2).2).2).1.length = i0 := by exact rIter_len _ _ _
 refine Md ((i0 : Int) < (rMany 4 (rNum (rNum (rNum (rNum q).2).2).2).2).1) (fun h1 => ?_) fun h1 => ?_
 rotate_left
 · have hx_i0 : i0 = (rMany 4 (rNum (rNum (rNum (rNum q).2).2).2).2).1.toNat := by omega
   subst hx_i0
   refine Mt [.agg #[vi (rNum q).1, vi (rNum (rNum q).2).1, vi (rNum (rNum (rNum q).2).2).1, vi (rNum (rNum (rNum (rNum q).2).2).2).1, .slice A0x ((rIter rKept (rMany 4 (rNum (rNum (rNum (rNum q).2).2).2).2).1.toNat (rMany 4 (rNum (rNum (rNum (rNum q).2).2).2).2).2).1).length c0x]] fun bs w hS => ?_
   have hS2 := hS.f1
   exact ⟨(⟨(rNum q).1, (rNum (rNum q).2).1, (rNum (rNum (rNum q).2).2).1, (rNum (rNum (rNum (rNum q).2).2).2).1, ⟨A0x, c0x, (rIter rKept (rMany 4 (rNum (rNum (rNum (rNum q).2).2).2).2).1.toNat (rMany 4 (rNum (rNum (rNum (rNum q).2).2).2).2).2).1⟩⟩ : CSession), rfl, ⟨rfl, h0s⟩, (hS2.turnedN (fun _ h => h)).as (allR_one _ _) (allR_one_fp _)⟩
 refine Mda 13 [] [] [rowA 95 A0x c0x ((rIter rKept i0 (rMany 4 (rNum (rNum (rNum (rNum q).2).2).2).2).2).1 : List DKept)] Tryz_mixed ?_ (hR := (.cons_cons _ (.cons _ .slnil)))
 refine m_f1 ?_
 refine Mtu ?_ (v := fun _ => vi (rNum (rIter rKept i0 (rMany 4 (rNum (rNum (rNum (rNum q).2).2).2).2).2).2).1) Tryz.call165 (fun bs w hS => (snap_number (rIter rKept i0 (rMany 4 (rNum (rNum (rNum (rNum q).2).2).2).2).2).2 b w (hS.res _ (.head _)) (rIter_bd (B := 9223372036854775807) (fun q h => rKept_bd q _ h) i0 (rMany 4 (rNum (rNum (rNum (rNum q).2).2).2).2).2 (rMany_bd 4 (rNum (rNum (rNum (rNum q).2).2).2).2 _ (rNum_bd (rNum (rNum (rNum q).2).2).2 _ (rNum_bd (rNum (rNum q).2).2 _ (rNum_bd (rNum q).2 _ (rNum_bd q _ hz))))))).mono (fun e w' ⟨y, h1, h2, h3, h4⟩ => ⟨y, h1, h2, h3, h4, (by simp [blkR]), fun x hx => .inl hx⟩))
 rintro y _
 refine Mtu ?_ (v := fun _ => vi (rNum (rNum (rIter rKept i0 (rMany 4 (rNum (rNum (rNum (rNum q).2).2).2).2).2).2).2).1) Tryz.call165 (fun bs w hS => (snap_number (rNum (rIter rKept i0 (rMany 4 (rNum (rNum (rNum (rNum q).2).2).2).2).2).2).2 b w (hS.res _ (.head _)) (rNum_bd (rIter rKept i0 (rMany 4 (rNum (rNum (rNum (rNum q).2).2).2).2).2).2 _ (rIter_bd (B := 9223372036854775807) (fun q h => rKept_bd q _ h) i0 (rMany 4 (rNum (rNum (rNum (rNum q).2).2).2).2).2 (rMany_bd 4 (rNum (rNum (rNum (rNum q).2).2).2).2 _ (rNum_bd (rNum (rNum (rNum q).2).2).2 _ (rNum_bd (rNum (rNum q).2).2 _ (rNum_bd (rNum q).2 _ (rNum_bd q _ hz)))))))).mono (fun e w' ⟨y, h1, h2, h3, h4⟩ => ⟨y, h1, h2, h3, h4, (by simp [blkR]), fun x hx => .inl hx⟩))
 rintro y _
 refine Mtu ?_ (v := fun _ => vi (rNum (rNum (rNum (rIter rKept i0 (rMany 4 (rNum (rNum (rNum (rNum q).2).2).2).2).2).2).2).2).1) Tryz.call165 (fun bs w hS => (snap_number (rNum (rNum (rIter rKept i0 (rMany 4 (rNum (rNum (rNum (rNum q).2).2).2).2).2).2).2).2 b w (hS.res _ (.head _)) (rNum_bd (rNum (rIter rKept i0 (rMany 4 (rNum (rNum (rNum (rNum q).2).2).2).2).2).2).2 _ (rNum_bd (rIter rKept i0 (rMany 4 (rNum (rNum (rNum (rNum q).2).2).2).2).2).2 _ (rIter_bd (B := 9223372036854775807) (fun q h => rKept_bd q _ h) i0 (rMany 4 (rNum (rNum (rNum (rNum q).2).2).2).2).2 (rMany_bd 4 (rNum (rNum (rNum (rNum q).2).2).2).2 _ (rNum_bd (rNum (rNum (rNum q).2).2).2 _ (rNum_bd (rNum (rNum q).2).2 _ (rNum_bd (rNum q).2 _ (rNum_bd q _ hz))))))))).mono (fun e w' ⟨y, h1, h2, h3, h4⟩ => ⟨y, h1, h2, h3, h4, (by simp [blkR]), fun x hx => .inl hx⟩))
 rintro y _
 refine Mtu ?_ (v := fun _ => vs (rTxt (rNum (rNum (rNum (rIter rKept i0 (rMany 4 (rNum (rNum (rNum (rNum q).2).2).2).2).2).2).2).2).2).1) Tryz.call168 (fun bs w hS => (snap_text_ (rNum (rNum (rNum (rIter rKept i0 (rMany 4 (rNum (rNum (rNum (rNum q).2).2).2).2).2).2).2).2).2 b w (hS.res _ (.head _)) (rNum_bd (rNum (rNum (rIter rKept i0 (rMany 4 (rNum (rNum (rNum (rNum q).2).2).2).2).2).2).2).2 _ (rNum_bd (rNum (rIter rKept i0 (rMany 4 (rNum (rNum (rNum (rNum q).2).2).2).2).2).2).2 _ (rNum_bd (rIter rKept i0 (rMany 4 (rNum (rNum (rNum (rNum q).2).2).2).2).2).2 _ (rIter_bd (B := 9223372036854775807) (fun q h => rKept_bd q _ h) i0 (rMany 4 (rNum (rNum (rNum (rNum q).2).2).2).2).2 (rMany_bd 4 (rNum (rNum (rNum (rNum q).2).2).2).2 _ (rNum_bd (rNum (rNum (rNum q).2).2).2 _ (rNum_bd (rNum (rNum q).2).2 _ (rNum_bd (rNum q).2 _ (rNum_bd q _ hz)))))))))).mono (fun e w' ⟨y, h1, h2, h3, h4⟩ => ⟨y, h1, h2, h3, h4, (by simp [blkR]), fun x hx => .inl hx⟩))
 rintro y _
 refine M1 ?_ (hR := (.cons _ (List.Sublist.refl _)))
 refine Mz ?_
 refine m_f1 ?_
 refine Mal (α := DKept) 40 ([(⟨(rNum (rIter rKept i0 (rMany 4 (rNum (rNum (rNum (rNum q).2).2).2).2).2).2).1, ⟨(rNum (rNum (rIter rKept i0 (rMany 4 (rNum (rNum (rNum (rNum q).2).2).2).2).2).2).2).1, (rNum (rNum (rNum (rIter rKept i0 (rMany 4 (rNum (rNum (rNum (rNum q).2).2).2).2).2).2).2).2).1, (rTxt (rNum (rNum (rNum (rIter rKept i0 (rMany 4 (rNum (rNum (rNum (rNum q).2).2).2).2).2).2).2).2).2).1⟩⟩ : DKept)]) ?_
 intro A11 c11
 refine Mi ?_ (pR ((i0 : Int) + 1))
 refine m_f1 (m_f1 ?_)
 exact on1 ⟨i0 + 1, A11, c11⟩ ⟨(by show i0 + 1 ≤ (rMany 4 (rNum (rNum (rNum (rNum q).2).2).2).2).1.toNat; omega), (fun x hx => by rcases List.mem_append.1 hx with hx | hx; exact h0s x hx; rw [List.mem_singleton] at hx; subst hx; exact (rTxt_bd (rNum (rNum (rNum (rIter rKept i0 (rMany 4 (rNum (rNum (rNum (rNum q).2).2).2).2).2).2).2).2).2 _ (rNum_bd (rNum (rNum (rIter rKept i0 (rMany 4 (rNum (rNum (rNum (rNum q).2).2).2).2).2).2).2).2 _ (rNum_bd (rNum (rIter rKept i0 (rMany 4 (rNum (rNum (rNum (rNum q).2).2).2).2).2).2).2 _ (rNum_bd (rIter rKept i0 (rMany 4 (rNum (rNum (rNum (rNum q).2).2).2).2).2).2 _ (rIter_bd (B := 9223372036854775807) (fun q h => rKept_bd q _ h) i0 (rMany 4 (rNum (rNum (rNum (rNum q).2).2).2).2).2 (rMany_bd 4 (rNum (rNum (rNum (rNum q).2).2).2).2 _ (rNum_bd (rNum (rNum (rNum q).2).2).2 _ (rNum_bd (rNum (rNum q).2).2 _ (rNum_bd (rNum q).2 _ (rNum_bd q _ hz)))))))))).2)⟩ (by show (rMany 4 (rNum (rNum (rNum (rNum q).2).2).2).2).1.toNat - (i0 + 1) < (rMany 4 (rNum (rNum (rNum (rNum q).2).2).2).2).1.toNat - i0; omega)
theorem snap_state (q : RQ) (b : Nat) (w : World) (hb : (blkR b 254 [vs q.1, vi q.2]).p w) (hz : q.1.size ≤ 9223372036854775807) : Calls Tryz.prog 159 #[.pointer (some (⟨b, 0, none⟩ : Addr))] w fun e w' => ∃ y : List Nat × CState, e = .returned y.2.val ∧ (y.2.abs = (rState q).1 ∧ (∀ x, x ∈ y.2.locks.xs → x.name.size ≤ 9223372036854775807) ∧ (∀ x, x ∈ y.2.pairs.xs → x.name.size ≤ 9223372036854775807 ∧ x.value.size ≤ 9223372036854775807) ∧ ∀ x, x ∈ y.2.sessions.xs → ∀ k, k ∈ x.replies.xs → k.reply.text.size ≤ 9223372036854775807) ∧ TurnedN (blkR b 254 [vs q.1, vi q.2]) w w' (blkR b 254 [vs (rState q).2.1, vi (rState q).2.2]) (subR y.1 y.2) := by
 refine Mj ?_ Tryz.func159 (WS.start1 w _ hb (by simp [blkR]) (blkR_lt hb))
 refine Mtk ?_ Tryz.call165 (fun bs w hS => snap_number q b w (hS.res _ i0) hz)
 rintro y _
 refine Mtk ?_ Tryz.call166 (fun bs w hS => snap_count (rNum q).2 5 b w (hS.res _ i0) (rNum_bd q _ hz))
 rintro y _
 have hmn3 := rMany_n 5 (by decide) (rNum q).2
 refine m_rowA (α := CLock) 129 ?_
 refine m_nores (ownL (lineR 3) []) rfl (fun w x hx => by cases hx) ?_
 refine Ml (σ := Nat × Option Addr × Nat × List CLock) (fun ⟨i0, A0x, c0x, M0⟩ => i0 ≤ (rMany 5 (rNum q).2).1.toNat ∧ M0.map CLock.abs = (rIter rLock i0 (rMany 5 (rNum q).2).2).1 ∧ ∀ x, x ∈ M0 → x.name.size ≤ 9223372036854775807) (fun ⟨i0, A0x, c0x, M0⟩ => (rMany 5 (rNum q).2).1.toNat - i0) (fun ⟨i0, A0x, c0x, M0⟩ => [ownL (lineR 3) M0, rowA 129 A0x c0x (M0 : List CLock), blkR b 254 [vs (rIter rLock i0 (rMany 5 (rNum q).2).2).2.1, vi (rIter rLock i0 (rMany 5 (rNum q).2).2).2.2]]) [9, 8, 3, 2, 0] (fun ⟨i0, A0x, c0x, M0⟩ => [(9, vI (i0 : Int))]) (fun ⟨i0, A0x, c0x, M0⟩ => [(1, [vI (rNum q).1, .v (.slice A0x M0.length c0x), .v vn, .v vn])]) ?_ (⟨0, none, 0, []⟩) ⟨(Nat.zero_le _), rfl, (fun x hx => by cases hx)⟩
 rintro ⟨i0, A0x, c0x, M0⟩ ⟨h0l, h0m, h0s⟩ _ on1
 have h0n : M0.length = i0 := by have h9 := congrArg List.length h0m; rw [List.length_map, rIter_len] at h9; exact h9
 refine Md ((i0 : Int) < (rMany 5 (rNum q).2).1) (fun h1 => ?_) fun h1 => ?_
 · refine Mda 5 [] [] [ownL (lineR 3) M0, rowA 129 A0x c0x (M0 : List CLock)] Tryz_mixed ?_ (hR := (.cons_cons _ (.cons_cons _ (.cons _ .slnil))))
   refine m_f2 ?_
   refine Mtn ?_ Tryz.call167 (fun bs w hS => snap_lock (rIter rLock i0 (rMany 5 (rNum q).2).2).2 b w (hS.res _ (.head _)) (rIter_bd (B := 9223372036854775807) (fun q h => rLock_bd q _ h) i0 (rMany 5 (rNum q).2).2 (rMany_bd 5 (rNum q).2 _ (rNum_bd q _ hz)))) (hR := fun _ => (.cons _ (.cons _ (List.Sublist.refl _))))
   rintro y4 hF4
   refine M1 ?_ (hR := (.cons _ (.cons _ (List.Sublist.refl _))))
   refine Mz ?_
   refine m_f3 ?_
   refine Mal (α := CLock) 56 ([(⟨y4.name, y4.holder, y4.fence, y4.line⟩ : CLock)]) ?_
   intro A5 c5
   refine Mi ?_ (pR ((i0 : Int) + 1))
   refine m_f3 ?_
   refine m_f2 ?_
   refine m_join (ownL (lineR 3) (M0 ++ [(⟨y4.name, y4.holder, y4.fence, y4.line⟩ : CLock)])) (ownL_app_fp (lineR 3) M0 (⟨y4.name, y4.holder, y4.fence, y4.line⟩ : CLock)) (fun w => ownL_app_p (lineR 3) M0 (⟨y4.name, y4.holder, y4.fence, y4.line⟩ : CLock) w) ?_
   refine m_f2 (m_f2 (m_f2 ?_))
   exact on1 ⟨i0 + 1, A5, c5, M0 ++ [(⟨y4.name, y4.holder, y4.fence, y4.line⟩ : CLock)]⟩ ⟨(by show i0 + 1 ≤ (rMany 5 (rNum q).2).1.toNat; omega), (by rw [List.map_append, h0m]; exact congrArg (fun z => (rIter rLock i0 (rMany 5 (rNum q).2).2).1 ++ [z]) (show CLock.abs (⟨y4.name, y4.holder, y4.fence, y4.line⟩ : CLock) = (rLock (rIter rLock i0 (rMany 5 (rNum q).2).2).2).1 from hF4.1)), (fun x hx => by rcases List.mem_append.1 hx with hx | hx; exact h0s x hx; rw [List.mem_singleton] at hx; subst hx; exact hF4.2)⟩ (by show (rMany 5 (rNum q).2).1.toNat - (i0 + 1) < (rMany 5 (rNum q).2).1.toNat - i0; omega)
 have hx_i0 : i0 = (rMany 5 (rNum q).2).1.toNat := by omega
 subst hx_i0
 have hzQ0 := (rIter_bd (B := 9223372036854775807) (fun q h => rLock_bd q _ h) (rMany 5 (rNum q).2).1.toNat (rMany 5 (rNum q).2).2 (rMany_bd 5 (rNum q).2 _ (rNum_bd q _ hz)))
 try dsimp only
 generalize hQ0 : (rIter rLock (rMany 5 (rNum q).2).1.toNat (rMany 5 (rNum q).2).2) = Q0 at *
 refine m_f2 ?_
 refine Mtk ?_ Tryz.call166 (fun bs w hS => snap_count Q0.2 5 b w (hS.res _ i0) hzQ0)
 rintro y _
 have hmn7 := rMany_n 5 (by decide) Q0.2
 refine m_rowA (α := DPair) 132 ?_
 refine Ml (σ := Nat × Option Addr × Nat) (fun ⟨i1, A1x, c1x⟩ => i1 ≤ (rMany 5 Q0.2).1.toNat ∧ ∀ x, x ∈ (rIter rPair i1 (rMany 5 Q0.2).2).1 → x.name.size ≤ 9223372036854775807 ∧ x.value.size ≤ 9223372036854775807) (fun ⟨i1, A1x, c1x⟩ => (rMany 5 Q0.2).1.toNat - i1) (fun ⟨i1, A1x, c1x⟩ => [rowA 132 A1x c1x ((rIter rPair i1 (rMany 5 Q0.2).2).1 : List DPair), blkR b 254 [vs (rIter rPair i1 (rMany 5 Q0.2).2).2.1, vi (rIter rPair i1 (rMany 5 Q0.2).2).2.2], ownL (lineR 3) M0, rowA 129 A0x c0x (M0 : List CLock)]) [21, 20, 3, 2, 0] (fun ⟨i1, A1x, c1x⟩ => [(21, vI (i1 : Int))]) (fun ⟨i1, A1x, c1x⟩ => [(1, [vI (rNum q).1, .v (.slice A0x M0.length c0x), .v (.slice A1x ((rIter rPair i1 (rMany 5 Q0.2).2).1).length c1x), .v vn])]) ?_ (⟨0, none, 0⟩) ⟨(Nat.zero_le _), (fun x hx => by cases hx)⟩
 rintro ⟨i1, A1x, c1x⟩ ⟨h1l, h1s⟩ _ on2
 have h1n : (rIter rPair i1 (rMany 5 Q0.2).2).1.length = i1 := by exact rIter_len _ _ _
 refine Md ((i1 : Int) < (rMany 5 Q0.2).1) (fun h2 => ?_) fun h2 => ?_
 · refine Mda 10 [] [] [rowA 132 A1x c1x ((rIter rPair i1 (rMany 5 Q0.2).2).1 : List DPair), ownL (lineR 3) M0, rowA 129 A0x c0x (M0 : List CLock)] Tryz_mixed ?_ (hR := (.cons_cons _ (.cons _ (List.Sublist.refl _))))
   refine m_f1 ?_
   refine Mtk ?_ Tryz.call168 (fun bs w hS => snap_text_ (rIter rPair i1 (rMany 5 Q0.2).2).2 b w (hS.res _ i0) (rIter_bd (B := 9223372036854775807) (fun q h => rPair_bd q _ h) i1 (rMany 5 Q0.2).2 (rMany_bd 5 Q0.2 _ hzQ0)))
   rintro y _
   refine Mtk ?_ Tryz.call168 (fun bs w hS => snap_text_ (rTxt (rIter rPair i1 (rMany 5 Q0.2).2).2).2 b w (hS.res _ i0) (rTxt_bd (rIter rPair i1 (rMany 5 Q0.2).2).2 _ (rIter_bd (B := 9223372036854775807) (fun q h => rPair_bd q _ h) i1 (rMany 5 Q0.2).2 (rMany_bd 5 Q0.2 _ hzQ0))).1)
   rintro y _
   refine Mtk ?_ Tryz.call165 (fun bs w hS => snap_number (rTxt (rTxt (rIter rPair i1 (rMany 5 Q0.2).2).2).2).2 b w (hS.res _ i0) (rTxt_bd (rTxt (rIter rPair i1 (rMany 5 Q0.2).2).2).2 _ (rTxt_bd (rIter rPair i1 (rMany 5 Q0.2).2).2 _ (rIter_bd (B := 9223372036854775807) (fun q h => rPair_bd q _ h) i1 (rMany 5 Q0.2).2 (rMany_bd 5 Q0.2 _ hzQ0))).1).1)
   rintro y _
   refine M1 ?_ (hR := (.cons _ (List.Sublist.refl _)))
   refine Mz ?_
   refine m_f1 ?_
   refine Mal (α := DPair) 40 ([(⟨(rTxt (rIter rPair i1 (rMany 5 Q0.2).2).2).1, (rTxt (rTxt (rIter rPair i1 (rMany 5 Q0.2).2).2).2).1, (rNum (rTxt (rTxt (rIter rPair i1 (rMany 5 Q0.2).2).2).2).2).1⟩ : DPair)]) ?_
   intro A11 c11
   refine Mi ?_ (pR ((i1 : Int) + 1))
   refine m_f3 (m_f3 (m_f3 (m_f3 ?_)))
   exact on2 ⟨i1 + 1, A11, c11⟩ ⟨(by show i1 + 1 ≤ (rMany 5 Q0.2).1.toNat; omega), (fun x hx => by rcases List.mem_append.1 hx with hx | hx; exact h1s x hx; rw [List.mem_singleton] at hx; subst hx; exact ⟨(rTxt_bd (rIter rPair i1 (rMany 5 Q0.2).2).2 _ (rIter_bd (B := 9223372036854775807) (fun q h => rPair_bd q _ h) i1 (rMany 5 Q0.2).2 (rMany_bd 5 Q0.2 _ hzQ0))).2, (rTxt_bd (rTxt (rIter rPair i1 (rMany 5 Q0.2).2).2).2 _ (rTxt_bd (rIter rPair i1 (rMany 5 Q0.2).2).2 _ (rIter_bd (B := 9223372036854775807) (fun q h => rPair_bd q _ h) i1 (rMany 5 Q0.2).2 (rMany_bd 5 Q0.2 _ hzQ0))).1).2⟩)⟩ (by show (rMany 5 Q0.2).1.toNat - (i1 + 1) < (rMany 5 Q0.2).1.toNat - i1; omega)
 have hx_i1 : i1 = (rMany 5 Q0.2).1.toNat := by omega
 subst hx_i1
 have hzQ1 := (rIter_bd (B := 9223372036854775807) (fun q h => rPair_bd q _ h) (rMany 5 Q0.2).1.toNat (rMany 5 Q0.2).2 (rMany_bd 5 Q0.2 _ hzQ0))
 try dsimp only
 generalize hQ1 : (rIter rPair (rMany 5 Q0.2).1.toNat (rMany 5 Q0.2).2) = Q1 at *
 refine m_f1 ?_
 refine Mtk ?_ Tryz.call166 (fun bs w hS => snap_count Q1.2 4 b w (hS.res _ i0) hzQ1)
 rintro y _
 have hmn13 := rMany_n 4 (by decide) Q1.2
 refine m_rowA (α := CSession) 87 ?_
 refine m_nores (ownL (keptR 95) []) rfl (fun w x hx => by cases hx) ?_
 refine Ml (σ := Nat × Option Addr × Nat × List CSession) (fun ⟨i2, A2x, c2x, M2⟩ => i2 ≤ (rMany 4 Q1.2).1.toNat ∧ M2.map CSession.abs = (rIter rSess i2 (rMany 4 Q1.2).2).1 ∧ ∀ x, x ∈ M2 → ∀ k, k ∈ x.replies.xs → k.reply.text.size ≤ 9223372036854775807) (fun ⟨i2, A2x, c2x, M2⟩ => (rMany 4 Q1.2).1.toNat - i2) (fun ⟨i2, A2x, c2x, M2⟩ => [ownL (keptR 95) M2, rowA 87 A2x c2x (M2 : List CSession), blkR b 254 [vs (rIter rSess i2 (rMany 4 Q1.2).2).2.1, vi (rIter rSess i2 (rMany 4 Q1.2).2).2.2], rowA 132 A1x c1x (Q1.1 : List DPair), ownL (lineR 3) M0, rowA 129 A0x c0x (M0 : List CLock)]) [38, 37, 3, 2, 0] (fun ⟨i2, A2x, c2x, M2⟩ => [(38, vI (i2 : Int))]) (fun ⟨i2, A2x, c2x, M2⟩ => [(1, [vI (rNum q).1, .v (.slice A0x M0.length c0x), .v (.slice A1x (Q1.1).length c1x), .v (.slice A2x M2.length c2x)])]) ?_ (⟨0, none, 0, []⟩) ⟨(Nat.zero_le _), rfl, (fun x hx => by cases hx)⟩
 rintro ⟨i2, A2x, c2x, M2⟩ ⟨h2l, h2m, h2s⟩ _ on3
 have h2n : M2.length = i2 := by have h9 := congrArg List.length h2m; rw [List.length_map, rIter_len] at h9; exact h9
 refine Md ((i2 : Int) < (rMany 4 Q1.2).1) (fun h3 => ?_) fun h3 => ?_
 rotate_left
 · have hx_i2 : i2 = (rMany 4 Q1.2).1.toNat := by omega
   subst hx_i2
   have hzQ2 := (rIter_bd (B := 9223372036854775807) (fun q h => rSess_bd q _ h) (rMany 4 Q1.2).1.toNat (rMany 4 Q1.2).2 (rMany_bd 4 Q1.2 _ hzQ1))
   try dsimp only
   generalize hQ2 : (rIter rSess (rMany 4 Q1.2).1.toNat (rMany 4 Q1.2).2) = Q2 at *
   refine Mt [.agg #[vi (rNum q).1, .slice A0x M0.length c0x, .slice A1x (Q1.1).length c1x, .slice A2x M2.length c2x]] fun bs w hS => ?_
   have hR := rState_of hQ0 hQ1 hQ2
   rw [hR]
   have hS2 := hS.f5.f5.f5.f4.f4.f5
   refine ⟨((allR [ownL (keptR 95) M2, rowA 87 A2x c2x (M2 : List CSession), rowA 132 A1x c1x (Q1.1 : List DPair), ownL (lineR 3) M0, rowA 129 A0x c0x (M0 : List CLock)]).fp, (⟨(rNum q).1, ⟨A0x, c0x, M0⟩, ⟨A1x, c1x, Q1.1⟩, ⟨A2x, c2x, M2⟩⟩ : CState)), rfl, ⟨?_, h0s, h1s, h2s⟩, (hS2.turnedN (fun _ h => h)).as (fun hp => ?_) rfl⟩
   · show CState.abs (⟨(rNum q).1, ⟨A0x, c0x, M0⟩, ⟨A1x, c1x, Q1.1⟩, ⟨A2x, c2x, M2⟩⟩ : CState) = _; simp only [CState.abs, h0m, h2m]
   · exact ⟨out_locks i4 i3 hp (fun x hx => hx) h0s, allR_row i2 (hp _ i2) h1s, out_sess i1 i0 hp (fun x hx => hx) h2s⟩
 refine Mda 5 [] [] [ownL (keptR 95) M2, rowA 87 A2x c2x (M2 : List CSession), rowA 132 A1x c1x (Q1.1 : List DPair), ownL (lineR 3) M0, rowA 129 A0x c0x (M0 : List CLock)] Tryz_mixed ?_ (hR := (.cons_cons _ (.cons_cons _ (.cons _ (List.Sublist.refl _)))))
 refine m_f2 ?_
 refine Mtn ?_ Tryz.call169 (fun bs w hS => snap_session (rIter rSess i2 (rMany 4 Q1.2).2).2 b w (hS.res _ i0) (rIter_bd (B := 9223372036854775807) (fun q h => rSess_bd q _ h) i2 (rMany 4 Q1.2).2 (rMany_bd 4 Q1.2 _ hzQ1))) (hR := fun _ => (.cons _ (.cons _ (List.Sublist.refl _))))
 rintro y14 hF14
 refine M1 ?_ (hR := (.cons _ (.cons _ (List.Sublist.refl _))))
 refine Mz ?_
 refine m_f3 ?_
 refine Mal (α := CSession) 56 ([(⟨y14.client, y14.id, y14.acked, y14.last, y14.replies⟩ : CSession)]) ?_
 intro A15 c15
 refine Mi ?_ (pR ((i2 : Int) + 1))
 refine m_f3 ?_
 refine m_f2 ?_
 refine m_join (ownL (keptR 95) (M2 ++ [(⟨y14.client, y14.id, y14.acked, y14.last, y14.replies⟩ : CSession)])) (ownL_app_fp (keptR 95) M2 (⟨y14.client, y14.id, y14.acked, y14.last, y14.replies⟩ : CSession)) (fun w => ownL_app_p (keptR 95) M2 (⟨y14.client, y14.id, y14.acked, y14.last, y14.replies⟩ : CSession) w) ?_
 refine m_f5 (m_f5 (m_f5 (m_f5 (m_f5 (m_f5 ?_)))))
 exact on3 ⟨i2 + 1, A15, c15, M2 ++ [(⟨y14.client, y14.id, y14.acked, y14.last, y14.replies⟩ : CSession)]⟩ ⟨(by show i2 + 1 ≤ (rMany 4 Q1.2).1.toNat; omega), (by rw [List.map_append, h2m]; exact congrArg (fun z => (rIter rSess i2 (rMany 4 Q1.2).2).1 ++ [z]) (show CSession.abs (⟨y14.client, y14.id, y14.acked, y14.last, y14.replies⟩ : CSession) = (rSess (rIter rSess i2 (rMany 4 Q1.2).2).2).1 from hF14.1)), (fun x hx => by rcases List.mem_append.1 hx with hx | hx; exact h2s x hx; rw [List.mem_singleton] at hx; subst hx; exact hF14.2)⟩ (by show (rMany 4 Q1.2).1.toNat - (i2 + 1) < (rMany 4 Q1.2).1.toNat - i2; omega)
theorem snap_Decode (s : ByteArray) (w : World) (hs : s.size ≤ 9223372036854775807) : Calls Tryz.prog 151 #[vs s] w fun e w' => ∃ y : CState, e = .returned (.tuple #[y.val, vi (mUnsnap s).2]) ∧ y.abs = (mUnsnap s).1 ∧ FreshS w w' y := by
 refine M0 ?_ Tryz.func151
 refine Md ((5000 : Int) < (s.size : Int)) (fun h1 => ?_) fun h1 => ?_
 · exact Me2 (unsnap_big (by assumption)) ⟨0, Sl.nil, Sl.nil, Sl.nil⟩ rfl fun bs w hS => hS.outS (y := (⟨0, Sl.nil, Sl.nil, Sl.nil⟩ : CState)) ⟨Sl.rd_nil _ _, Sl.rd_nil _ _, Sl.rd_nil _ _⟩
 refine Md ((s.size : Int) < 4) (fun h2 => ?_) fun h2 => ?_
 · exact Me2 (unsnap_small (by assumption) (by assumption)) ⟨0, Sl.nil, Sl.nil, Sl.nil⟩ rfl fun bs w hS => hS.outS (y := (⟨0, Sl.nil, Sl.nil, Sl.nil⟩ : CState)) ⟨Sl.rd_nil _ _, Sl.rd_nil _ _, Sl.rd_nil _ _⟩
 have hz0 : (s.extract 0 ((s.size : Int) - 4).toNat).size ≤ 9223372036854775807 := by rw [ByteArray.size_extract]; omega
 refine Mi ?_ (pR ((s.size : Int) - 4))
 refine Mda 8 [] [] [] Tryz_mixed ?_
 refine Mih ?_ (pc (pG [(21, .sl 0 ((s.size : Int) - 4).toNat)] (oc (rfl : 0 = 0) (oc ((by omega) : (s.size : Int) - 4 = ((((s.size : Int) - 4).toNat : Nat) : Int)) (oc ((by omega) : ((s.size : Int) - 4).toNat ≤ s.size) on)))) (pG [(25, .sl ((s.size : Int) - 4).toNat s.size)] (oc ((by omega) : (s.size : Int) - 4 = ((((s.size : Int) - 4).toNat : Nat) : Int)) (oc (rfl : s.size = s.size) (oc ((by omega) : ((s.size : Int) - 4).toNat ≤ s.size) on)))))
 refine Mp ?_ Tryz.call47 (fun bs w hS => codec_Seal _ w (by first | assumption | omega | (simp only [emp_size]; omega)))
 refine Mdn ((mSeal (s.extract 0 ((s.size : Int) - 4).toNat)) = (s.extract ((s.size : Int) - 4).toNat s.size)) (fun h3 => ?_) fun h3 => ?_
 rotate_left
 · exact Me2 (unsnap_seal h1 h2 h3) ⟨0, Sl.nil, Sl.nil, Sl.nil⟩ rfl fun bs w hS => hS.outS (y := (⟨0, Sl.nil, Sl.nil, Sl.nil⟩ : CState)) ⟨Sl.rd_nil _ _, Sl.rd_nil _ _, Sl.rd_nil _ _⟩
 refine Mi ?_ (pG [(30, .sl 0 ((s.size : Int) - 4).toNat)] (oc (rfl : 0 = 0) (oc ((by omega) : (s.size : Int) - 4 = ((((s.size : Int) - 4).toNat : Nat) : Int)) (oc ((by omega) : ((s.size : Int) - 4).toNat ≤ s.size) on))))
 refine Mon 1 ?_ Tryz.call159 (fun bs w hS hb => snap_state (rIn s) (bs.getD 1 0) w hb hz0)
 rintro y1 hF1
 refine m_know (F := Rds.ok y1.2) (fun bs w hS => Rds.okof (hS.res _ i0)) fun hok1 => ?_
 refine Md ((rState (rIn s)).2.2 = 0) (fun h4 => ?_) fun h4 => ?_
 rotate_left
 · refine My false true ?_ (df h4)
   refine Mda 7 [] [0] [subR y1.1 y1.2] Tryz_mixed ?_
   refine Mz ?_
   exact Me2 (unsnap_bad (q := (rIn s)) rfl rfl h1 h2 h3 h4) ⟨0, Sl.nil, Sl.nil, Sl.nil⟩ rfl fun bs w hS => hS.outS (y := (⟨0, Sl.nil, Sl.nil, Sl.nil⟩ : CState)) ⟨Sl.rd_nil _ _, Sl.rd_nil _ _, Sl.rd_nil _ _⟩
 refine Mdn ((rState (rIn s)).2.1 = emp) (fun h5 => ?_) fun h5 => ?_
 rotate_left
 · refine Mq 54 true ?_ rfl
   refine Mda 7 [] [0] [subR y1.1 y1.2] Tryz_mixed ?_
   refine Mz ?_
   exact Me2 (unsnap_more (q := (rIn s)) rfl rfl h1 h2 h3 h4 h5) ⟨0, Sl.nil, Sl.nil, Sl.nil⟩ rfl fun bs w hS => hS.outS (y := (⟨0, Sl.nil, Sl.nil, Sl.nil⟩ : CState)) ⟨Sl.rd_nil _ _, Sl.rd_nil _ _, Sl.rd_nil _ _⟩
 refine My true true ?_ (dt h4)
 refine Mp ?_ Tryz.call31 (fun bs w hS => machine_Check y1.2 w (hS.res _ i0))
 refine Mdn (mState y1.2.abs = 0) (fun h7 => ?_) fun h7 => ?_
 rotate_left
 · have hy : y1.2.abs = (rState (rIn s)).1 := hF1.1
   exact Me2 (unsnap_fault (y := y1.2.abs) (q := (rIn s)) rfl rfl h1 h2 h3 h4 h5 hy h7) ⟨0, Sl.nil, Sl.nil, Sl.nil⟩ rfl fun bs w hS => hS.outS (y := (⟨0, Sl.nil, Sl.nil, Sl.nil⟩ : CState)) ⟨Sl.rd_nil _ _, Sl.rd_nil _ _, Sl.rd_nil _ _⟩
 have hy : y1.2.abs = (rState (rIn s)).1 := hF1.1
 exact Me2 (unsnap_ok (y := y1.2.abs) (q := (rIn s)) rfl rfl h1 h2 h3 h4 h5 hy h7) y1.2 rfl fun bs w hS => hS.outS (y := y1.2) (allR_sub i0 (hS.res _ i0))
theorem repl_kept_ {B : Nat → Prop} (x : CReplica) (w : World) (hx : Rds.sub B w x) : Calls Tryz.prog 139 #[x.val] w fun e w' => ∃ y : CState, e = .returned (.tuple #[y.val, vi (mKeptS x.abs).2]) ∧ y.abs = (mKeptS x.abs).1 ∧ FreshS w w' y := by
 have qL : x.abs.log = x.log.abs := rfl
 have qS : x.abs.state = x.state.abs := rfl
 have qN : x.abs.snap = x.snap := rfl
 have qB : x.abs.log.base = x.log.base := rfl
 have qI : x.abs.state.index = x.state.index := rfl
 have qM : mLast x.abs.log = x.log.base + (x.log.entries.n : Int) := rfl
 have okx := Rds.okof hx
 have okl := okx.2.1
 have ncx := Sl.ok.nc okl
 have hnx : x.log.entries.n = x.log.entries.xs.length := rfl
 refine M0 ?_ Tryz.func139
 refine Md (x.log.base = 0) (fun h1 => ?_) fun h1 => ?_
 · refine Mdn (x.snap = emp) (fun h2 => ?_) fun h2 => ?_
   · exact Me2 (keptS_none (r := x.abs) h1 h2) (⟨0, Sl.nil, Sl.nil, Sl.nil⟩ : CState) rfl fun bs w hS => hS.outS (y := (⟨0, Sl.nil, Sl.nil, Sl.nil⟩ : CState)) ⟨Sl.rd_nil _ _, Sl.rd_nil _ _, Sl.rd_nil _ _⟩
   exact Me2 (keptS_some (r := x.abs) h1 h2) (⟨0, Sl.nil, Sl.nil, Sl.nil⟩ : CState) rfl fun bs w hS => hS.outS (y := (⟨0, Sl.nil, Sl.nil, Sl.nil⟩ : CState)) ⟨Sl.rd_nil _ _, Sl.rd_nil _ _, Sl.rd_nil _ _⟩
 refine Mu ?_ Tryz.call151 (fun bs w hS => snap_Decode x.snap w okx.1)
 rintro fp1 y1 hF1 hok1
 refine Mdn ((mUnsnap x.snap).2 = 0) (fun h3 => ?_) fun h3 => ?_
 rotate_left
 · exact Me2 (keptS_bad (r := x.abs) h1 h3) (⟨0, Sl.nil, Sl.nil, Sl.nil⟩ : CState) rfl fun bs w hS => hS.outS (y := (⟨0, Sl.nil, Sl.nil, Sl.nil⟩ : CState)) ⟨Sl.rd_nil _ _, Sl.rd_nil _ _, Sl.rd_nil _ _⟩
 refine Mdn (y1.index = x.log.base) (fun h4 => ?_) fun h4 => ?_
 rotate_left
 · exact Me2 (keptS_off (r := x.abs) (i := y1.index) h1 (show y1.index = (mUnsnap x.abs.snap).1.index from congrArg DState.index hF1) h4) (⟨0, Sl.nil, Sl.nil, Sl.nil⟩ : CState) rfl fun bs w hS => hS.outS (y := (⟨0, Sl.nil, Sl.nil, Sl.nil⟩ : CState)) ⟨Sl.rd_nil _ _, Sl.rd_nil _ _, Sl.rd_nil _ _⟩
 exact Me2 (keptS_ok (r := x.abs) (i := y1.index) h1 h3 (show y1.index = (mUnsnap x.abs.snap).1.index from congrArg DState.index hF1) h4) y1 (hF1) fun bs w hS => hS.outS (allR_sub i0 (hS.res _ i0))
theorem replica_Check {B : Nat → Prop} (x : CReplica) (w : World) (hx : Rds.sub B w x) : Calls Tryz.prog 137 #[x.val] w fun e w' => e = .returned (vi (mReplica x.abs)) ∧ Kp [] w w' := by
 have qL : x.abs.log = x.log.abs := rfl
 have qS : x.abs.state = x.state.abs := rfl
 have qN : x.abs.snap = x.snap := rfl
 have qB : x.abs.log.base = x.log.base := rfl
 have qI : x.abs.state.index = x.state.index := rfl
 have qM : mLast x.abs.log = x.log.base + (x.log.entries.n : Int) := rfl
 have okx := Rds.okof hx
 have okl := okx.2.1
 have ncx := Sl.ok.nc okl
 have hnx : x.log.entries.n = x.log.entries.xs.length := rfl
 refine M0 ?_ Tryz.func137
 refine Mp ?_ Tryz.call152 (fun bs w hS => log_Check x.log w (Rds.kp hx hS.kp).2.1)
 refine Mdn (mLog x.log.abs = 0) (fun h1 => ?_) fun h1 => ?_
 rotate_left
 · exact Me0 (mLog x.log.abs) (repl_log (r := x.abs) h1)
 obtain ⟨hb1, hb2, hb3, hb4⟩ := mLog_bd h1
 have hb5 : x.log.abs.base = x.log.base := rfl
 have hb6 : x.log.abs.entries = x.log.entries.xs := rfl
 rw [hb5] at hb1 hb2
 rw [hb6] at hb3
 refine Mp ?_ Tryz.call31 (fun bs w hS => machine_Check x.state w ⟨(Rds.kp hx hS.kp).2.2.1, (Rds.kp hx hS.kp).2.2.2.1, (Rds.kp hx hS.kp).2.2.2.2⟩)
 refine Mdn (mState x.state.abs = 0) (fun h2 => ?_) fun h2 => ?_
 rotate_left
 · exact Me0 (mState x.state.abs) (repl_state (r := x.abs) h1 h2)
 refine Mda 16 [] [] [] Tryz_mixed ?_
 refine Md (x.state.index < x.log.base) (fun h3 => ?_) fun h3 => ?_
 · exact Me0 9 (repl_out (r := x.abs) h1 h2 (by rw [qI, qB, qM]; omega))
 refine Mp ?_ Tryz.call14 (fun bs w hS => log_Last x.log w (Rds.kp hx hS.kp).2.1 (by first | exact ⟨by omega, by omega, by omega⟩ | omega))
 refine Md (x.log.base + (x.log.entries.n : Int) < x.state.index) (fun h4 => ?_) fun h4 => ?_
 · exact Me0 9 (repl_out (r := x.abs) h1 h2 (by rw [qI, qB, qM]; omega))
 refine Mu ?_ Tryz.call139 (fun bs w hS => repl_kept_ x w (Rds.kp hx hS.kp))
 rintro fp1 y1 hF1 hok1
 exact Me0 ((mKeptS x.abs).2) (repl_kept (r := x.abs) h1 h2 (by rw [qI, qB, qM]; omega))
theorem machine_Copy {B : Nat → Prop} (x : CState) (w : World) (hx : Rds.sub B w x) (hsm : Rds.small x) : Calls Tryz.prog 32 #[x.val] w fun e w' => ∃ y : CState, e = .returned (y.val) ∧ y.abs = x.abs ∧ FreshS w w' y := by
 have okx := Rds.okof hx
 refine M0 ?_ Tryz.func32
 refine Mda 12 [] [] [] Tryz_mixed ?_
 refine Mu ?_ Tryz.call58 (fun bs w hS => lock_CopyS x.locks w (Rds.kp hx hS.kp).1 hsm.1)
 rintro fp1 y1 hF1 hok1
 refine Mf ?_ Tryz.call59 (fun bs w hS => clone_Pair x.pairs w (Rds.kp hx hS.kp).2.1 hsm.2.1.1)
 rintro y2 hF2
 refine Mu ?_ Tryz.call24 (fun bs w hS => session_CopyS x.sessions w (Rds.kp hx hS.kp).2.2 hsm.2.2)
 rintro fp4 y4 hF4 hok4
 refine Mt [.agg #[vi x.index, y1.val, y2.val, y4.val]] fun bs w hS => ?_
 have hab : CState.abs (⟨x.index, y1, y2, y4⟩ : CState) = CState.abs x := by simp [CState.abs, *]
 exact ⟨(⟨x.index, y1, y2, y4⟩ : CState), rfl, hab, hS.outS (y := (⟨x.index, y1, y2, y4⟩ : CState)) ⟨(allR_sub i2 (hS.res _ i2)), (allR_row i1 (hS.res _ i1) (fun z hz => Sl.rd.mem (Rds.kp hx hS.kp).2.1 z (hF2 ▸ hz))), (allR_sub i0 (hS.res _ i0))⟩⟩
theorem replica_Copy {B : Nat → Prop} (x : CReplica) (w : World) (hx : Rds.sub B w x) (hsm : Rds.small x) : Calls Tryz.prog 40 #[x.val] w fun e w' => ∃ y : CReplica, e = .returned (y.val) ∧ y.abs = x.abs ∧ FreshS w w' y := by
 have okx := Rds.okof hx
 refine M0 ?_ Tryz.func40
 refine Mda 9 [] [] [] Tryz_mixed ?_
 refine Mu ?_ Tryz.call76 (fun bs w hS => log_Copy x.log w (Rds.kp hx hS.kp).2.1 hsm.1)
 rintro fp1 y1 hF1 hok1
 refine Mu ?_ Tryz.call32 (fun bs w hS => machine_Copy x.state w ⟨(Rds.kp hx hS.kp).2.2.1, (Rds.kp hx hS.kp).2.2.2.1, (Rds.kp hx hS.kp).2.2.2.2⟩ ⟨hsm.2.1, hsm.2.2.1, hsm.2.2.2⟩)
 rintro fp2 y2 hF2 hok2
 refine Mt [.agg #[vi y1.base, y1.entries.val, vs x.snap, vi y2.index, y2.locks.val, y2.pairs.val, y2.sessions.val]] fun bs w hS => ?_
 have hab : CReplica.abs (⟨⟨y1.base, y1.entries⟩, x.snap, ⟨y2.index, y2.locks, y2.pairs, y2.sessions⟩⟩ : CReplica) = CReplica.abs x := by simp [CReplica.abs, *]
 exact ⟨(⟨⟨y1.base, y1.entries⟩, x.snap, ⟨y2.index, y2.locks, y2.pairs, y2.sessions⟩⟩ : CReplica), rfl, hab, hS.outS (y := (⟨⟨y1.base, y1.entries⟩, x.snap, ⟨y2.index, y2.locks, y2.pairs, y2.sessions⟩⟩ : CReplica)) ⟨okx.1, (allR_sub (y := y1) i1 (hS.res _ i1)), (allR_sub (y := y2) i0 (hS.res _ i0)).1, (allR_sub (y := y2) i0 (hS.res _ i0)).2.1, (allR_sub (y := y2) i0 (hS.res _ i0)).2.2⟩⟩
theorem replica_Restart {B : Nat → Prop} (x : CReplica) (w : World) (hx : Rds.sub B w x) : Calls Tryz.prog 110 #[x.val] w fun e w' => ∃ y : CReplica, e = .returned (.tuple #[y.val, vi (mRRestart x.abs).2]) ∧ y.abs = (mRRestart x.abs).1 ∧ FreshS w w' y := by
 have qL : x.abs.log = x.log.abs := rfl
 have qS : x.abs.state = x.state.abs := rfl
 have qN : x.abs.snap = x.snap := rfl
 have qB : x.abs.log.base = x.log.base := rfl
 have qI : x.abs.state.index = x.state.index := rfl
 have qM : mLast x.abs.log = x.log.base + (x.log.entries.n : Int) := rfl
 have okx := Rds.okof hx
 have okl := okx.2.1
 have ncx := Sl.ok.nc okl
 have hnx : x.log.entries.n = x.log.entries.xs.length := rfl
 refine M0 ?_ Tryz.func110
 refine Mp ?_ Tryz.call137 (fun bs w hS => replica_Check x w (Rds.kp hx hS.kp))
 refine Mdn (mReplica x.abs = 0) (fun h1 => ?_) fun h1 => ?_
 rotate_left
 · have hm : mRRestart x.abs = (zRepl, mReplica x.abs) := by grind [mRRestart]
   exact Me2 hm (⟨⟨0, Sl.nil⟩, emp, 0, Sl.nil, Sl.nil, Sl.nil⟩ : CReplica) rfl fun bs w hS => hS.outS (y := (⟨⟨0, Sl.nil⟩, emp, 0, Sl.nil, Sl.nil, Sl.nil⟩ : CReplica)) ⟨(by show emp.size ≤ _; rw [emp_size]; omega), Sl.rd_nil _ _, Sl.rd_nil _ _, Sl.rd_nil _ _, Sl.rd_nil _ _⟩
 refine Mu ?_ Tryz.call40 (fun bs w hS => replica_Copy x w (Rds.kp hx hS.kp) (small_repl (by assumption)))
 rintro fp1 y1 hF1 hok1
 refine Mu ?_ Tryz.call139 (fun bs w hS => repl_kept_ y1 w (hS.res _ i0))
 rintro fp2 y2 hF2 hok2
 refine Mt [.agg #[vi y1.log.base, y1.log.entries.val, vs y1.snap, vi y2.index, y2.locks.val, y2.pairs.val, y2.sessions.val], vi 0] fun bs w hS => ?_
 have hm : mRRestart x.abs = (⟨x.log.abs, x.snap, (mKeptS x.abs).1⟩, 0) := by grind [mRRestart]
 have hl : y1.log.abs = x.log.abs := congrArg DReplica.log hF1
 have hs : y1.snap = x.snap := congrArg DReplica.snap hF1
 have ha : (y2).abs = (mKeptS x.abs).1 := by show y2.abs = _; rw [hF2, hF1]
 have hp1 := (show Rds.sub (· ∈ (allR [subR fp2 y2, subR fp1 y1]).fp) w y1 from allR_sub (y := y1) i1 (hS.res _ i1))
 have hp2 := (show Rds.sub (· ∈ (allR [subR fp2 y2, subR fp1 y1]).fp) w y2 from allR_sub (y := y2) i0 (hS.res _ i0))
 refine ⟨(⟨y1.log, y1.snap, y2⟩ : CReplica), ?_, ?_, hS.outS (y := (⟨y1.log, y1.snap, y2⟩ : CReplica)) ⟨hp1.1, hp1.2.1, hp2⟩⟩
 · rw [hm]; rfl
 · rw [hm]; show (⟨y1.log.abs, y1.snap, (y2).abs⟩ : DReplica) = _; rw [hl, hs, ha]
theorem idxF_Session {B : Nat → Prop} (s : Sl (Fl CSession)) (p : Fl CSession → Bool) (kf : Nat) (caps : Array Value) (w : World) (hs : s.rd B w) (hcall : ∀ args w, (callFunc kf args).run Tryz.prog w = .ok (.enter kf args) w)
    (hf : ∀ (w' : World) (x : (Fl CSession)), x ∈ s.xs → Kp [] w w' → Calls Tryz.prog kf (#[x.v.val] ++ caps) w' fun e w'' => e = .returned (vb (p x)) ∧ Kp [] w' w'') : Calls Tryz.prog 52 #[.slice s.A s.n s.c, .func (.func kf) #[] caps] w fun e w' => e = .returned (vi (mIdx p s.xs)) ∧ Kp [] w w' := by
 have oks := Sl.rd.ok hs
 have ncs := Sl.ok.nc oks
 have hns : s.n = s.xs.length := rfl
 refine M0 ?_ Tryz.func52
 refine Ml (σ := Nat) (fun i => i ≤ s.n ∧ ∀ j, j < i → p (s.at j) = false) (fun i => s.n - i) (fun _ => []) [8, 7, 0, 1] (fun i => [(8, vI (i : Int))]) (fun _ => []) ?_ 0 ⟨Nat.zero_le _, fun j hj => absurd hj (Nat.not_lt_zero _)⟩
 rintro i ⟨hi, hI⟩ _ on1
 refine Md ((i : Int) < (s.n : Int)) (fun h1 => ?_) (fun h1 => ?_)
 rotate_left
 · refine Mt [.int .i64 (-1)] fun bs w hS => ?_
   refine ⟨?_, hS.kp⟩
   rw [mIdx_none fun j hj => hI j (by omega)]
   rfl
 refine Mi ?_ (pA 14 15 (i : Int) i (rdk hs))
 refine Mv ?_ hcall (fun bs w hS => hf w (s.at i) (List.mem_of_getElem? (Sl.at_some (show i < s.n by omega))) hS.kp)
 refine Mb (p (s.at i)) (fun h2 => ?_) (fun h2 => ?_)
 · refine Mt [.int .i64 (i : Int)] fun bs w hS => ?_
   refine ⟨?_, hS.kp⟩
   rw [mIdx_here (i := i) (by omega) (by assumption) hI]
   rfl
 refine Mi ?_ (pR ((i : Int) + 1))
 exact on1 (i + 1) ⟨by omega, fun j hj => by rcases Nat.lt_succ_iff_lt_or_eq.1 hj with h | h; exact hI j h; subst h; assumption⟩ (by omega)
theorem idx_Session {B : Nat → Prop} (s : Sl CSession) (p : CSession → Bool) (kf : Nat) (caps : Array Value) (w : World) (hs : s.rd B w) (hcall : ∀ args w, (callFunc kf args).run Tryz.prog w = .ok (.enter kf args) w)
    (hf : ∀ (w' : World) (x : CSession), x ∈ s.xs → Kp [] w w' → Calls Tryz.prog kf (#[x.val] ++ caps) w' fun e w'' => e = .returned (vb (p x)) ∧ Kp [] w' w'') : Calls Tryz.prog 52 #[s.val, .func (.func kf) #[] caps] w fun e w' => e = .returned (vi (mIdx p s.xs)) ∧ Kp [] w w' := by
  have h := idxF_Session (⟨s.A, s.c, fls s.xs⟩ : Sl (Fl CSession)) (fun x => p x.v) kf caps w hs.fl hcall (fun w' x hx hk => hf w' x.v (by obtain ⟨y, hy, rfl⟩ := List.mem_map.1 hx; exact hy) hk)
  simp only [mIdx_fl, Sl.n, List.length_map] at h
  exact h
theorem delF_Session (A : Option Addr) (c : Nat) (L : List (Fl CSession)) (p : Fl CSession → Bool) (kf : Nat) (caps : Array Value) (w : World) (hrow : (rowA 87 A c L).p w) (hlt : ∀ b, b ∈ (rowA 87 A c L).fp → b < w.heap.size) (hn : L.length ≤ 1048576) (hcall : ∀ args w, (callFunc kf args).run Tryz.prog w = .ok (.enter kf args) w)
    (hf : ∀ (w' : World) (x : (Fl CSession)), x ∈ L → Kp (rowA 87 A c L).fp w w' → Calls Tryz.prog kf (#[x.v.val] ++ caps) w' fun e w'' => e = .returned (vb (p x)) ∧ Kp [] w' w'') :
    Calls Tryz.prog 23 #[.slice A L.length c, .func (.func kf) #[] caps] w fun e w' => e = .returned (.slice A (L.filter fun x => !p x).length c) ∧ Turned (rowA 87 A c L) w w' (rowA 87 A c (L.filter fun x => !p x)) := by
 have hrok := rowA_rok hrow
 have nc := hrok.2
 refine Mj ?_ Tryz.func23 (WS.start1 w _ hrow (by cases A <;> simp [rowA, rowR]) hlt)
 refine Mp ?_ Tryz.call52 (fun bs w hS => idxF_Session (⟨A, c, L⟩ : Sl (Fl CSession)) p kf caps w (Rr (B := anyB) (hS.res _ i0) (fun _ _ => trivial) (fun _ _ => trivial)) hcall (fun w' x hx hk => hf w' x hx (hS.kp.step hk (fun i hi => by cases hi))))
 refine Md (mIdx p L = (-1)) (fun h1 => ?_) fun h1 => ?_
 · refine Mt [.slice A L.length c] fun bs w hS => ?_
   have hid : L.filter (fun x => !p x) = L := delF_none (by assumption)
   rw [hid]
   exact ⟨rfl, hS.turned⟩
 obtain ⟨i0, hi1, hi2, hi3, hi4⟩ := delF_some (p := p) h1
 refine Mi ?_ (pR ((mIdx p L) + 1))
 refine Mk 6 ?_ (show (vI ((mIdx p L) + 1)) = vI (((i0 : Int)) + 1) by rw [hi4])
 refine Mk 5 ?_ (show (vI (mIdx p L)) = vI ((i0 : Int)) by rw [hi4])
 refine Ml (σ := Nat × Nat × List (Fl CSession)) (fun ⟨i, j, M⟩ => i < j ∧ j ≤ L.length ∧ M.length = L.length ∧ M.take i = (L.take j).filter (fun x => !p x) ∧ M.drop j = L.drop j) (fun ⟨i, j, M⟩ => L.length - j) (fun ⟨i, j, M⟩ => [rowA 87 A c (M : List (Fl CSession))]) [6, 5, 0, 1] (fun ⟨i, j, M⟩ => [(6, vI (j : Int)), (5, vI (i : Int))]) (fun _ => []) ?_ (⟨i0, i0 + 1, L⟩) ⟨by omega, by omega, rfl, delF_start hi1 hi2 hi3, rfl⟩
 rintro ⟨i, j, M⟩ ⟨h1, h2, hM, hT, hD⟩ _ on1
 refine Md ((j : Int) < (L.length : Int)) (fun h2 => ?_) fun h2 => ?_
 rotate_left
 · refine Mi ?_ (pG [(38, .sl i L.length)] (oc (rfl : (i : Int) = (i : Int)) (oc (rfl : L.length = L.length) (oc ((by omega) : i ≤ L.length) on))))
   refine Mcl i (L.length - i) ?_ (by omega) (by omega)
   refine Mi ?_ (pG [(41, .sl 0 i)] (oc (rfl : 0 = 0) (oc (rfl : (i : Int) = (i : Int)) (oc ((by omega) : i ≤ c) on))))
   refine Mt [.slice A i c] fun bs w hS => ?_
   have hid : M.take i = L.filter (fun x => !p x) := by rw [hT, show j = L.length by omega, List.take_length]
   have hil : (L.filter (fun x => !p x)).length = i := by rw [← hid, List.length_take]; omega
   have hS2 := hS
   rw [hid] at hS2
   refine ⟨?_, hS2.turned⟩
   rw [hil]
   rfl
 refine Mi ?_ (pc (pIo 24 (j : Int) j L.length (.head _)) (pEo 25 j (.head _)))
 refine Mv ?_ hcall (fun bs w hS => hf w (M.getD j default) (by rw [getD_drop hD (by omega)]; exact mem_of_getD (by omega)) hS.kp)
 refine Mbn (p (M.getD j default)) (fun h3 => ?_) fun h3 => ?_
 · refine Mi ?_ (pR ((j : Int) + 1))
   have hjL : M.getD j default = L.getD j default := getD_drop hD (by omega)
   exact on1 ⟨i, j + 1, M⟩ ⟨by omega, by omega, hM, delF_skip (by omega) hT (hjL ▸ by assumption), drop_next hD⟩ (by show L.length - (j + 1) < L.length - j; omega)
 refine Mi ?_ (pIo 33 (i : Int) i L.length (.head _))
 refine Mse i (M.getD j default) ?_ (by omega)
 intro L2 hL2 hl2
 refine Mi ?_ (pc (pR ((i : Int) + 1)) (pR ((j : Int) + 1)))
 have hjL : M.getD j default = L.getD j default := getD_drop hD (by omega)
 exact on1 ⟨i + 1, j + 1, L2⟩ ⟨by omega, by omega, by omega, by rw [hL2]; exact delF_keep h1 (by omega) hM hT (hjL ▸ by assumption) hjL, by rw [hL2]; exact delF_drop h1 hD⟩ (by show L.length - (j + 1) < L.length - j; omega)
theorem del_Session (A : Option Addr) (c : Nat) (L : List CSession) (p : CSession → Bool) (kf : Nat) (caps : Array Value) (w : World) (hrow : (rowA 87 A c L).p w) (hlt : ∀ b, b ∈ (rowA 87 A c L).fp → b < w.heap.size) (hn : L.length ≤ 1048576) (hcall : ∀ args w, (callFunc kf args).run Tryz.prog w = .ok (.enter kf args) w)
    (hf : ∀ (w' : World) (x : CSession), x ∈ L → Kp (rowA 87 A c L).fp w w' → Calls Tryz.prog kf (#[x.val] ++ caps) w' fun e w'' => e = .returned (vb (p x)) ∧ Kp [] w' w'') :
    Calls Tryz.prog 23 #[.slice A L.length c, .func (.func kf) #[] caps] w fun e w' => e = .returned (.slice A (L.filter fun x => !p x).length c) ∧ Turned (rowA 87 A c L) w w' (rowA 87 A c (L.filter fun x => !p x)) := by
  have h := delF_Session A c (fls L) (fun x => p x.v) kf caps w (by rw [rowA_fl]; exact hrow) (by rw [rowA_fl]; exact hlt) (by simpa using hn) hcall (fun w' x hx hk => hf w' x.v (by obtain ⟨y, hy, rfl⟩ := List.mem_map.1 hx; exact hy) (by rwa [rowA_fl] at hk))
  have e1 : (fls L).filter (fun x => !(p x.v)) = fls (L.filter fun x => !p x) := fls_filter (fun x => !p x) L
  simp only [e1, rowA_fl, List.length_map] at h
  exact h
theorem clo_session_Fresh_1 (x : CSession) (n : Int) (b : Nat) (w : World) (hb : (blkR b 3 [vi n]).p w) (h0 : 0 ≤ n ∧ n ≤ 1073741824) (h1 : 1 ≤ x.last ∧ x.last ≤ n) : Calls Tryz.prog 25 #[x.val, .pointer (some (⟨b, 0, none⟩ : Addr))] w fun e w' => e = .returned (vb (stale n x.abs)) ∧ Kp [] w w' := by
 refine M0 ?_ Tryz.func25
 refine Mi ?_ (pc (pX 4 [vi n] (fun w hk hr => (blkR_pre (blkR_kp hb hk) 1 rfl))) (pc (pR (n + 1)) (pR ((n + 1) - x.last))))
 exact Mt [vb (decide ((40 : Int) < (n + 1) - x.last))] fun bs w hS => ⟨rfl, hS.kp⟩
theorem session_Fresh {B : Nat → Prop} (s : Sl CSession) (n : Int) (w : World) (hs : s.rd B w) : Calls Tryz.prog 11 #[s.val, vi n] w fun e w' => ∃ y : Sl CSession, e = .returned (.tuple #[y.val, vi (mFresh (s.xs.map CSession.abs) n).2]) ∧ y.xs.map CSession.abs = (mFresh (s.xs.map CSession.abs) n).1 ∧ FreshS w w' y := by
 have oks := Sl.rd.ok hs
 have ncs := Sl.ok.nc oks
 have hns : s.n = s.xs.length := rfl
 have hml : (s.xs.map CSession.abs).length = s.n := by simp
 refine M0 ?_ Tryz.func11
 refine Mp ?_ Tryz.call22 (fun bs w hS => session_Check s n w (Sl.rd.kp hs hS.kp))
 refine Mdn (mSess (s.xs.map CSession.abs) n = 0) (fun h1 => ?_) fun h1 => ?_
 rotate_left
 · refine Mt [vn, vi (mSess (s.xs.map CSession.abs) n)] fun bs w hS => ?_
   refine ⟨Sl.nil, ?_, ?_, hS.outS (Sl.rd_nil _ _)⟩
   · rw [fresh_bad (by assumption)]; rfl
   · rw [fresh_bad (by assumption)]; rfl
 obtain ⟨hi0, hi1, hln, hall⟩ := mSess_bd h1
 have hn1 : 0 ≤ n ∧ n ≤ 1073741824 := ⟨hi0, hi1⟩
 have hbds : ∀ x, x ∈ s.xs.map CSession.abs → 1 ≤ x.last ∧ x.last ≤ n := fun x hx => by obtain ⟨j, hj, rfl⟩ := List.getElem_of_mem hx; have := sessF_bd (hall j hj); rw [List.getD_eq_getElem?_getD, List.getElem?_eq_getElem hj] at this; simp only [Option.getD_some] at this; omega
 refine Mf ?_ Tryz.call24 (fun bs w hS => session_Copy s w (Sl.rd.kp hs hS.kp) (small_sess (by assumption)))
 rintro y1 hF1
 refine m_split2 ?_
 have hnm1 := sess_texts (hs) hF1
 refine m_know (F := ∀ i, i < y1.n → Rds.ok (y1.at i)) (fun bs w hS i hi => Rds.okof (Sl.rd.sub (own_sess (A := y1.A) (c := y1.c) (L := y1.xs) (hS.res _ i0) (hS.res _ i1) hnm1) hi)) fun okown1 => ?_
 refine m_know (F := RowOk y1.A y1.c (y1.xs : List CSession)) (fun bs w hS => rowA_rok (hS.res _ i1)) fun hrow1 => ?_
 have nchrow1 := hrow1.2
 have hnn := map_n hF1
 have hnx : y1.n = y1.xs.length := rfl
 have hlast : ∀ x, x ∈ y1.xs → 1 ≤ x.last ∧ x.last ≤ n := fun x hx => hbds x.abs (hF1 ▸ List.mem_map.2 ⟨x, hx, rfl⟩)
 have hok1 : Sl.ok y1 := ⟨nchrow1.1, by unfold maxLen; exact nchrow1.2, fun i hi => ⟨hrow1.1 i hi, okown1 i hi⟩⟩
 refine m_f1 ?_
 refine Mtu0 ?_ Tryz.call23 (fun bs w hS => del_Session y1.A y1.c y1.xs (fun x : CSession => stale n x.abs) 25 #[.pointer (some (adr bs 0 0))] w (hS.res _ i0) hS.head1.2.2 (by show y1.n ≤ _; omega) Tryz.call25 (fun w' x hx hk => clo_session_Fresh_1 x n (bs.getD 0 0) w' (show (blkR _ _ _).p w' from hS.blkIn (i := 0) (b := ⟨3, [vI n]⟩) hk (by kernel_rfl) (by simp)) hn1 (hlast x hx)))
 rintro _ _
 refine Mt [.slice y1.A (y1.xs.filter fun x : CSession => !stale n x.abs).length y1.c, vi 0] fun bs w hS => ?_
 have hm := fresh_ok (l := s.xs.map CSession.abs) (index := n) (by assumption)
 rw [hm]
 refine ⟨⟨y1.A, y1.c, y1.xs.filter fun x : CSession => !stale n x.abs⟩, rfl, ?_, hS.outS (y := (⟨y1.A, y1.c, y1.xs.filter fun x : CSession => !stale n x.abs⟩ : Sl CSession)) (out_sess (L0 := y1.xs) i0 i1 hS.res (fun x hx => (List.mem_filter.1 hx).1) hnm1)⟩
 show (List.filter _ _).map _ = _
 rw [filter_abs, hF1]
theorem pair_Get {B : Nat → Prop} (s : Sl DPair) (t : ByteArray) (w : World) (hs : s.rd B w) : Calls Tryz.prog 68 #[s.val, vs t] w fun e w' => e = .returned (.tuple #[(mGot s.xs t).1.val, vi (mGot s.xs t).2]) ∧ Kp [] w w' := by
 have oks := Sl.rd.ok hs
 have ncs := Sl.ok.nc oks
 have hns : s.n = s.xs.length := rfl
 refine M0 ?_ Tryz.func68
 refine Mp ?_ Tryz.call57 (fun bs w hS => pair_Check s w (Sl.rd.kp hs hS.kp))
 refine Mdn (mPairs s.xs = 0) (fun h1 => ?_) (fun h1 => ?_)
 rotate_left
 · refine Mt [.agg #[.int .i64 0, .int .i64 0, .string emp], .int .i64 (mPairs s.xs)] fun bs w hS => ?_
   refine ⟨?_, hS.kp⟩
   simp only [retOf, den, List.map_cons, List.map_nil]
   rw [got_bad (by assumption)]
 have hln := (mPairs_bd h1).1
 refine Mp ?_ Tryz.call97 (fun bs w hS => pair_find s t w (Sl.rd.kp hs hS.kp) (by omega))
 refine Mbn (mBSf (fun x : DPair => cmpS x.name t) s.xs) (fun h2 => ?_) fun h2 => ?_
 rotate_left
 · refine Mt [vz 6, vi 0] fun bs w hS => ?_
   refine ⟨?_, hS.kp⟩
   simp only [retOf, den, List.map_cons, List.map_nil]
   have hb := (bsf_pair (l := s.xs) (by assumption) t).1
   rw [h2] at hb
   rw [got_none (by assumption) (by have := of_decide_eq_false hb.symm; omega)]
 have hlt := mBSf_lt h2
 refine Mda 13 [] [0] [] Tryz_mixed ?_
 refine Mih ?_ (pc (pI 26 ((mBS (fun x : DPair => cmpS x.name t) s.xs : Nat) : Int) (((mBS (fun x : DPair => cmpS x.name t) s.xs : Nat) : Int)).toNat (rdk hs)) (pc (pF 28 (((mBS (fun x : DPair => cmpS x.name t) s.xs : Nat) : Int)).toNat 2 1 (rdk hs)) (pc (pI 31 ((mBS (fun x : DPair => cmpS x.name t) s.xs : Nat) : Int) (((mBS (fun x : DPair => cmpS x.name t) s.xs : Nat) : Int)).toNat (rdk hs)) (pF 33 (((mBS (fun x : DPair => cmpS x.name t) s.xs : Nat) : Int)).toNat 1 1 (rdk hs)))))
 refine Mt [.agg #[vi 0, vi (s.at (((mBS (fun x : DPair => cmpS x.name t) s.xs : Nat) : Int)).toNat).version, vs (s.at (((mBS (fun x : DPair => cmpS x.name t) s.xs : Nat) : Int)).toNat).value], vi 0] fun bs w hS => ?_
 refine ⟨?_, hS.kp⟩
 simp only [retOf, den, List.map_cons, List.map_nil]
 have hb := (bsf_pair (l := s.xs) (by assumption) t).1
 rw [h2] at hb
 have hc := (bsf_pair (l := s.xs) (by assumption) t).2 (by assumption)
 have hd := of_decide_eq_true hb.symm
 rw [got_here (by assumption) (by omega), ← hc, Int.toNat_natCast]
 rfl
theorem has_Session {B : Nat → Prop} (s : Sl CSession) (p : CSession → Bool) (kf : Nat) (caps : Array Value) (w : World) (hs : s.rd B w) (hcall : ∀ args w, (callFunc kf args).run Tryz.prog w = .ok (.enter kf args) w)
    (hf : ∀ (w' : World) (x : CSession), x ∈ s.xs → Kp [] w w' → Calls Tryz.prog kf (#[x.val] ++ caps) w' fun e w'' => e = .returned (vb (p x)) ∧ Kp [] w' w'') : Calls Tryz.prog 60 #[s.val, .func (.func kf) #[] caps] w fun e w' => e = .returned (vb (decide ((0 : Int) ≤ mIdx p s.xs))) ∧ Kp [] w w' := by
 have oks := Sl.rd.ok hs
 have ncs := Sl.ok.nc oks
 have hns : s.n = s.xs.length := rfl
 refine M0 ?_ Tryz.func60
 refine Mp ?_ Tryz.call52 (fun bs w hS => idx_Session s p kf caps w (Sl.rd.kp hs hS.kp) hcall (fun w' x hx hk => hf w' x hx (hS.kp.step hk (fun i hi => by cases hi))))
 exact Mt [vb (decide ((0 : Int) ≤ mIdx p s.xs))] fun bs w hS => ⟨rfl, hS.kp⟩
theorem clo_machine_gone_1 (x : CSession) (p : CSession) (b : Nat) (w : World) (hb : (blkR b 87 [vi p.client, vi p.id, vi p.acked, vi p.last, p.replies.val]).p w) : Calls Tryz.prog 61 #[x.val, .pointer (some (⟨b, 0, none⟩ : Addr))] w fun e w' => e = .returned (vb (decide (x.client = p.client))) ∧ Kp [] w w' := by
 refine M0 ?_ Tryz.func61
 refine Mi ?_ (pX 7 [vi p.client] (fun w hk hr => (blkR_fld (blkR_kp hb hk) 0 1 rfl)))
 exact Mt [vb (decide (x.client = p.client))] fun bs w hS => ⟨rfl, hS.kp⟩
theorem machine_gone {B B' : Nat → Prop} (z : CState) (s : Sl CSession) (b : Nat) (w : World) (hb : (blkR b 38 [vi z.index, z.locks.val, z.pairs.val, z.sessions.val]).p w) (hz : ∀ w', Kp [b] w w' → Rds.sub B w' z) (hs : ∀ w', Kp [b] w w' → s.rd B' w') : Calls Tryz.prog 33 #[.pointer (some (⟨b, 0, none⟩ : Addr)), s.val] w fun e w' => ∃ y : Option (List Nat × Sl CLock), e = .returned (.tuple #[]) ∧ (lk z.locks y).xs.map CLock.abs = mRel (z.locks.xs.map CLock.abs) (s.xs.map CSession.abs) (z.sessions.xs.map CSession.abs) ∧ TurnedN (blkR b 38 [vi z.index, z.locks.val, z.pairs.val, z.sessions.val]) w w' (blkR b 38 [vi z.index, .slice (lk z.locks y).A (lk z.locks y).n (lk z.locks y).c, z.pairs.val, z.sessions.val]) (lkR y) := by
 have oks := Sl.rd.ok (hs w (Kp.refl _ _))
 have ncs := Sl.ok.nc oks
 have hns : s.n = s.xs.length := rfl
 have okz := Rds.okof (hz w (Kp.refl _ _))
 refine Mj ?_ Tryz.func33 (WS.start1 w _ hb (by simp [blkR]) (blkR_lt hb))
 refine m_nores (lkR (none : Option (List Nat × Sl CLock))) rfl (fun w => trivial) ?_
 refine Ml (σ := Nat × Option (List Nat × Sl CLock)) (fun ⟨i, o⟩ => i ≤ s.n ∧ (lk z.locks o).xs.map CLock.abs = mRel (z.locks.xs.map CLock.abs) ((s.xs.map CSession.abs).take i) (z.sessions.xs.map CSession.abs)) (fun ⟨i, o⟩ => s.n - i) (fun ⟨i, o⟩ => [lkR o, blkR b 38 [vi z.index, .slice (lk z.locks o).A (lk z.locks o).n (lk z.locks o).c, z.pairs.val, z.sessions.val]]) [8, 7, 6, 0] (fun ⟨i, o⟩ => [(8, vI (i : Int))]) (fun _ => []) ?_ (⟨0, none⟩) ⟨Nat.zero_le _, rfl⟩
 rintro ⟨i, o⟩ ⟨hi, hI⟩ _ on1
 refine Md ((i : Int) < (s.n : Int)) (fun h1 => ?_) fun h1 => ?_
 rotate_left
 · refine Mt [] fun bs w hS => ?_
   have hS2 := hS.f1
   have hte : (s.xs.map CSession.abs).take i = s.xs.map CSession.abs := List.take_of_length_le (by rw [List.length_map]; omega)
   rw [hte] at hI
   exact ⟨o, rfl, hI, (hS2.turnedN (fun _ h => h)).as (allR_one _ _) (allR_one_fp _)⟩
 refine Mi ?_ (pc (pA 10 11 (i : Int) i (s := s) (fun w hk hr => (hs _ hk))) (pBk 15 3 1 i1))
 refine Mp ?_ Tryz.call60 (fun bs w hS => has_Session z.sessions (fun x : CSession => decide (x.client = (s.at i).client)) 61 #[.pointer (some (adr bs 0 0))] w (hz _ hS.kp).2.2 Tryz.call61 (fun w' z' hz' hk => clo_machine_gone_1 z' (s.at i) (bs.getD 0 0) w' (show (blkR _ _ _).p w' from (hS.pure hk).loc 0 ⟨87, (s.at i).cs⟩ (by kernel_rfl) (by simp))))
 refine Mdn ((0 : Int) ≤ mIdx (fun x : CSession => decide (x.client = (s.at i).client)) z.sessions.xs) (fun h2 => ?_) fun h2 => ?_
 · refine Mi ?_ (pR ((i : Int) + 1))
   have hsx : sIdx (z.sessions.xs.map CSession.abs) (s.at i).abs.client = mIdx (fun x : CSession => decide (x.client = (s.at i).client)) z.sessions.xs := (mIdx_map CSession.abs (fun x : DSession => decide (x.client = (s.at i).client)) z.sessions.xs).symm
   have hgo : (lk z.locks (o)).xs.map CLock.abs = if sIdx (z.sessions.xs.map CSession.abs) (s.at i).abs.client < 0 then (mGone ((lk z.locks o).xs.map CLock.abs) (s.at i).abs.client).1 else (lk z.locks o).xs.map CLock.abs := by rw [hsx, if_neg (by omega)]
   refine m_f1 (m_f1 ?_)
   exact on1 ⟨i + 1, o⟩ ⟨by omega, rel_next (by rw [List.length_map]; omega) (sabs_at i) hI hgo⟩ (by show s.n - (i + 1) < s.n - i; omega)
 refine Mda 14 [13] [] [lkR o, blkR b 38 [vi z.index, .slice (lk z.locks o).A (lk z.locks o).n (lk z.locks o).c, z.pairs.val, z.sessions.val]] Tryz_mixed ?_
 refine Mih ?_ (pBk 24 1 1 i1)
 refine Mu ?_ Tryz.call62 (fun bs w hS => lock_Gone (lk z.locks o) (s.at i).client w (lk_rd (hz _ hS.kp).1 (hS.res _ i0)))
 rintro fp1 y1 hF1 hok1
 refine m_f2 ?_
 refine MsbX [lkR o] 1 [vi z.index, y1.val, z.pairs.val, z.sessions.val] ?_ (hR := (.cons _ (.cons _ (List.Sublist.refl _))))
 refine Mz ?_
 refine Mi ?_ (pR ((i : Int) + 1))
 have hsx : sIdx (z.sessions.xs.map CSession.abs) (s.at i).abs.client = mIdx (fun x : CSession => decide (x.client = (s.at i).client)) z.sessions.xs := (mIdx_map CSession.abs (fun x : DSession => decide (x.client = (s.at i).client)) z.sessions.xs).symm
 refine m_f2 ?_
 refine m_weak noR (List.nil_sublist _) (fun _ _ => trivial) ?_
 refine m_f2 ?_
 refine m_join (lkR (some (fp1, y1))) (by show List.Perm fp1 (fp1 ++ []); rw [List.append_nil]) (fun w h1 h2 => h1) ?_
 have hgo : (lk z.locks (some (fp1, y1))).xs.map CLock.abs = if sIdx (z.sessions.xs.map CSession.abs) (s.at i).abs.client < 0 then (mGone ((lk z.locks o).xs.map CLock.abs) (s.at i).abs.client).1 else (lk z.locks o).xs.map CLock.abs := by rw [hsx, if_pos (by omega)]; exact hF1
 refine m_f1 (m_f1 ?_)
 exact on1 ⟨i + 1, some (fp1, y1)⟩ ⟨by omega, rel_next (by rw [List.length_map]; omega) (sabs_at i) hI hgo⟩ (by show s.n - (i + 1) < s.n - i; omega)
theorem machine_do {B B' : Nat → Prop} (z : CState) (who : Int) (o : DOp) (b : Nat) (w : World) (hb : (blkR b 38 [vi z.index, z.locks.val, z.pairs.val, z.sessions.val]).p w) (hz : ∀ w', Kp [b] w w' → Rds.sub B w' z) (ho : Rds.sub B' w o) : Calls Tryz.prog 36 #[.pointer (some (⟨b, 0, none⟩ : Addr)), vi who, o.val] w fun e w' => ∃ y : Option (List Nat × Sl CLock) × Option (List Nat × Sl DPair), e = .returned ((mDo (z.locks.xs.map CLock.abs) z.pairs.xs who o).2.2).val ∧ ((lk z.locks y.1).xs.map CLock.abs = (mDo (z.locks.xs.map CLock.abs) z.pairs.xs who o).1 ∧ (lk z.pairs y.2).xs = (mDo (z.locks.xs.map CLock.abs) z.pairs.xs who o).2.1) ∧ TurnedN (blkR b 38 [vi z.index, z.locks.val, z.pairs.val, z.sessions.val]) w w' (blkR b 38 [vi z.index, .slice (lk z.locks y.1).A (lk z.locks y.1).n (lk z.locks y.1).c, .slice (lk z.pairs y.2).A (lk z.pairs y.2).n (lk z.pairs y.2).c, z.sessions.val]) (allR [lkR y.1, lkR y.2]) := by
 have okz := Rds.okof (hz w (Kp.refl _ _))
 refine Mj ?_ Tryz.func36 (WS.start1 w _ hb (by simp [blkR]) (blkR_lt hb))
 refine Mdr 14 ?_ Tryz_mixed
 refine Mih ?_ (pBk 15 1 1 i0)
 refine Mp ?_ Tryz.call65 (fun bs w hS => lock_Who z.locks o.a w (hz _ hS.kp).1)
 refine Mz ?_
 refine Md (o.kind = 1) (fun h1 => ?_) fun h1 => ?_
 · refine Mda 20 [18] [2] [blkR b 38 [vi z.index, z.locks.val, z.pairs.val, z.sessions.val]] Tryz_mixed ?_
   refine Mih ?_ (pBk 52 1 1 i0)
   refine Mu ?_ Tryz.call66 (fun bs w hS => lock_Take z.locks o.a who (decide (o.kind = 2)) w (hz _ hS.kp).1 ho.1)
   rintro fp1 y1 hF1 hok1
   refine m_f1 ?_
   refine MsbX [] 1 [vi z.index, y1.val, z.pairs.val, z.sessions.val] ?_
   refine Mt [((mTake (z.locks.xs.map CLock.abs) o.a who (decide (o.kind = 2))).2.1).val] fun bs w hS => ?_
   have hS2 := hS.f1.f1
   have hm : mDo (z.locks.xs.map CLock.abs) z.pairs.xs who o = ((mTake (z.locks.xs.map CLock.abs) o.a who (decide (o.kind = 2))).1, z.pairs.xs, (mTake (z.locks.xs.map CLock.abs) o.a who (decide (o.kind = 2))).2.1) := by grind [mDo]
   refine ⟨(some (fp1, y1), none), ?_, ⟨?_, ?_⟩, (hS2.turnedN (fun _ h => h)).as (fun h r hr => ?_) (by simp [allR, lkR, noR])⟩
   · rw [hm] <;> rfl
   · rw [hm] <;> exact hF1
   · rw [hm] <;> rfl
   · simp only [List.mem_cons, List.not_mem_nil, or_false] at hr
     rcases hr with rfl | rfl
     · exact h _ i0
     · trivial
 refine Md (o.kind = 2) (fun h2 => ?_) fun h2 => ?_
 · refine Mda 20 [18] [2] [blkR b 38 [vi z.index, z.locks.val, z.pairs.val, z.sessions.val]] Tryz_mixed ?_
   refine Mih ?_ (pBk 52 1 1 i0)
   refine Mu ?_ Tryz.call66 (fun bs w hS => lock_Take z.locks o.a who (decide (o.kind = 2)) w (hz _ hS.kp).1 ho.1)
   rintro fp2 y2 hF2 hok2
   refine m_f1 ?_
   refine MsbX [] 1 [vi z.index, y2.val, z.pairs.val, z.sessions.val] ?_
   refine Mt [((mTake (z.locks.xs.map CLock.abs) o.a who (decide (o.kind = 2))).2.1).val] fun bs w hS => ?_
   have hS2 := hS.f1.f1
   have hm : mDo (z.locks.xs.map CLock.abs) z.pairs.xs who o = ((mTake (z.locks.xs.map CLock.abs) o.a who (decide (o.kind = 2))).1, z.pairs.xs, (mTake (z.locks.xs.map CLock.abs) o.a who (decide (o.kind = 2))).2.1) := by grind [mDo]
   refine ⟨(some (fp2, y2), none), ?_, ⟨?_, ?_⟩, (hS2.turnedN (fun _ h => h)).as (fun h r hr => ?_) (by simp [allR, lkR, noR])⟩
   · rw [hm] <;> rfl
   · rw [hm] <;> exact hF2
   · rw [hm] <;> rfl
   · simp only [List.mem_cons, List.not_mem_nil, or_false] at hr
     rcases hr with rfl | rfl
     · exact h _ i0
     · trivial
 refine Md (o.kind = 3) (fun h3 => ?_) fun h3 => ?_
 · refine Mda 17 [15] [2] [blkR b 38 [vi z.index, z.locks.val, z.pairs.val, z.sessions.val]] Tryz_mixed ?_
   refine Mih ?_ (pBk 74 1 1 i0)
   refine Mu ?_ Tryz.call67 (fun bs w hS => lock_Free z.locks o.a who w (hz _ hS.kp).1 ho.1)
   rintro fp3 y3 hF3 hok3
   refine m_f1 ?_
   refine MsbX [] 1 [vi z.index, y3.val, z.pairs.val, z.sessions.val] ?_
   refine Mt [((mFree (z.locks.xs.map CLock.abs) o.a who).2.1).val] fun bs w hS => ?_
   have hS2 := hS.f1.f1
   have hm : mDo (z.locks.xs.map CLock.abs) z.pairs.xs who o = ((mFree (z.locks.xs.map CLock.abs) o.a who).1, z.pairs.xs, (mFree (z.locks.xs.map CLock.abs) o.a who).2.1) := by grind [mDo]
   refine ⟨(some (fp3, y3), none), ?_, ⟨?_, ?_⟩, (hS2.turnedN (fun _ h => h)).as (fun h r hr => ?_) (by simp [allR, lkR, noR])⟩
   · rw [hm] <;> rfl
   · rw [hm] <;> exact hF3
   · rw [hm] <;> rfl
   · simp only [List.mem_cons, List.not_mem_nil, or_false] at hr
     rcases hr with rfl | rfl
     · exact h _ i0
     · trivial
 refine Md (o.kind = 4) (fun h4 => ?_) fun h4 => ?_
 · refine Mt [.agg #[vi 0, vi (mWho (z.locks.xs.map CLock.abs) o.a).1, ve]] fun bs w hS => ?_
   have hS2 := hS.perm (R' := [blkR b 38 [vi z.index, z.locks.val, z.pairs.val, z.sessions.val]]) (List.Perm.refl _)
   have hm : mDo (z.locks.xs.map CLock.abs) z.pairs.xs who o = (z.locks.xs.map CLock.abs, z.pairs.xs, ⟨0, (mWho (z.locks.xs.map CLock.abs) o.a).1, emp⟩) := by grind [mDo]
   refine ⟨(none, none), ?_, ⟨?_, ?_⟩, (hS2.turnedN (fun _ h => h)).as (fun h r hr => ?_) (by simp [allR, lkR, noR])⟩
   · rw [hm] <;> rfl
   · rw [hm] <;> rfl
   · rw [hm] <;> rfl
   · simp only [List.mem_cons, List.not_mem_nil, or_false] at hr
     rcases hr with rfl | rfl
     · trivial
     · trivial
 refine Md (o.kind = 6) (fun h5 => ?_) fun h5 => ?_
 · refine Mda 11 [] [2] [blkR b 38 [vi z.index, z.locks.val, z.pairs.val, z.sessions.val]] Tryz_mixed ?_
   refine Mih ?_ (pBk 98 2 1 i0)
   refine Mp ?_ Tryz.call68 (fun bs w hS => pair_Get z.pairs o.a w (hz _ hS.kp).2.1)
   refine Mz ?_
   refine Mt [(mGot z.pairs.xs o.a).1.val] fun bs w hS => ?_
   have hS2 := hS.perm (R' := [blkR b 38 [vi z.index, z.locks.val, z.pairs.val, z.sessions.val]]) (List.Perm.refl _)
   have hm : mDo (z.locks.xs.map CLock.abs) z.pairs.xs who o = (z.locks.xs.map CLock.abs, z.pairs.xs, (mGot z.pairs.xs o.a).1) := by grind [mDo]
   refine ⟨(none, none), ?_, ⟨?_, ?_⟩, (hS2.turnedN (fun _ h => h)).as (fun h r hr => ?_) (by simp [allR, lkR, noR])⟩
   · rw [hm] <;> rfl
   · rw [hm] <;> rfl
   · rw [hm] <;> rfl
   · simp only [List.mem_cons, List.not_mem_nil, or_false] at hr
     rcases hr with rfl | rfl
     · trivial
     · trivial
 refine Mdn ((mWho (z.locks.xs.map CLock.abs) o.a).1 = who) (fun h6 => ?_) fun h6 => ?_
 rotate_left
 · refine Mt [.agg #[vi 10, vi (mWho (z.locks.xs.map CLock.abs) o.a).1, ve]] fun bs w hS => ?_
   have hS2 := hS.perm (R' := [blkR b 38 [vi z.index, z.locks.val, z.pairs.val, z.sessions.val]]) (List.Perm.refl _)
   have hm : mDo (z.locks.xs.map CLock.abs) z.pairs.xs who o = (z.locks.xs.map CLock.abs, z.pairs.xs, ⟨10, (mWho (z.locks.xs.map CLock.abs) o.a).1, emp⟩) := by grind [mDo]
   refine ⟨(none, none), ?_, ⟨?_, ?_⟩, (hS2.turnedN (fun _ h => h)).as (fun h r hr => ?_) (by simp [allR, lkR, noR])⟩
   · rw [hm] <;> rfl
   · rw [hm] <;> rfl
   · rw [hm] <;> rfl
   · simp only [List.mem_cons, List.not_mem_nil, or_false] at hr
     rcases hr with rfl | rfl
     · trivial
     · trivial
 refine Mdn ((mWho (z.locks.xs.map CLock.abs) o.a).2.1 = o.n) (fun h7 => ?_) fun h7 => ?_
 rotate_left
 · refine Mt [.agg #[vi 10, vi (mWho (z.locks.xs.map CLock.abs) o.a).1, ve]] fun bs w hS => ?_
   have hS2 := hS.perm (R' := [blkR b 38 [vi z.index, z.locks.val, z.pairs.val, z.sessions.val]]) (List.Perm.refl _)
   have hm : mDo (z.locks.xs.map CLock.abs) z.pairs.xs who o = (z.locks.xs.map CLock.abs, z.pairs.xs, ⟨10, (mWho (z.locks.xs.map CLock.abs) o.a).1, emp⟩) := by grind [mDo]
   refine ⟨(none, none), ?_, ⟨?_, ?_⟩, (hS2.turnedN (fun _ h => h)).as (fun h r hr => ?_) (by simp [allR, lkR, noR])⟩
   · rw [hm] <;> rfl
   · rw [hm] <;> rfl
   · rw [hm] <;> rfl
   · simp only [List.mem_cons, List.not_mem_nil, or_false] at hr
     rcases hr with rfl | rfl
     · trivial
     · trivial
 refine Mda 18 [16] [2] [blkR b 38 [vi z.index, z.locks.val, z.pairs.val, z.sessions.val]] Tryz_mixed ?_
 refine Mih ?_ (pBk 27 2 1 i0)
 refine Mu ?_ Tryz.call69 (fun bs w hS => pair_Set z.pairs o.a o.b w (hz _ hS.kp).2.1 ho.1 ho.2)
 rintro fp4 y4 hF4 hok4
 refine m_f1 ?_
 refine MsbX [] 2 [vi z.index, z.locks.val, y4.val, z.sessions.val] ?_
 refine Mt [((mPSet z.pairs.xs o.a o.b).2.1).val] fun bs w hS => ?_
 have hS2 := hS.f1.f1
 have hm : mDo (z.locks.xs.map CLock.abs) z.pairs.xs who o = (z.locks.xs.map CLock.abs, (mPSet z.pairs.xs o.a o.b).1, (mPSet z.pairs.xs o.a o.b).2.1) := by grind [mDo]
 refine ⟨(none, some (fp4, y4)), ?_, ⟨?_, ?_⟩, (hS2.turnedN (fun _ h => h)).as (fun h r hr => ?_) (by simp [allR, lkR, noR])⟩
 · rw [hm] <;> rfl
 · rw [hm] <;> rfl
 · rw [hm] <;> exact hF4
 · simp only [List.mem_cons, List.not_mem_nil, or_false] at hr
   rcases hr with rfl | rfl
   · trivial
   · exact h _ i0
theorem machine_Apply {B : Nat → Prop} (x : CState) (t : ByteArray) (w : World) (hx : Rds.sub B w x) (ht : t.size ≤ 9223372036854775807) : Calls Tryz.prog 13 #[x.val, vs t] w fun e w' => ∃ y : CState, e = .returned (.tuple #[y.val, ((mApply x.abs t).2.1).val, vi (mApply x.abs t).2.2]) ∧ y.abs = (mApply x.abs t).1 ∧ FreshS w w' y := by
 have okx := Rds.okof hx
 refine M0 ?_ Tryz.func13
 refine Mp ?_ Tryz.call31 (fun bs w hS => machine_Check x w (Rds.kp hx hS.kp))
 refine Mdn (mState x.abs = 0) (fun h1 => ?_) fun h1 => ?_
 rotate_left
 · refine Mt [vA, vz 0, vi (mState x.abs)] fun bs w hS => ?_
   have hm := apply_bad (t := t) h1
   refine ⟨(⟨0, Sl.nil, Sl.nil, Sl.nil⟩ : CState), ?_, ?_, hS.outS (y := (⟨0, Sl.nil, Sl.nil, Sl.nil⟩ : CState)) ⟨Sl.rd_nil _ _, Sl.rd_nil _ _, Sl.rd_nil _ _⟩⟩
   · rw [hm] <;> rfl
   · rw [hm] <;> rfl
 have hsi := state_idx h1
 have hsi1 : 0 ≤ x.index := hsi.1
 have hsi2 : x.index ≤ 1073741824 := hsi.2
 refine Md (x.index = 1073741824) (fun h2 => ?_) fun h2 => ?_
 · refine Mt [vA, vz 0, vi 2] fun bs w hS => ?_
   have hm := apply_end (t := t) h1 (by show _ ≤ x.index; omega)
   refine ⟨(⟨0, Sl.nil, Sl.nil, Sl.nil⟩ : CState), ?_, ?_, hS.outS (y := (⟨0, Sl.nil, Sl.nil, Sl.nil⟩ : CState)) ⟨Sl.rd_nil _ _, Sl.rd_nil _ _, Sl.rd_nil _ _⟩⟩
   · rw [hm] <;> rfl
   · rw [hm] <;> rfl
 refine Mp ?_ Tryz.call10 (fun bs w hS => command_Decode t w ht)
 refine Mdn ((mDecode t).2 = 0) (fun h3 => ?_) fun h3 => ?_
 rotate_left
 · refine Mt [vA, vz 0, vi (mDecode t).2] fun bs w hS => ?_
   have hm := apply_dec h1 (by show ¬ _ ≤ x.index; omega) h3
   refine ⟨(⟨0, Sl.nil, Sl.nil, Sl.nil⟩ : CState), ?_, ?_, hS.outS (y := (⟨0, Sl.nil, Sl.nil, Sl.nil⟩ : CState)) ⟨Sl.rd_nil _ _, Sl.rd_nil _ _, Sl.rd_nil _ _⟩⟩
   · rw [hm] <;> rfl
   · rw [hm] <;> rfl
 obtain ⟨hcb1, hcb2, hcb3, hcb4, hcb5, hcb6⟩ := cmd_bd (mDecode_ok h3).1
 refine Mu ?_ Tryz.call32 (fun bs w hS => machine_Copy x w (Rds.kp hx hS.kp) (small_state (by assumption)))
 rintro fp1 y1 hF1 hok1
 refine Mu ?_ Tryz.call11 (fun bs w hS => session_Fresh y1.sessions y1.index w (hS.res _ i0).2.2)
 rintro fp2 y2 hF2 hok2
 refine Mon 0 ?_ Tryz.call33 (fun bs w hS hb => machine_gone (B := anyB) (B' := anyB) ((⟨y1.index, y1.locks, y1.pairs, y2⟩ : CState)) y1.sessions (bs.getD 0 0) w hb (fun w' hk => ⟨(Sl.rd.wide ((hS.resI 0 hk) _ i1).1 fun _ _ => trivial), (Sl.rd.wide ((hS.resI 0 hk) _ i1).2.1 fun _ _ => trivial), (Sl.rd.wide ((hS.resI 0 hk) _ i0) fun _ _ => trivial)⟩) (fun w' hk => (Sl.rd.wide ((hS.resI 0 hk) _ i1).2.2 fun _ _ => trivial)))
 rintro y3 hF3
 refine Md ((mDecode t).1.kind = 1) (fun h4 => ?_) fun h4 => ?_
 · have hix : y1.index = x.index := congrArg DState.index hF1
   refine Mu ?_ Tryz.call34 (fun bs w hS => session_Join y2 y1.index (mDecode t).1.client w (hS.res _ i1) (by unfold inR; omega))
   rintro fp5 y5 hF5 hok5
   refine Mi ?_ (pR (y1.index + 1))
   refine Mda 5 [] [1, 2] [subR fp5 y5, lkR y3, subR fp2 y2, subR fp1 y1] Tryz_mixed ?_
   refine Mz ?_
   refine Mt [.agg #[vi (y1.index + 1), .slice (lk y1.locks y3).A (lk y1.locks y3).n (lk y1.locks y3).c, y1.pairs.val, y5.val], ((mJoin (y2.xs.map CSession.abs) y1.index (mDecode t).1.client).2.1).val, vi 0] fun bs w hS => ?_
   have e3 : aFresh y1.abs = y2.xs.map CSession.abs := hF2.symm
   have e4 : aLocks y1.abs = (lk y1.locks y3).xs.map CLock.abs := by unfold aLocks; rw [e3]; exact hF3.symm
   have hs : mStep x.abs (mDecode t).1 = _ := (congrArg (fun q => mStep q (mDecode t).1) hF1).symm.trans (step_join e3 e4 h4)
   have hm := apply_ok h1 (by show ¬ _ ≤ x.index; omega) h3 hs
   refine ⟨(⟨y1.index + 1, (lk y1.locks y3), y1.pairs, y5⟩ : CState), ?_, ?_, hS.outS (y := (⟨y1.index + 1, (lk y1.locks y3), y1.pairs, y5⟩ : CState)) ⟨(lk_out (allR_sub (y := y1) i3 (hS.res _ i3)).1 i1 hS.res), (allR_sub (y := y1) i3 (hS.res _ i3)).2.1, (allR_sub (y := y5) i0 (hS.res _ i0))⟩⟩
   · rw [hm] <;> rfl
   · rw [hm]
     show (⟨_, (lk y1.locks y3).xs.map CLock.abs, y1.pairs.xs, y5.xs.map CSession.abs⟩ : DState) = _
     rw [hF5] <;> rfl
 have hix : y1.index = x.index := congrArg DState.index hF1
 refine Md ((mDecode t).1.kind = 3) (fun h5 => ?_) fun h5 => ?_
 · refine Mu ?_ Tryz.call35 (fun bs w hS => session_Leave y2 y1.index (mDecode t).1.client w (hS.res _ i1) (by unfold inR; omega))
   rintro fp6 y6 hF6 hok6
   refine Mon 0 ?_ Tryz.call33 (fun bs w hS hb => machine_gone (B := anyB) (B' := anyB) ((⟨y1.index, (lk y1.locks y3), y1.pairs, y6⟩ : CState)) y2 (bs.getD 0 0) w hb (fun w' hk => ⟨(Sl.rd.wide (lk_rd ((hS.resI 0 hk) _ i3).1 ((hS.resI 0 hk) _ i1)) fun _ _ => trivial), (Sl.rd.wide ((hS.resI 0 hk) _ i3).2.1 fun _ _ => trivial), (Sl.rd.wide ((hS.resI 0 hk) _ i0) fun _ _ => trivial)⟩) (fun w' hk => (Sl.rd.wide ((hS.resI 0 hk) _ i2) fun _ _ => trivial)))
   rintro y7 hF7
   refine Mi ?_ (pR (y1.index + 1))
   refine Mda 5 [] [1, 2] [lkR y7, subR fp6 y6, lkR y3, subR fp2 y2, subR fp1 y1] Tryz_mixed ?_
   refine Mz ?_
   refine Mt [.agg #[vi (y1.index + 1), .slice (lk (lk y1.locks y3) y7).A (lk (lk y1.locks y3) y7).n (lk (lk y1.locks y3) y7).c, y1.pairs.val, y6.val], ((mLeave (y2.xs.map CSession.abs) y1.index (mDecode t).1.client).2.1).val, vi 0] fun bs w hS => ?_
   have e3 : aFresh y1.abs = y2.xs.map CSession.abs := hF2.symm
   have e4 : aLocks y1.abs = (lk y1.locks y3).xs.map CLock.abs := by unfold aLocks; rw [e3]; exact hF3.symm
   have hs : mStep x.abs (mDecode t).1 = _ := (congrArg (fun q => mStep q (mDecode t).1) hF1).symm.trans (step_leave e3 e4 h4 h5)
   have hm := apply_ok h1 (by show ¬ _ ≤ x.index; omega) h3 hs
   refine ⟨(⟨y1.index + 1, (lk (lk y1.locks y3) y7), y1.pairs, y6⟩ : CState), ?_, ?_, hS.outS (y := (⟨y1.index + 1, (lk (lk y1.locks y3) y7), y1.pairs, y6⟩ : CState)) ⟨(lk_out (lk_out (allR_sub (y := y1) i4 (hS.res _ i4)).1 i2 hS.res) i0 hS.res), (allR_sub (y := y1) i4 (hS.res _ i4)).2.1, (allR_sub (y := y6) i1 (hS.res _ i1))⟩⟩
   · rw [hm] <;> rfl
   · rw [hm]
     show (⟨_, (lk (lk y1.locks y3) y7).xs.map CLock.abs, y1.pairs.xs, y6.xs.map CSession.abs⟩ : DState) = _
     rw [hF7, hF6] <;> rfl
 refine Mu ?_ Tryz.call12 (fun bs w hS => session_Ready y2 y1.index (mDecode t).1 w (hS.res _ i1) (by unfold inR; omega) ⟨hcb5, hcb6⟩)
 rintro fp9 y9 hF9 hok9
 refine Mb (mReady (y2.xs.map CSession.abs) y1.index (mDecode t).1).2.2.1 (fun h6 => ?_) fun h6 => ?_
 rotate_left
 · refine Mi ?_ (pR (y1.index + 1))
   refine Mda 5 [] [1, 2] [subR fp9 y9, lkR y3, subR fp2 y2, subR fp1 y1] Tryz_mixed ?_
   refine Mz ?_
   refine Mt [.agg #[vi (y1.index + 1), .slice (lk y1.locks y3).A (lk y1.locks y3).n (lk y1.locks y3).c, y1.pairs.val, y9.val], ((mReady (y2.xs.map CSession.abs) y1.index (mDecode t).1).2.1).val, vi 0] fun bs w hS => ?_
   have e3 : aFresh y1.abs = y2.xs.map CSession.abs := hF2.symm
   have e4 : aLocks y1.abs = (lk y1.locks y3).xs.map CLock.abs := by unfold aLocks; rw [e3]; exact hF3.symm
   have hs : mStep x.abs (mDecode t).1 = _ := (congrArg (fun q => mStep q (mDecode t).1) hF1).symm.trans (step_not e3 e4 h4 h5 h6)
   have hm := apply_ok h1 (by show ¬ _ ≤ x.index; omega) h3 hs
   refine ⟨(⟨y1.index + 1, (lk y1.locks y3), y1.pairs, y9⟩ : CState), ?_, ?_, hS.outS (y := (⟨y1.index + 1, (lk y1.locks y3), y1.pairs, y9⟩ : CState)) ⟨(lk_out (allR_sub (y := y1) i3 (hS.res _ i3)).1 i1 hS.res), (allR_sub (y := y1) i3 (hS.res _ i3)).2.1, (allR_sub (y := y9) i0 (hS.res _ i0))⟩⟩
   · rw [hm] <;> rfl
   · rw [hm]
     show (⟨_, (lk y1.locks y3).xs.map CLock.abs, y1.pairs.xs, y9.xs.map CSession.abs⟩ : DState) = _
     rw [hF9] <;> rfl
 refine Mon 0 ?_ Tryz.call36 (fun bs w hS hb => machine_do (B := anyB) (B' := anyB) ((⟨y1.index, (lk y1.locks y3), y1.pairs, y9⟩ : CState)) (mDecode t).1.client (mDecode t).1.op (bs.getD 0 0) w hb (fun w' hk => ⟨(Sl.rd.wide (lk_rd ((hS.resI 0 hk) _ i3).1 ((hS.resI 0 hk) _ i1)) fun _ _ => trivial), (Sl.rd.wide ((hS.resI 0 hk) _ i3).2.1 fun _ _ => trivial), (Sl.rd.wide ((hS.resI 0 hk) _ i0) fun _ _ => trivial)⟩) ⟨hcb5, hcb6⟩)
 rintro y10 hF10
 refine m_split2 ?_
 have hdt10 := mDo_text (L := (lk y1.locks y3).xs.map CLock.abs) (P := y1.pairs.xs) (fun p hp => mem_getD (P := fun p : DPair => p.value.size ≤ 9223372036854775807) (fun j hj => ((hok1.2.1).2.2 j hj).2.2) p hp) (mDecode t).1.client (mDecode t).1.op
 refine Mi ?_ (pR (y1.index + 1))
 refine Mu ?_ Tryz.call37 (fun bs w hS => session_Keep y9 (y1.index + 1) (mDecode t).1.client (mDecode t).1.seq (mDo ((lk y1.locks y3).xs.map CLock.abs) y1.pairs.xs (mDecode t).1.client (mDecode t).1.op).2.2 w (hS.res _ i2) (by unfold inR; omega) (by unfold inR; omega) (by first | assumption | omega | (simp only [emp_size]; omega)))
 rintro fp12 y12 hF12 hok12
 refine Mi ?_ (pR (y1.index + 1))
 refine Mda 5 [] [1, 2] [subR fp12 y12, lkR y10.1, lkR y10.2, subR fp9 y9, lkR y3, subR fp2 y2, subR fp1 y1] Tryz_mixed ?_
 refine Mz ?_
 refine Mt [.agg #[vi (y1.index + 1), .slice (lk (lk y1.locks y3) y10.1).A (lk (lk y1.locks y3) y10.1).n (lk (lk y1.locks y3) y10.1).c, .slice (lk y1.pairs y10.2).A (lk y1.pairs y10.2).n (lk y1.pairs y10.2).c, y12.val], ((mDo ((lk y1.locks y3).xs.map CLock.abs) y1.pairs.xs (mDecode t).1.client (mDecode t).1.op).2.2).val, vi 0] fun bs w hS => ?_
 have e3 : aFresh y1.abs = y2.xs.map CSession.abs := hF2.symm
 have e4 : aLocks y1.abs = (lk y1.locks y3).xs.map CLock.abs := by unfold aLocks; rw [e3]; exact hF3.symm
 have hs : mStep x.abs (mDecode t).1 = _ := (congrArg (fun q => mStep q (mDecode t).1) hF1).symm.trans (step_do e3 e4 h4 h5 h6)
 have hm := apply_ok h1 (by show ¬ _ ≤ x.index; omega) h3 hs
 refine ⟨(⟨y1.index + 1, (lk (lk y1.locks y3) y10.1), (lk y1.pairs y10.2), y12⟩ : CState), ?_, ?_, hS.outS (y := (⟨y1.index + 1, (lk (lk y1.locks y3) y10.1), (lk y1.pairs y10.2), y12⟩ : CState)) ⟨(lk_out (lk_out (allR_sub (y := y1) i6 (hS.res _ i6)).1 i4 hS.res) i1 hS.res), (lk_out (allR_sub (y := y1) i6 (hS.res _ i6)).2.1 i2 hS.res), (allR_sub (y := y12) i0 (hS.res _ i0))⟩⟩
 · rw [hm] <;> rfl
 · rw [hm]
   show (⟨_, (lk (lk y1.locks y3) y10.1).xs.map CLock.abs, (lk y1.pairs y10.2).xs, y12.xs.map CSession.abs⟩ : DState) = _
   rw [hF10.1, hF10.2, hF12, hF9] <;> rfl
theorem replica_Apply {B : Nat → Prop} (x : CReplica) (u : Int) (w : World) (hx : Rds.sub B w x) : Calls Tryz.prog 136 #[x.val, vi u] w fun e w' => ∃ y : CRan, e = .returned (.tuple #[y.repl.val, y.out.val, vi (mRApply x.abs u).2.2]) ∧ y.abs = (⟨(mRApply x.abs u).1, (mRApply x.abs u).2.1⟩ : DRan) ∧ FreshS w w' y := by
 have qL : x.abs.log = x.log.abs := rfl
 have qS : x.abs.state = x.state.abs := rfl
 have qN : x.abs.snap = x.snap := rfl
 have qB : x.abs.log.base = x.log.base := rfl
 have qI : x.abs.state.index = x.state.index := rfl
 have qM : mLast x.abs.log = x.log.base + (x.log.entries.n : Int) := rfl
 have okx := Rds.okof hx
 have okl := okx.2.1
 have ncx := Sl.ok.nc okl
 have hnx : x.log.entries.n = x.log.entries.xs.length := rfl
 refine M0 ?_ Tryz.func136
 refine Mp ?_ Tryz.call137 (fun bs w hS => replica_Check x w (Rds.kp hx hS.kp))
 refine Mdn (mReplica x.abs = 0) (fun h1 => ?_) fun h1 => ?_
 rotate_left
 · refine Mt [vP, vn, vi (mReplica x.abs)] fun bs w hS => ?_
   have hm := rapp_bad (u := u) h1
   refine ⟨(⟨(⟨⟨0, Sl.nil⟩, emp, 0, Sl.nil, Sl.nil, Sl.nil⟩ : CReplica), Sl.nil⟩ : CRan), ?_, ?_, hS.outS (y := (⟨(⟨⟨0, Sl.nil⟩, emp, 0, Sl.nil, Sl.nil, Sl.nil⟩ : CReplica), Sl.nil⟩ : CRan)) ⟨(by show emp.size ≤ _; rw [emp_size]; omega), Sl.rd_nil _ _, Sl.rd_nil _ _, Sl.rd_nil _ _, Sl.rd_nil _ _, Sl.rd_nil _ _⟩⟩
   · rw [hm] <;> rfl
   · rw [hm] <;> rfl
 obtain ⟨hp1, hp2, hp3, hp4, hp5⟩ := mReplica_parts h1
 obtain ⟨hb1, hb2, hb3, hb4⟩ := mLog_bd hp1
 have hb6 : x.abs.log.entries = x.log.entries.xs := rfl
 rw [qB] at hb1 hb2 hp3
 rw [qI] at hp3 hp4
 rw [qM] at hp4
 rw [hb6] at hb3
 refine Md (u < 0) (fun h2 => ?_) fun h2 => ?_
 · refine Mt [vP, vn, vi 2] fun bs w hS => ?_
   have hm := rapp_out (u := u) h1 (by omega)
   refine ⟨(⟨(⟨⟨0, Sl.nil⟩, emp, 0, Sl.nil, Sl.nil, Sl.nil⟩ : CReplica), Sl.nil⟩ : CRan), ?_, ?_, hS.outS (y := (⟨(⟨⟨0, Sl.nil⟩, emp, 0, Sl.nil, Sl.nil, Sl.nil⟩ : CReplica), Sl.nil⟩ : CRan)) ⟨(by show emp.size ≤ _; rw [emp_size]; omega), Sl.rd_nil _ _, Sl.rd_nil _ _, Sl.rd_nil _ _, Sl.rd_nil _ _, Sl.rd_nil _ _⟩⟩
   · rw [hm] <;> rfl
   · rw [hm] <;> rfl
 refine Md ((1073741824 : Int) < u) (fun h3 => ?_) fun h3 => ?_
 · refine Mt [vP, vn, vi 2] fun bs w hS => ?_
   have hm := rapp_out (u := u) h1 (by omega)
   refine ⟨(⟨(⟨⟨0, Sl.nil⟩, emp, 0, Sl.nil, Sl.nil, Sl.nil⟩ : CReplica), Sl.nil⟩ : CRan), ?_, ?_, hS.outS (y := (⟨(⟨⟨0, Sl.nil⟩, emp, 0, Sl.nil, Sl.nil, Sl.nil⟩ : CReplica), Sl.nil⟩ : CRan)) ⟨(by show emp.size ≤ _; rw [emp_size]; omega), Sl.rd_nil _ _, Sl.rd_nil _ _, Sl.rd_nil _ _, Sl.rd_nil _ _, Sl.rd_nil _ _⟩⟩
   · rw [hm] <;> rfl
   · rw [hm] <;> rfl
 refine Mu ?_ Tryz.call40 (fun bs w hS => replica_Copy x w (Rds.kp hx hS.kp) (small_repl (by assumption)))
 rintro fp1 y1 hF1 hok1
 have e1 : y1.log.base = x.log.base := congrArg (fun r : DReplica => r.log.base) hF1
 have e2 : y1.state.index = x.state.index := congrArg (fun r : DReplica => r.state.index) hF1
 have e3 : y1.log.entries.xs = x.log.entries.xs := congrArg (fun r : DReplica => r.log.entries) hF1
 have e4 : y1.log.entries.n = x.log.entries.n := congrArg List.length e3
 obtain ⟨N, hN⟩ : ∃ N, ((if u < (y1.log.base + (y1.log.entries.n : Int)) then u else (y1.log.base + (y1.log.entries.n : Int))) - y1.state.index).toNat = N := ⟨_, rfl⟩
 obtain ⟨k0, hk0⟩ : ∃ k, (y1.state.index - y1.log.base).toNat = k := ⟨_, rfl⟩
 refine m_nores (stR (none : Option (List Nat × CState))) rfl (fun w => trivial) ?_
 refine m_rowA (α := DMail) 65 ?_
 refine Ml (σ := Nat × Option Addr × Nat × List DMail × Option (List Nat × CState)) (fun ⟨k, A0, c0, L0, o⟩ => k ≤ N ∧ RunI y1.log.entries.xs N k0 y1.state.abs k (stk y1.state o).abs L0 ∧ Rds.ok (stk y1.state o)) (fun ⟨k, A0, c0, L0, o⟩ => N - k) (fun ⟨k, A0, c0, L0, o⟩ => [rowA 65 A0 c0 (L0 : List DMail), stR o, subR fp1 y1]) [8, 4, 2, 1] (fun ⟨k, A0, c0, L0, o⟩ => [(8, .v (.slice A0 L0.length c0))]) (fun ⟨k, A0, c0, L0, o⟩ => [(0, [vI y1.log.base, .v y1.log.entries.val, vS y1.snap, vI (stk y1.state o).index, .v (.slice (stk y1.state o).locks.A (stk y1.state o).locks.n (stk y1.state o).locks.c), .v (.slice (stk y1.state o).pairs.A (stk y1.state o).pairs.n (stk y1.state o).pairs.c), .v (.slice (stk y1.state o).sessions.A (stk y1.state o).sessions.n (stk y1.state o).sessions.c)])]) ?_ (⟨0, none, 0, [], none⟩) ⟨Nat.zero_le _, runI_0 _ _ _ _, (show Rds.ok y1.state from hok1.2.2)⟩
 rintro ⟨k, A0, c0, L0, o⟩ ⟨hk, hI, hokz⟩ _ on1
 have hI2 : (stk y1.state o).index = y1.state.index + (k : Int) := hI.2.1
 have hI3 := hI.2.2.1
 refine Mdr 9 ?_ Tryz_mixed
 refine Mp ?_ Tryz.call14 (fun bs w hS => log_Last y1.log w (hS.res _ i2).2.1 (by first | exact ⟨by omega, by omega, by omega⟩ | omega))
 refine Mz ?_
 refine Md ((stk y1.state o).index < (if y1.log.base + (y1.log.entries.n : Int) < u then y1.log.base + (y1.log.entries.n : Int) else u)) (fun h4 => ?_) fun h4 => ?_
 rotate_left
 · refine Mt [.agg #[vi y1.log.base, y1.log.entries.val, vs y1.snap, vi (stk y1.state o).index, .slice (stk y1.state o).locks.A (stk y1.state o).locks.n (stk y1.state o).locks.c, .slice (stk y1.state o).pairs.A (stk y1.state o).pairs.n (stk y1.state o).pairs.c, .slice (stk y1.state o).sessions.A (stk y1.state o).sessions.n (stk y1.state o).sessions.c], .slice A0 L0.length c0, vi 0] fun bs w hS => ?_
   have hr1 : mReplica y1.abs = 0 := by rw [hF1]; exact h1
   have hm := rapp_ok (r := y1.abs) (u := u) hr1 (by omega) rfl rfl hN hk0 (runI_end hI (by omega))
   rw [hF1] at hm
   have hp1 := (show Rds.sub (· ∈ (allR [rowA 65 A0 c0 (L0 : List DMail), stR o, subR fp1 y1]).fp) w y1 from allR_sub (y := y1) i2 (hS.res _ i2))
   have hp2 := stk_out (z := y1.state) hp1.2.2 i1 hS.res
   refine ⟨(⟨⟨y1.log, y1.snap, (stk y1.state o)⟩, ⟨A0, c0, L0⟩⟩ : CRan), ?_, ?_, hS.outS (y := (⟨⟨y1.log, y1.snap, (stk y1.state o)⟩, ⟨A0, c0, L0⟩⟩ : CRan)) ⟨hp1.1, hp1.2.1, hp2.1, hp2.2.1, hp2.2.2, (allR_row i0 (hS.res _ i0) (fun z hz => hI.2.2.2 z hz))⟩⟩
   · rw [hm]; rfl
   · rw [hm]; show (⟨⟨y1.log.abs, y1.snap, (stk y1.state o).abs⟩, _⟩ : DRan) = _; rw [← hF1]; rfl
 refine Mi ?_ (pc (pR ((stk y1.state o).index - y1.log.base)) (pA 49 50 ((stk y1.state o).index - y1.log.base) ((stk y1.state o).index - y1.log.base).toNat (s := y1.log.entries) (fun w hk hr => (hr _ i2).2.1)))
 refine Mu ?_ Tryz.call13 (fun bs w hS => machine_Apply (stk y1.state o) (y1.log.entries.at ((stk y1.state o).index - y1.log.base).toNat) w (stk_rd (hS.res _ i2).2.2 (hS.res _ i1)) (Sl.ok.at (s := y1.log.entries) (i := ((stk y1.state o).index - y1.log.base).toNat) hok1.2.1 (by omega)))
 rintro fp2 y2 hF2 hok2
 refine Mdn ((mApply (stk y1.state o).abs (y1.log.entries.at ((stk y1.state o).index - y1.log.base).toNat)).2.2 = 0) (fun h5 => ?_) fun h5 => ?_
 rotate_left
 · refine Mt [vP, vn, vi (mApply (stk y1.state o).abs (y1.log.entries.at ((stk y1.state o).index - y1.log.base).toNat)).2.2] fun bs w hS => ?_
   have hr1 : mReplica y1.abs = 0 := by rw [hF1]; exact h1
   have hj : k0 + k = ((stk y1.state o).index - y1.log.base).toNat := by omega
   have hm := rapp_err (r := y1.abs) (u := u) hr1 (by omega) rfl rfl hN hk0 (runI_bad hI (by omega) (show y1.log.entries.xs.getD (k0 + k) default = y1.log.entries.at ((stk y1.state o).index - y1.log.base).toNat by rw [hj]; rfl) h5) h5
   rw [hF1] at hm
   refine ⟨(⟨(⟨⟨0, Sl.nil⟩, emp, 0, Sl.nil, Sl.nil, Sl.nil⟩ : CReplica), Sl.nil⟩ : CRan), ?_, ?_, hS.outS (y := (⟨(⟨⟨0, Sl.nil⟩, emp, 0, Sl.nil, Sl.nil, Sl.nil⟩ : CReplica), Sl.nil⟩ : CRan)) ⟨(by show emp.size ≤ _; rw [emp_size]; omega), Sl.rd_nil _ _, Sl.rd_nil _ _, Sl.rd_nil _ _, Sl.rd_nil _ _, Sl.rd_nil _ _⟩⟩
   · rw [hm] <;> rfl
   · rw [hm] <;> rfl
 refine Mp ?_ Tryz.call10 (fun bs w hS => command_Decode (y1.log.entries.at ((stk y1.state o).index - y1.log.base).toNat) w (Sl.ok.at (s := y1.log.entries) (i := ((stk y1.state o).index - y1.log.base).toNat) hok1.2.1 (by omega)))
 refine M1 ?_
 refine m_f1 ?_
 refine Mal (α := DMail) 48 ([(⟨(mDecode (y1.log.entries.at ((stk y1.state o).index - y1.log.base).toNat)).1.client, (mDecode (y1.log.entries.at ((stk y1.state o).index - y1.log.base).toNat)).1.seq, ⟨((mApply (stk y1.state o).abs (y1.log.entries.at ((stk y1.state o).index - y1.log.base).toNat)).2.1).code, ((mApply (stk y1.state o).abs (y1.log.entries.at ((stk y1.state o).index - y1.log.base).toNat)).2.1).n, ((mApply (stk y1.state o).abs (y1.log.entries.at ((stk y1.state o).index - y1.log.base).toNat)).2.1).text⟩⟩ : DMail)]) ?_
 intro A3 c3
 refine m_f2 ?_
 refine m_weak noR (List.nil_sublist _) (fun _ _ => trivial) ?_
 refine m_f2 ?_
 refine m_join (stR (some (fp2, y2))) (by show List.Perm fp2 (fp2 ++ []); rw [List.append_nil]) (fun w h1 h2 => h1) ?_
 refine m_f2 (m_f1 (m_f2 ?_))
 have hj : k0 + k = ((stk y1.state o).index - y1.log.base).toNat := by omega
 have hI9 := runI_next hI (by omega) (show y1.log.entries.xs.getD (k0 + k) default = y1.log.entries.at ((stk y1.state o).index - y1.log.base).toNat by rw [hj]; rfl) h5 (texts_ok hokz) hF2
 have hok9 := hok2
 exact on1 ⟨k + 1, A3, c3, L0 ++ [(⟨(mDecode (y1.log.entries.at ((stk y1.state o).index - y1.log.base).toNat)).1.client, (mDecode (y1.log.entries.at ((stk y1.state o).index - y1.log.base).toNat)).1.seq, ⟨((mApply (stk y1.state o).abs (y1.log.entries.at ((stk y1.state o).index - y1.log.base).toNat)).2.1).code, ((mApply (stk y1.state o).abs (y1.log.entries.at ((stk y1.state o).index - y1.log.base).toNat)).2.1).n, ((mApply (stk y1.state o).abs (y1.log.entries.at ((stk y1.state o).index - y1.log.base).toNat)).2.1).text⟩⟩ : DMail)], some (fp2, y2)⟩ ⟨by omega, hI9, hok9⟩ (by show N - (k + 1) < N - k; omega)
theorem replica_Install {B : Nat → Prop} (x : CReplica) (s : ByteArray) (w : World) (hx : Rds.sub B w x) (hs : s.size ≤ 9223372036854775807) : Calls Tryz.prog 134 #[x.val, vs s] w fun e w' => ∃ y : CReplica, e = .returned (.tuple #[y.val, vi (mRInstall x.abs s).2]) ∧ y.abs = (mRInstall x.abs s).1 ∧ FreshS w w' y := by
 have qL : x.abs.log = x.log.abs := rfl
 have qS : x.abs.state = x.state.abs := rfl
 have qN : x.abs.snap = x.snap := rfl
 have qB : x.abs.log.base = x.log.base := rfl
 have qI : x.abs.state.index = x.state.index := rfl
 have qM : mLast x.abs.log = x.log.base + (x.log.entries.n : Int) := rfl
 have okx := Rds.okof hx
 have okl := okx.2.1
 have ncx := Sl.ok.nc okl
 have hnx : x.log.entries.n = x.log.entries.xs.length := rfl
 refine M0 ?_ Tryz.func134
 refine Mp ?_ Tryz.call137 (fun bs w hS => replica_Check x w (Rds.kp hx hS.kp))
 refine Mdn (mReplica x.abs = 0) (fun h1 => ?_) fun h1 => ?_
 rotate_left
 · exact Me2 (rinst_bad (s := s) h1) (⟨⟨0, Sl.nil⟩, emp, 0, Sl.nil, Sl.nil, Sl.nil⟩ : CReplica) rfl fun bs w hS => hS.outS (y := (⟨⟨0, Sl.nil⟩, emp, 0, Sl.nil, Sl.nil, Sl.nil⟩ : CReplica)) ⟨(by show emp.size ≤ _; rw [emp_size]; omega), Sl.rd_nil _ _, Sl.rd_nil _ _, Sl.rd_nil _ _, Sl.rd_nil _ _⟩
 obtain ⟨hp1, hp2, hp3, hp4, hp5⟩ := mReplica_parts h1
 obtain ⟨hb1, hb2, hb3, hb4⟩ := mLog_bd hp1
 have hb6 : x.abs.log.entries = x.log.entries.xs := rfl
 rw [qB] at hb1 hb2 hp3
 rw [qI] at hp3 hp4
 rw [qM] at hp4
 rw [hb6] at hb3
 refine Mu ?_ Tryz.call151 (fun bs w hS => snap_Decode s w hs)
 rintro fp1 y1 hF1 hok1
 refine Mdn ((mUnsnap s).2 = 0) (fun h2 => ?_) fun h2 => ?_
 rotate_left
 · exact Me2 (rinst_dec h1 h2) (⟨⟨0, Sl.nil⟩, emp, 0, Sl.nil, Sl.nil, Sl.nil⟩ : CReplica) rfl fun bs w hS => hS.outS (y := (⟨⟨0, Sl.nil⟩, emp, 0, Sl.nil, Sl.nil, Sl.nil⟩ : CReplica)) ⟨(by show emp.size ≤ _; rw [emp_size]; omega), Sl.rd_nil _ _, Sl.rd_nil _ _, Sl.rd_nil _ _, Sl.rd_nil _ _⟩
 refine Md (y1.index ≤ x.state.index) (fun h3 => ?_) fun h3 => ?_
 · exact Me2 (rinst_old (s := s) h1 h2 (show y1.index = (mUnsnap s).1.index from congrArg DState.index hF1) h3) (⟨⟨0, Sl.nil⟩, emp, 0, Sl.nil, Sl.nil, Sl.nil⟩ : CReplica) rfl fun bs w hS => hS.outS (y := (⟨⟨0, Sl.nil⟩, emp, 0, Sl.nil, Sl.nil, Sl.nil⟩ : CReplica)) ⟨(by show emp.size ≤ _; rw [emp_size]; omega), Sl.rd_nil _ _, Sl.rd_nil _ _, Sl.rd_nil _ _, Sl.rd_nil _ _⟩
 refine Md ((1073741424 : Int) < y1.index) (fun h4 => ?_) fun h4 => ?_
 · exact Me2 (rinst_far (s := s) h1 h2 (show y1.index = (mUnsnap s).1.index from congrArg DState.index hF1) h3 h4) (⟨⟨0, Sl.nil⟩, emp, 0, Sl.nil, Sl.nil, Sl.nil⟩ : CReplica) rfl fun bs w hS => hS.outS (y := (⟨⟨0, Sl.nil⟩, emp, 0, Sl.nil, Sl.nil, Sl.nil⟩ : CReplica)) ⟨(by show emp.size ≤ _; rw [emp_size]; omega), Sl.rd_nil _ _, Sl.rd_nil _ _, Sl.rd_nil _ _, Sl.rd_nil _ _⟩
 refine Mdr 6 ?_ Tryz_mixed
 refine Mp ?_ Tryz.call14 (fun bs w hS => log_Last x.log w (Rds.kp hx hS.kp).2.1 (by first | exact ⟨by omega, by omega, by omega⟩ | omega))
 refine Mz ?_
 refine Md (y1.index ≤ x.log.base + (x.log.entries.n : Int)) (fun h5 => ?_) fun h5 => ?_
 rotate_left
 · refine Mt [.agg #[vi y1.index, vn, vs s, vi y1.index, y1.locks.val, y1.pairs.val, y1.sessions.val], vi 0] fun bs w hS => ?_
   have hm := rinst_ok (s := s) h1 h2 (show y1.index = (mUnsnap s).1.index from congrArg DState.index hF1) h3 h4
   refine ⟨(⟨⟨y1.index, Sl.nil⟩, s, y1⟩ : CReplica), ?_, ?_, hS.outS (y := (⟨⟨y1.index, Sl.nil⟩, s, y1⟩ : CReplica)) ⟨hs, Sl.rd_nil _ _, (show Rds.sub (· ∈ (allR [subR fp1 y1]).fp) w y1 from allR_sub (y := y1) i0 (hS.res _ i0))⟩⟩
   · rw [hm]; rfl
   · rw [hm]
     show (⟨⟨y1.index, []⟩, s, y1.abs⟩ : DReplica) = _
     rw [List.drop_eq_nil_of_le (show x.abs.log.entries.length ≤ _ by rw [hb6, qB]; omega)]
     rw [hF1]
 refine Mu ?_ Tryz.call138 (fun bs w hS => log_Cut x.log y1.index w (Rds.kp hx hS.kp).2.1)
 rintro fp2 y2 hF2 hok2
 refine Mt [.agg #[vi y2.base, y2.entries.val, vs s, vi y1.index, y1.locks.val, y1.pairs.val, y1.sessions.val], vi 0] fun bs w hS => ?_
 have hm := rinst_ok (s := s) h1 h2 (show y1.index = (mUnsnap s).1.index from congrArg DState.index hF1) h3 h4
 have hc : y2.abs = (⟨y1.index, x.log.entries.xs.drop (y1.index - x.log.base).toNat⟩ : DLog) := by rw [hF2, mCut_in (x := x.log.abs) hp1 (by show x.log.base ≤ _; omega) (by show _ ≤ x.log.base + (x.log.entries.n : Int); omega) h4]; rfl
 refine ⟨(⟨y2, s, y1⟩ : CReplica), ?_, ?_, hS.outS (y := (⟨y2, s, y1⟩ : CReplica)) ⟨hs, (show Rds.sub (· ∈ (allR [subR fp2 y2, subR fp1 y1]).fp) w y2 from allR_sub (y := y2) i0 (hS.res _ i0)), (show Rds.sub (· ∈ (allR [subR fp2 y2, subR fp1 y1]).fp) w y1 from allR_sub (y := y1) i1 (hS.res _ i1))⟩⟩
 · rw [hm]; rfl
 · rw [hm]
   show (⟨y2.abs, s, y1.abs⟩ : DReplica) = _
   rw [hc, hF1]
   rfl
theorem replica_Compact {B : Nat → Prop} (x : CReplica) (w : World) (hx : Rds.sub B w x) : Calls Tryz.prog 109 #[x.val] w fun e w' => ∃ y : CReplica, e = .returned (.tuple #[y.val, vi (mRCompact x.abs).2]) ∧ y.abs = (mRCompact x.abs).1 ∧ FreshS w w' y := by
 have qL : x.abs.log = x.log.abs := rfl
 have qS : x.abs.state = x.state.abs := rfl
 have qN : x.abs.snap = x.snap := rfl
 have qB : x.abs.log.base = x.log.base := rfl
 have qI : x.abs.state.index = x.state.index := rfl
 have qM : mLast x.abs.log = x.log.base + (x.log.entries.n : Int) := rfl
 have okx := Rds.okof hx
 have okl := okx.2.1
 have ncx := Sl.ok.nc okl
 have hnx : x.log.entries.n = x.log.entries.xs.length := rfl
 refine M0 ?_ Tryz.func109
 refine Mp ?_ Tryz.call137 (fun bs w hS => replica_Check x w (Rds.kp hx hS.kp))
 refine Mdn (mReplica x.abs = 0) (fun h1 => ?_) fun h1 => ?_
 rotate_left
 · exact Me2 ((show mRCompact x.abs = (zRepl, mReplica x.abs) by unfold mRCompact; rw [if_pos h1])) (⟨⟨0, Sl.nil⟩, emp, 0, Sl.nil, Sl.nil, Sl.nil⟩ : CReplica) rfl fun bs w hS => hS.outS (y := (⟨⟨0, Sl.nil⟩, emp, 0, Sl.nil, Sl.nil, Sl.nil⟩ : CReplica)) ⟨(by show emp.size ≤ _; rw [emp_size]; omega), Sl.rd_nil _ _, Sl.rd_nil _ _, Sl.rd_nil _ _, Sl.rd_nil _ _⟩
 obtain ⟨hp1, hp2, hp3, hp4, hp5⟩ := mReplica_parts h1
 obtain ⟨hb1, hb2, hb3, hb4⟩ := mLog_bd hp1
 have hb6 : x.abs.log.entries = x.log.entries.xs := rfl
 rw [qB] at hb1 hb2 hp3
 rw [qI] at hp3 hp4
 rw [qM] at hp4
 rw [hb6] at hb3
 refine Md (x.state.index = x.log.base) (fun h2 => ?_) fun h2 => ?_
 · exact Me2 ((show mRCompact x.abs = (zRepl, 12) by unfold mRCompact; rw [if_neg (fun q => q h1), if_pos (show x.abs.state.index = x.abs.log.base from h2)])) (⟨⟨0, Sl.nil⟩, emp, 0, Sl.nil, Sl.nil, Sl.nil⟩ : CReplica) rfl fun bs w hS => hS.outS (y := (⟨⟨0, Sl.nil⟩, emp, 0, Sl.nil, Sl.nil, Sl.nil⟩ : CReplica)) ⟨(by show emp.size ≤ _; rw [emp_size]; omega), Sl.rd_nil _ _, Sl.rd_nil _ _, Sl.rd_nil _ _, Sl.rd_nil _ _⟩
 refine Mu ?_ Tryz.call138 (fun bs w hS => log_Cut x.log x.state.index w (Rds.kp hx hS.kp).2.1)
 rintro fp1 y1 hF1 hok1
 refine Mdn ((mCut x.log.abs x.state.index).2 = 0) (fun h3 => ?_) fun h3 => ?_
 rotate_left
 · exact Me2 ((show mRCompact x.abs = (zRepl, (mCut x.log.abs x.state.index).2) by unfold mRCompact; rw [if_neg (fun q => q h1), if_neg (show ¬ x.abs.state.index = x.abs.log.base from h2), if_pos (show ¬ (mCut x.abs.log x.abs.state.index).2 = 0 from h3)]; rfl)) (⟨⟨0, Sl.nil⟩, emp, 0, Sl.nil, Sl.nil, Sl.nil⟩ : CReplica) rfl fun bs w hS => hS.outS (y := (⟨⟨0, Sl.nil⟩, emp, 0, Sl.nil, Sl.nil, Sl.nil⟩ : CReplica)) ⟨(by show emp.size ≤ _; rw [emp_size]; omega), Sl.rd_nil _ _, Sl.rd_nil _ _, Sl.rd_nil _ _, Sl.rd_nil _ _⟩
 refine Mp ?_ Tryz.call19 (fun bs w hS => snap_Encode x.state w ⟨(Rds.kp hx hS.kp).2.2.1, (Rds.kp hx hS.kp).2.2.2.1, (Rds.kp hx hS.kp).2.2.2.2⟩)
 refine Mdn ((mSnap x.state.abs).2 = 0) (fun h4 => ?_) fun h4 => ?_
 rotate_left
 · exact absurd (mSnap_ok (s := x.state.abs) hp2) h4
 refine Mu ?_ Tryz.call40 (fun bs w hS => replica_Copy x w (Rds.kp hx hS.kp) (small_repl (by assumption)))
 rintro fp2 y2 hF2 hok2
 refine Mt [.agg #[vi y1.base, y1.entries.val, vs (mSnap x.state.abs).1, vi y2.state.index, y2.state.locks.val, y2.state.pairs.val, y2.state.sessions.val], vi 0] fun bs w hS => ?_
 have hm : mRCompact x.abs = (⟨(mCut x.log.abs x.state.index).1, (mSnap x.state.abs).1, x.state.abs⟩, 0) := by grind [mRCompact]
 have hs2 : y2.state.abs = x.state.abs := congrArg DReplica.state hF2
 have hp := (show Rds.sub (· ∈ (allR [subR fp2 y2, subR fp1 y1]).fp) w y2 from allR_sub (y := y2) i0 (hS.res _ i0))
 refine ⟨(⟨y1, (mSnap x.state.abs).1, y2.state⟩ : CReplica), ?_, ?_, hS.outS (y := (⟨y1, (mSnap x.state.abs).1, y2.state⟩ : CReplica)) ⟨mSnap_size _, (show Rds.sub (· ∈ (allR [subR fp2 y2, subR fp1 y1]).fp) w y1 from allR_sub (y := y1) i1 (hS.res _ i1)), hp.2.2⟩⟩
 · rw [hm]; rfl
 · rw [hm]; show (⟨y1.abs, _, y2.state.abs⟩ : DReplica) = _; rw [hF1, hs2]
theorem replica_Hear {B B' : Nat → Prop} (x : CReplica) (n : Int) (m : Sl ByteArray) (w : World) (hx : Rds.sub B w x) (hm : m.rd B' w) : Calls Tryz.prog 130 #[x.val, vi n, m.val] w fun e w' => ∃ y : CReplica, e = .returned (.tuple #[y.val, vi (mRHear x.abs n m.xs).2]) ∧ y.abs = (mRHear x.abs n m.xs).1 ∧ FreshS w w' y := by
 have qL : x.abs.log = x.log.abs := rfl
 have qS : x.abs.state = x.state.abs := rfl
 have qN : x.abs.snap = x.snap := rfl
 have qB : x.abs.log.base = x.log.base := rfl
 have qI : x.abs.state.index = x.state.index := rfl
 have qM : mLast x.abs.log = x.log.base + (x.log.entries.n : Int) := rfl
 have okx := Rds.okof hx
 have okl := okx.2.1
 have ncx := Sl.ok.nc okl
 have hnx : x.log.entries.n = x.log.entries.xs.length := rfl
 have okm := Sl.rd.ok hm
 have ncm := Sl.ok.nc okm
 have hmx : m.n = m.xs.length := rfl
 refine M0 ?_ Tryz.func130
 refine Mp ?_ Tryz.call137 (fun bs w hS => replica_Check x w (Rds.kp hx hS.kp))
 refine Mdn (mReplica x.abs = 0) (fun h1 => ?_) fun h1 => ?_
 rotate_left
 · exact Me2 (rhear_bad (n := n) (m := m.xs) h1) (⟨⟨0, Sl.nil⟩, emp, 0, Sl.nil, Sl.nil, Sl.nil⟩ : CReplica) rfl fun bs w hS => hS.outS (y := (⟨⟨0, Sl.nil⟩, emp, 0, Sl.nil, Sl.nil, Sl.nil⟩ : CReplica)) ⟨(by show emp.size ≤ _; rw [emp_size]; omega), Sl.rd_nil _ _, Sl.rd_nil _ _, Sl.rd_nil _ _, Sl.rd_nil _ _⟩
 obtain ⟨hp1, hp2, hp3, hp4, hp5⟩ := mReplica_parts h1
 obtain ⟨hb1, hb2, hb3, hb4⟩ := mLog_bd hp1
 have hb6 : x.abs.log.entries = x.log.entries.xs := rfl
 rw [qB] at hb1 hb2 hp3
 rw [qI] at hp3 hp4
 rw [qM] at hp4
 rw [hb6] at hb3
 refine Mu ?_ Tryz.call150 (fun bs w hS => log_Put x.log n m w (Rds.kp hx hS.kp).2.1 (Sl.rd.kp hm hS.kp))
 rintro fp1 y1 hF1 hok1
 refine Mdn ((mPut x.log.abs n m.xs).2 = 0) (fun h2 => ?_) fun h2 => ?_
 rotate_left
 · exact Me2 (rhear_put (r := x.abs) (n := n) (m := m.xs) h1 h2) (⟨⟨0, Sl.nil⟩, emp, 0, Sl.nil, Sl.nil, Sl.nil⟩ : CReplica) rfl fun bs w hS => hS.outS (y := (⟨⟨0, Sl.nil⟩, emp, 0, Sl.nil, Sl.nil, Sl.nil⟩ : CReplica)) ⟨(by show emp.size ≤ _; rw [emp_size]; omega), Sl.rd_nil _ _, Sl.rd_nil _ _, Sl.rd_nil _ _, Sl.rd_nil _ _⟩
 obtain ⟨hq1, hq2⟩ := mPut_in h2 hp1
 have hyb : y1.base = x.log.base := (congrArg DLog.base hF1).trans hq1
 have hyn : y1.entries.xs.length ≤ 400 := by rw [← (congrArg DLog.entries hF1)] at hq2; exact hq2
 have hynn : y1.entries.n = y1.entries.xs.length := rfl
 have ncy := Sl.ok.nc (show y1.entries.ok from hok1)
 refine Mi ?_ (pR (x.log.base + 1))
 refine Ml (σ := Nat) (fun j => j ≤ (x.state.index - x.log.base).toNat ∧ allTo (agreeTo y1.entries.xs x.log.entries.xs) j = true) (fun j => (x.state.index - x.log.base).toNat - j) (fun j => [subR fp1 y1]) [11, 9, 6, 3] (fun j => [(11, vI (x.log.base + 1 + (j : Int)))]) (fun _ => []) ?_ 0 ⟨Nat.zero_le _, rfl⟩ (hp := (by try simp only [Int.add_zero, Int.natCast_zero]; kernel_rfl))
 rintro j ⟨hj0, hI⟩ _ on1
 refine Md (x.log.base + 1 + (j : Int) ≤ x.state.index) (fun h3 => ?_) fun h3 => ?_
 rotate_left
 · refine Mu ?_ Tryz.call40 (fun bs w hS => replica_Copy x w (Rds.kp hx hS.kp) (small_repl (by assumption)))
   rintro fp2 y2 hF2 hok2
   refine Mt [.agg #[vi y1.base, y1.entries.val, vs y2.snap, vi y2.state.index, y2.state.locks.val, y2.state.pairs.val, y2.state.sessions.val], vi 0] fun bs w hS => ?_
   have hja : j = (x.abs.state.index - x.abs.log.base).toNat := by rw [qI, qB]; omega
   have hm := rhear_ok (r := x.abs) (n := n) (m := m.xs) h1 h2 (congrArg DLog.entries hF1) (by rw [← hja]; exact hI)
   have hs2 : y2.state.abs = x.state.abs := congrArg DReplica.state hF2
   have hn2 : y2.snap = x.snap := congrArg DReplica.snap hF2
   have hp := (show Rds.sub (· ∈ (allR [subR fp2 y2, subR fp1 y1]).fp) w y2 from allR_sub (y := y2) i0 (hS.res _ i0))
   refine ⟨(⟨y1, y2.snap, y2.state⟩ : CReplica), ?_, ?_, hS.outS (y := (⟨y1, y2.snap, y2.state⟩ : CReplica)) ⟨hp.1, (show Rds.sub (· ∈ (allR [subR fp2 y2, subR fp1 y1]).fp) w y1 from allR_sub (y := y1) i1 (hS.res _ i1)), hp.2.2⟩⟩
   · rw [hm]; rfl
   · rw [hm]; show (⟨y1.abs, y2.snap, y2.state.abs⟩ : DReplica) = _; rw [hF1, hn2, hs2]; rfl
 refine Mdr 27 ?_ Tryz_mixed
 refine Mp ?_ Tryz.call14 (fun bs w hS => log_Last y1 w (hS.res _ i0) (by first | exact ⟨by omega, by omega, by omega⟩ | omega))
 refine Md (y1.base + (y1.entries.n : Int) < x.log.base + 1 + (j : Int)) (fun h4 => ?_) fun h4 => ?_
 · refine Mz ?_
   have hj : j < (x.abs.state.index - x.abs.log.base).toNat := by rw [qI, qB]; omega
   have ha := agree_out (a := y1.entries) (b := x.log.entries) (j := j) (by omega)
   exact Me2 (rhear_off (r := x.abs) (n := n) (m := m.xs) h1 h2 (congrArg DLog.entries hF1) hj ha) (⟨⟨0, Sl.nil⟩, emp, 0, Sl.nil, Sl.nil, Sl.nil⟩ : CReplica) rfl fun bs w hS => hS.outS (y := (⟨⟨0, Sl.nil⟩, emp, 0, Sl.nil, Sl.nil, Sl.nil⟩ : CReplica)) ⟨(by show emp.size ≤ _; rw [emp_size]; omega), Sl.rd_nil _ _, Sl.rd_nil _ _, Sl.rd_nil _ _, Sl.rd_nil _ _⟩
 refine Mih ?_ (pc (pR ((x.log.base + 1 + (j : Int)) - y1.base)) (pc (pR (((x.log.base + 1 + (j : Int)) - y1.base) - 1)) (pc (pA 53 54 (((x.log.base + 1 + (j : Int)) - y1.base) - 1) (((x.log.base + 1 + (j : Int)) - y1.base) - 1).toNat (s := y1.entries) (fun w hk hr => (hr _ i0))) (pc (pR ((x.log.base + 1 + (j : Int)) - x.log.base)) (pc (pR (((x.log.base + 1 + (j : Int)) - x.log.base) - 1)) (pA 64 65 (((x.log.base + 1 + (j : Int)) - x.log.base) - 1) (((x.log.base + 1 + (j : Int)) - x.log.base) - 1).toNat (s := x.log.entries) (fun w hk hr => (Rds.kp hx hk).2.1)))))))
 refine Mz ?_
 refine Mdn ((y1.entries.at (((x.log.base + 1 + (j : Int)) - y1.base) - 1).toNat) = (x.log.entries.at (((x.log.base + 1 + (j : Int)) - x.log.base) - 1).toNat)) (fun h5 => ?_) fun h5 => ?_
 · refine Mi ?_ (pR ((x.log.base + 1 + (j : Int)) + 1))
   have ha := agree_at (a := y1.entries) (b := x.log.entries) (j := j) (by omega) (by omega) (by show j < y1.entries.xs.length; omega) h5
   exact on1 (j + 1) ⟨by omega, allTo_step hI ha⟩ (by show (x.state.index - x.log.base).toNat - (j + 1) < (x.state.index - x.log.base).toNat - j; omega) (hp := (by (try dsimp only); rw [show x.log.base + 1 + ((j + 1 : Nat) : Int) = x.log.base + 1 + (j : Int) + 1 by omega]; kernel_rfl))
 have hj : j < (x.abs.state.index - x.abs.log.base).toNat := by rw [qI, qB]; omega
 have ha := agree_ne (a := y1.entries) (b := x.log.entries) (j := j) (by omega) (by omega) h5
 exact Me2 (rhear_off (r := x.abs) (n := n) (m := m.xs) h1 h2 (congrArg DLog.entries hF1) hj ha) (⟨⟨0, Sl.nil⟩, emp, 0, Sl.nil, Sl.nil, Sl.nil⟩ : CReplica) rfl fun bs w hS => hS.outS (y := (⟨⟨0, Sl.nil⟩, emp, 0, Sl.nil, Sl.nil, Sl.nil⟩ : CReplica)) ⟨(by show emp.size ≤ _; rw [emp_size]; omega), Sl.rd_nil _ _, Sl.rd_nil _ _, Sl.rd_nil _ _, Sl.rd_nil _ _⟩
theorem log_Behind {B : Nat → Prop} (x : CLog) (n m : Int) (w : World) (hx : Rds.sub B w x) : Calls Tryz.prog 135 #[x.val, vi n, vi m] w fun e w' => ∃ y : Sl ByteArray, e = .returned (.tuple #[y.val, vi (mBehind x.abs n m).2]) ∧ y.xs = (mBehind x.abs n m).1 ∧ FreshS w w' y := by
 have okx := Rds.okof hx
 have ncx := Sl.ok.nc okx
 have hnx : x.entries.n = x.entries.xs.length := rfl
 have hla : mLast x.abs = x.base + (x.entries.n : Int) := rfl
 have q1 : x.abs.base = x.base := rfl
 have q2 : x.abs.entries = x.entries.xs := rfl
 have hat : ∀ q, x.entries.xs.getD q default = x.entries.at q := fun _ => rfl
 refine M0 ?_ Tryz.func135
 refine Mp ?_ Tryz.call152 (fun bs w hS => log_Check x w (Rds.kp hx hS.kp))
 refine Mdn (mLog x.abs = 0) (fun h1 => ?_) fun h1 => ?_
 rotate_left
 · have hm : mBehind x.abs n m = ([], mLog x.abs) := by grind [mBehind]
   exact Me2 hm Sl.nil rfl fun bs w hS => hS.outS (Sl.rd_nil _ _)
 obtain ⟨hb1, hb2, hb3, hb4⟩ := mLog_bd h1
 rw [q1] at hb1 hb2
 rw [q2] at hb3
 refine Md (n < x.base) (fun h2 => ?_) fun h2 => ?_
 · have hm : mBehind x.abs n m = ([], 2) := by grind [mBehind]
   exact Me2 hm Sl.nil rfl fun bs w hS => hS.outS (Sl.rd_nil _ _)
 refine Md (m < 0) (fun h3 => ?_) fun h3 => ?_
 · have hm : mBehind x.abs n m = ([], 2) := by grind [mBehind]
   exact Me2 hm Sl.nil rfl fun bs w hS => hS.outS (Sl.rd_nil _ _)
 refine Mp ?_ Tryz.call14 (fun bs w hS => log_Last x w (Rds.kp hx hS.kp) (by first | exact ⟨by omega, by omega, by omega⟩ | omega))
 refine Md (x.base + (x.entries.n : Int) ≤ n) (fun h4 => ?_) fun h4 => ?_
 · refine Mt [vn, vi 0] fun bs w hS => ?_
   have hm : mBehind x.abs n m = ([], 0) := by unfold mBehind; rw [if_neg (by simpa using (by assumption : mLog _ = 0)), q1]; first | rw [if_pos (by omega)] | (rw [if_neg (by omega), q2, List.drop_eq_nil_of_le (by omega), List.take_nil])
   refine ⟨Sl.nil, ?_, ?_, hS.outS (Sl.rd_nil _ _)⟩
   · rw [hm]; rfl
   · rw [hm]; rfl
 refine Mi ?_ (pc (pR (n - x.base)) (pG [(33, .sl (n - x.base).toNat x.entries.n)] (oc ((by omega) : n - x.base = (((n - x.base).toNat : Nat) : Int)) (oc (rfl : x.entries.n = x.entries.n) (oc ((by omega) : (n - x.base).toNat ≤ x.entries.n) on)))))
 refine Mmin ?_ (a := m) (b := ((x.entries.n - (n - x.base).toNat : Nat) : Int)) rfl
 refine Mi ?_ (pG [(39, .sl 0 (if m.toNat < x.entries.n - (n - x.base).toNat then m.toNat else x.entries.n - (n - x.base).toNat))] (oc (rfl : 0 = 0) (oc ((by split <;> split <;> omega) : (if ((x.entries.n - (n - x.base).toNat : Nat) : Int) < m then ((x.entries.n - (n - x.base).toNat : Nat) : Int) else m) = (((if m.toNat < x.entries.n - (n - x.base).toNat then m.toNat else x.entries.n - (n - x.base).toNat) : Nat) : Int)) (oc ((by split <;> omega) : (if m.toNat < x.entries.n - (n - x.base).toNat then m.toNat else x.entries.n - (n - x.base).toNat) ≤ x.entries.c - (n - x.base).toNat) on))))
 refine Mf ?_ (vs := fun bs => [.slice (if x.entries.c = (n - x.base).toNat then x.entries.A else x.entries.A.map (·.add ((n - x.base).toNat * 1))) (if m.toNat < x.entries.n - (n - x.base).toNat then m.toNat else x.entries.n - (n - x.base).toNat) (x.entries.c - (n - x.base).toNat)]) Tryz.call116 (fun bs w hS => cloneS_ByteArray _ _ _ ((x.entries.xs.drop (n - x.base).toNat).take (if m.toNat < x.entries.n - (n - x.base).toNat then m.toNat else x.entries.n - (n - x.base).toNat)) w (by rw [List.length_take, (show (x.entries.xs.drop (n - x.base).toNat).length = x.entries.n - (n - x.base).toNat from List.length_drop ..)]; first | omega | (split <;> omega)) (SrcAt.takeL (Sl.rd.srcDrop (s := x.entries) (Rds.kp hx hS.kp) (by omega)) (by split <;> omega)) (by split <;> omega))
 rintro y1 hF1
 refine Mt [y1.val, vi 0] fun bs w hS => ?_
 have hm : mBehind x.abs n m = ((x.entries.xs.drop (n - x.base).toNat).take m.toNat, 0) := by grind [mBehind]
 have hmt : y1.xs = (x.entries.xs.drop (n - x.base).toNat).take m.toNat := by rw [hF1]; exact take_min (by rw [List.length_drop]; first | done | omega)
 have hsz : ∀ z, z ∈ y1.xs → z.size ≤ 9223372036854775807 := fun z hz => Sl.rd.mem (s := x.entries) hx z (List.mem_of_mem_drop (List.mem_of_mem_take (hmt ▸ hz)))
 refine ⟨⟨y1.A, y1.c, y1.xs⟩, ?_, ?_, hS.outS (y := (⟨y1.A, y1.c, y1.xs⟩ : Sl ByteArray)) (allR_row i0 (hS.res _ i0) hsz)⟩
 · rw [hm]; rfl
 · rw [hm]; exact hmt
theorem cl_agreed (b : Nat) (f : List Nat) (t : CTown) (k : Int) (w : World) (hO : Ow (townR tK b f t) w) (hk : townOk t.abs) (h0 : 0 ≤ k) (h2 : k ≤ 2) : Calls Tryz.prog 107 #[.pointer (some (⟨b, 0, none⟩ : Addr)), vi k] w fun e w' => e = .returned (vi (t.abs.agr k)) ∧ Kp [] w w' := by
 have hkt := town_ok hO.1
 obtain ⟨q1, q2, q3, q4, q5, q6⟩ := town_facts hk
 have ncr := Sl.ok.nc hkt.1
 have nck := Sl.ok.nc hkt.2.2.2
 have ncm := Sl.ok.nc hkt.2.2.1
 have ncc := Sl.ok.nc hkt.2.1
 obtain ⟨r1, r2, r3, r4, r5, r6⟩ := rep_facts hk (i := k.toNat) (by omega)
 obtain ⟨s1, s2, s3, s4, s5, s6⟩ := rep_facts hk (i := t.lead.toNat) (by omega)
 refine M0 ?_ Tryz.func107
 refine Mi ?_ (pc (pT 15 0 1 (fun w hk hr => (hO.kp hk))) (pc (pI 17 k (k).toNat (s := t.r) (fun w hk hr => (town_r (hO.kp hk)))) (pF 19 (k).toNat 0 2 (s := t.r) (fun w hk hr => (town_r (hO.kp hk))))))
 refine Mda 12 [] [] [] Tryz_mixed ?_
 refine Mih ?_ (pc (pT 23 0 1 (fun w hk hr => (hO.kp hk))) (pc (pT 27 4 1 (fun w hk hr => (hO.kp hk))) (pc (pI 28 t.lead (t.lead).toNat (s := t.r) (fun w hk hr => (town_r (hO.kp hk)))) (pF 30 (t.lead).toNat 0 2 (s := t.r) (fun w hk hr => (town_r (hO.kp hk)))))))
 refine Ml (σ := Nat) (fun j => agrI t k.toNat j) (fun j => (t.r.at k.toNat).log.entries.n - j) (fun _ => []) [36, 35, 34, 7, 6, 0] (fun j => [(36, vI (j : Int)), (7, vI ((t.r.at k.toNat).log.base + (j : Int)))]) (fun _ => []) ?_ 0 (agrI_0 t _) (hp := (by try simp only [Int.add_zero, Int.natCast_zero]; kernel_rfl))
 rintro j hI _ on1
 have hj := hI.1
 refine Md ((j : Int) < (((t.r.at (k).toNat).log.entries.n : Nat) : Int)) (fun h1 => ?_) fun h1 => ?_
 rotate_left
 · exact Me0 ((t.r.at k.toNat).log.base + (j : Int)) (by rw [agrI_all (t := t) (k := k) (i := k.toNat) (by omega) hI (by omega)])
 refine Mi ?_ (pc (pA 38 39 (j : Int) j (s := (t.r.at (k).toNat).log.entries) (fun w hk hr => (Sl.rd.sub (s := t.r) (i := (k).toNat) (town_r (hO.kp hk)) (by omega)).2.1)) (pT 44 3 1 (fun w hk hr => (hO.kp hk))))
 refine Md ((t.r.at k.toNat).log.base + (j : Int) < (t.com.n : Int)) (fun h2 => ?_) fun h2 => ?_
 · refine Mi ?_ (pc (pT 50 3 1 (fun w hk hr => (hO.kp hk))) (pA 52 53 ((t.r.at k.toNat).log.base + (j : Int)) ((t.r.at k.toNat).log.base + (j : Int)).toNat (s := t.com) (fun w hk hr => (town_k (hO.kp hk)))))
   refine Mdn (((t.r.at (k).toNat).log.entries.at j) = (t.com.at ((t.r.at k.toNat).log.base + (j : Int)).toNat)) (fun h3 => ?_) fun h3 => ?_
   rotate_left
   · exact Me0 ((t.r.at k.toNat).log.base + (j : Int)) (by rw [agrI_bad (t := t) (k := k) (i := k.toNat) (by omega) hI (okAt_no (right_com (t := t) (z := (t.r.at k.toNat).log.base + (j : Int)) (i := ((t.r.at k.toNat).log.base + (j : Int)).toNat) (by omega) (by omega)) (fun q => h3 (Option.some.inj q).symm))])
   refine Mi ?_ (pc (pR (((t.r.at k.toNat).log.base + (j : Int)) + 1)) (pR ((j : Int) + 1)))
   exact on1 (j + 1) (agrI_next hI (by omega) ((right_com (t := t) (z := (t.r.at k.toNat).log.base + (j : Int)) (i := ((t.r.at k.toNat).log.base + (j : Int)).toNat) (by omega) (by omega)).trans (congrArg some h3.symm))) (by show (t.r.at k.toNat).log.entries.n - (j + 1) < (t.r.at k.toNat).log.entries.n - j; omega) (hp := (by (try dsimp only); rw [show (t.r.at k.toNat).log.base + ((j + 1 : Nat) : Int) = (t.r.at k.toNat).log.base + (j : Int) + 1 by omega]; kernel_rfl))
 refine Mi ?_ (pR (((t.r.at k.toNat).log.base + (j : Int)) - (t.r.at (t.lead).toNat).log.base))
 refine Md (((t.r.at k.toNat).log.base + (j : Int)) - (t.r.at (t.lead).toNat).log.base < (((t.r.at (t.lead).toNat).log.entries.n : Nat) : Int)) (fun h4 => ?_) fun h4 => ?_
 rotate_left
 · refine Mdn (((t.r.at (k).toNat).log.entries.at j) = emp) (fun h6 => ?_) fun h6 => ?_
   · exact absurd h6 (ent_ne hk (by omega) (by omega))
   exact Me0 ((t.r.at k.toNat).log.base + (j : Int)) (by rw [agrI_bad (t := t) (k := k) (i := k.toNat) (by omega) hI (okAt_no (right_none hk (d := t.lead.toNat) (by omega) (z := (t.r.at k.toNat).log.base + (j : Int)) (by omega) (by omega)) (fun q => by cases q))])
 refine Mi ?_ (pA 66 67 (((t.r.at k.toNat).log.base + (j : Int)) - (t.r.at (t.lead).toNat).log.base) (((t.r.at k.toNat).log.base + (j : Int)) - (t.r.at (t.lead).toNat).log.base).toNat (s := (t.r.at (t.lead).toNat).log.entries) (fun w hk hr => (Sl.rd.sub (s := t.r) (i := (t.lead).toNat) (town_r (hO.kp hk)) (by omega)).2.1))
 refine Mdn (((t.r.at (k).toNat).log.entries.at j) = ((t.r.at (t.lead).toNat).log.entries.at (((t.r.at k.toNat).log.base + (j : Int)) - (t.r.at (t.lead).toNat).log.base).toNat)) (fun h5 => ?_) fun h5 => ?_
 rotate_left
 · exact Me0 ((t.r.at k.toNat).log.base + (j : Int)) (by rw [agrI_bad (t := t) (k := k) (i := k.toNat) (by omega) hI (okAt_no (right_top hk (d := t.lead.toNat) (by omega) (i := (((t.r.at k.toNat).log.base + (j : Int)) - (t.r.at t.lead.toNat).log.base).toNat) (z := (t.r.at k.toNat).log.base + (j : Int)) (by omega) (by omega) (by omega)) (fun q => h5 (Option.some.inj q).symm))])
 refine Mi ?_ (pc (pR (((t.r.at k.toNat).log.base + (j : Int)) + 1)) (pR ((j : Int) + 1)))
 exact on1 (j + 1) (agrI_next hI (by omega) ((right_top hk (d := t.lead.toNat) (by omega) (i := (((t.r.at k.toNat).log.base + (j : Int)) - (t.r.at t.lead.toNat).log.base).toNat) (z := (t.r.at k.toNat).log.base + (j : Int)) (by omega) (by omega) (by omega)).trans (congrArg some h5.symm))) (by show (t.r.at k.toNat).log.entries.n - (j + 1) < (t.r.at k.toNat).log.entries.n - j; omega) (hp := (by (try dsimp only); rw [show (t.r.at k.toNat).log.base + ((j + 1 : Nat) : Int) = (t.r.at k.toNat).log.base + (j : Int) + 1 by omega]; kernel_rfl))
theorem cl_commit (b : Nat) (f : List Nat) (t : CTown) (w : World) (hO : Ow (townR tK b f t) w) (hk : townOk t.abs) : Calls Tryz.prog 108 #[.pointer (some (⟨b, 0, none⟩ : Addr))] w fun e w' => ∃ y : List Nat × CTown, e = .returned (.tuple #[]) ∧ y.2.abs = t.abs.commit ∧ Turned (townR tK b f t) w w' (townR tK b y.1 y.2) := by
 have hkt := town_ok hO.1
 obtain ⟨q1, q2, q3, q4, q5, q6⟩ := town_facts hk
 have ncr := Sl.ok.nc hkt.1
 have nck := Sl.ok.nc hkt.2.2.2
 have ncm := Sl.ok.nc hkt.2.2.1
 have ncc := Sl.ok.nc hkt.2.1
 obtain ⟨s1, s2, s3, s4, s5, s6⟩ := rep_facts hk (i := t.lead.toNat) (by omega)
 refine Mj ?_ Tryz.func108 hO.start
 refine Mi ?_ (pT 8 0 1 (fun w hk hr => (hr _ i0)))
 refine Ml (σ := Nat) (fun i => i ≤ 3) (fun i => 3 - i) (fun i => [townR tK b f t]) [10, 9, 2, 0] (fun i => [(10, vI (i : Int)), (2, vI (mostTo t.abs i))]) (fun _ => []) ?_ 0 (Nat.zero_le _)
 rintro i hi _ on1
 refine Md ((i : Int) < (t.r.n : Int)) (fun h1 => ?_) fun h1 => ?_
 · refine Mi ?_ (pT 17 4 1 (fun w hk hr => (hr _ i0)))
   refine Mdn ((i : Int) = t.lead) (fun h2 => ?_) fun h2 => ?_
   · refine Mi ?_ (pR ((i : Int) + 1))
     exact on1 (i + 1) (by omega) (by show 3 - (i + 1) < 3 - i; omega) (hp := (by (try dsimp only); rw [mostTo_out h2]; kernel_rfl))
   refine Mp ?_ Tryz.call107 (fun bs w hS => cl_agreed b f t (i : Int) w (hS.ow i0) hk (by omega) (by omega))
   have ha1 := agr_bd hk (k := (i : Int)) (by omega) (by omega)
   refine Mmax ?_ (a := mostTo t.abs i) (b := t.abs.agr (i : Int)) rfl
   refine Mi ?_ (pR ((i : Int) + 1))
   exact on1 (i + 1) (by omega) (by show 3 - (i + 1) < 3 - i; omega) (hp := (by (try dsimp only); rw [mostTo_in h2]; kernel_rfl))
 refine Mdr 12 ?_ Tryz_mixed
 refine Mih ?_ (pc (pT 28 0 1 (fun w hk hr => (hr _ i0))) (pc (pT 32 4 1 (fun w hk hr => (hr _ i0))) (pc (pI 33 t.lead (t.lead).toNat (s := t.r) (fun w hk hr => (town_r (hr _ i0)))) (pF 35 (t.lead).toNat 0 2 (s := t.r) (fun w hk hr => (town_r (hr _ i0)))))))
 refine Mz ?_
 have hi3 : i = 3 := by omega
 subst hi3
 have hU := mostTo_top hk
 refine m_town ?_
 refine Ml (σ := Nat × Option Addr × Nat × List ByteArray) (fun ⟨m, A, c, L⟩ => growI t (mostTo t.abs 3) m L) (fun ⟨m, A, c, L⟩ => ((mostTo t.abs 3) - (m : Int) - (t.com.n : Int)).toNat) (fun ⟨m, A, c, L⟩ => [blkR b 108 [t.r.val, t.c.val, t.mails.val, .slice A L.length c, vi t.lead], rowA 40 t.r.A t.r.c (t.r.xs : List CReplica), rowA 111 t.c.A t.c.c (t.c.xs : List CCustomer), rowA 65 t.mails.A t.mails.c (t.mails.xs : List DMail), rowA 9 A c (L : List ByteArray), townS f t.r.xs t.c.xs t.mails.xs t.com.xs]) [4, 2, 0] (fun _ => []) (fun _ => []) ?_ (⟨0, t.com.A, t.com.c, t.com.xs⟩) (growI_0 t _)
 rintro ⟨m, A, c, L⟩ hI _ on2
 have hL := hI.2.1
 refine Mi ?_ (pBk 39 3 1 i0)
 refine Md ((L.length : Int) < mostTo t.abs 3) (fun h3 => ?_) fun h3 => ?_
 rotate_left
 · have hab : (⟨t.r, t.c, t.mails, ⟨A, c, L⟩, t.lead⟩ : CTown).abs = t.abs.commit := (growI_end hk hI (by omega)).trans (grow_commit hk)
   refine m_towned (K := tK) (⟨t.r, t.c, t.mails, ⟨A, c, L⟩, t.lead⟩ : CTown) (com_small hab hk.commit rfl rfl rfl) ?_
   refine Mt [] fun bs w hS => ?_
   refine ⟨(f, (⟨t.r, t.c, t.mails, ⟨A, c, L⟩, t.lead⟩ : CTown)), ?_, ?_, hS.turned⟩
   · rfl
   · exact hab
 refine Mda 21 [] [] [blkR b 108 [t.r.val, t.c.val, t.mails.val, .slice A L.length c, vi t.lead], rowA 40 t.r.A t.r.c (t.r.xs : List CReplica), rowA 111 t.c.A t.c.c (t.c.xs : List CCustomer), rowA 65 t.mails.A t.mails.c (t.mails.xs : List DMail), townS f t.r.xs t.c.xs t.mails.xs t.com.xs] Tryz_mixed ?_ (hR := (.cons_cons _ (.cons_cons _ (.cons_cons _ (.cons_cons _ (.cons _ (List.Sublist.refl _)))))))
 refine Mih ?_ (pc (pBk 47 3 1 i0) (pc (pBk 53 3 1 i0) (pc (pR ((L.length : Int) - (t.r.at (t.lead).toNat).log.base)) (pA 58 59 ((L.length : Int) - (t.r.at (t.lead).toNat).log.base) ((L.length : Int) - (t.r.at (t.lead).toNat).log.base).toNat (s := (t.r.at (t.lead).toNat).log.entries) (fun w hk hr => (Sl.rd.sub (s := t.r) (i := (t.lead).toNat) (town_r2 (hr _ i1) (hr _ i4)) (by omega)).2.1))))) (hR := (.cons_cons _ (.cons_cons _ (.cons_cons _ (.cons_cons _ (.cons _ (List.Sublist.refl _)))))))
 refine M1 ?_ (hR := (.cons_cons _ (.cons_cons _ (.cons_cons _ (.cons_cons _ (.cons _ (List.Sublist.refl _)))))))
 refine m_f4 ?_
 refine Mal (α := ByteArray) 16 ([((t.r.at (t.lead).toNat).log.entries.at ((L.length : Int) - (t.r.at (t.lead).toNat).log.base).toNat)]) ?_
 intro A2 c2
 refine Mz ?_
 refine m_f1 ?_
 refine Msb 3 [t.r.val, t.c.val, t.mails.val, .slice A2 (L ++ [((t.r.at (t.lead).toNat).log.entries.at ((L.length : Int) - (t.r.at (t.lead).toNat).log.base).toNat)]).length c2, vi t.lead] ?_
 refine m_f5 ?_
 refine m_f2 ?_
 refine m_f5 ?_
 refine m_f5 ?_
 refine m_f5 ?_
 refine m_f5 ?_
 exact on2 ⟨m + 1, A2, c2, L ++ [((t.r.at (t.lead).toNat).log.entries.at ((L.length : Int) - (t.r.at (t.lead).toNat).log.base).toNat)]⟩ (growI_next hI (by omega) (by omega) (by omega) (by omega)) (by show ((mostTo t.abs 3) - ((m + 1 : Nat) : Int) - (t.com.n : Int)).toNat < ((mostTo t.abs 3) - (m : Int) - (t.com.n : Int)).toNat; omega)
theorem cl_post (b : Nat) (t : CTown) (l : Sl DMail) (w : World) (hO : Ow (postR tK b t) w) (hm : t.mails.n ≤ 60) (hl : ∀ w', Kp (postR tK b t).fp w w' → l.rd anyB w') : Calls Tryz.prog 111 #[.pointer (some (⟨b, 0, none⟩ : Addr)), l.val] w fun e w' => ∃ y : Sl DMail, e = .returned (.tuple #[]) ∧ y.xs = l.xs.foldl DTown.post1 t.mails.xs ∧ Turned (postR tK b t) w w' (postR tK b (t.setm y)) := by
 have ncl := Sl.ok.nc (Sl.rd.ok (hl w (Kp.refl _ w)))
 refine Mj ?_ Tryz.func111 hO.start
 refine m_split2 ?_
 refine Ml (σ := Nat × Option Addr × Nat × List DMail) (fun ⟨k, A, c, L⟩ => k ≤ l.n ∧ L = (l.xs.take k).foldl DTown.post1 t.mails.xs) (fun ⟨k, A, c, L⟩ => l.n - k) (fun ⟨k, A, c, L⟩ => [blkR b 108 [t.r.val, t.c.val, .slice A L.length c, t.com.val, vi t.lead], rowA 65 A c (L : List DMail)]) [8, 7, 6, 0] (fun ⟨k, A, c, L⟩ => [(8, vI (k : Int))]) (fun _ => []) ?_ (⟨0, t.mails.A, t.mails.c, t.mails.xs⟩) ⟨Nat.zero_le _, rfl⟩
 rintro ⟨k, A, c, L⟩ hI _ on1
 have hkl := hI.1
 have hL : L.length ≤ 60 := by rw [hI.2]; exact post_le _ hm
 refine Md ((k : Int) < (l.n : Int)) (fun h1 => ?_) fun h1 => ?_
 rotate_left
 · refine m_post (K := tK) (t.setm ⟨A, c, L⟩) ?_
   refine Mt [] fun bs w hS => ?_
   have hL2 : L = l.xs.foldl DTown.post1 t.mails.xs := by rw [hI.2, List.take_of_length_le (show l.n ≤ k by omega)]
   exact ⟨⟨A, c, L⟩, rfl, hL2, hS.turned⟩
 refine Mi ?_ (pc (pA 10 11 (k : Int) k (s := l) (fun w hk hr => (hl _ hk))) (pBk 15 2 1 i0))
 refine Md ((L.length : Int) < 60) (fun h2 => ?_) fun h2 => ?_
 rotate_left
 · refine Mi ?_ (pR ((k : Int) + 1))
   exact on1 ⟨k + 1, A, c, L⟩ ⟨by omega, post_out (by omega) hI.2 (by omega)⟩ (by show l.n - (k + 1) < l.n - k; omega)
 refine Mda 10 [] [] [blkR b 108 [t.r.val, t.c.val, .slice A L.length c, t.com.val, vi t.lead]] Tryz_mixed ?_ (hR := (.cons_cons _ (.cons _ .slnil)))
 refine Mih ?_ (pBk 22 2 1 i0) (hR := (.cons_cons _ (.cons _ .slnil)))
 refine M1 ?_ (hR := (.cons_cons _ (.cons _ .slnil)))
 refine m_f1 ?_
 refine Mal (α := DMail) 48 ([l.at k]) ?_
 intro A1 c1
 refine Mz ?_
 refine m_f1 ?_
 refine Msb 2 [t.r.val, t.c.val, .slice A1 (L ++ [l.at k]).length c1, t.com.val, vi t.lead] ?_
 refine Mi ?_ (pR ((k : Int) + 1))
 exact on1 ⟨k + 1, A1, c1, L ++ [l.at k]⟩ ⟨by omega, post_in (by omega) hI.2 (by omega)⟩ (by show l.n - (k + 1) < l.n - k; omega)
theorem cl_append (b : Nat) (f : List Nat) (t : CTown) (s : ByteArray) (x : Int) (w : World) (hO : Ow (townR tK b f t) w) (hk : townOk t.abs) (hs : s.size ≤ 9223372036854775807) : Calls Tryz.prog 101 #[.pointer (some (⟨b, 0, none⟩ : Addr)), vs s, vi x] w fun e w' => ∃ y : List Nat × CTown, e = .returned (vi (t.abs.added (s, x)).2) ∧ y.2.abs = (t.abs.added (s, x)).1 ∧ Turned (townR tK b f t) w w' (townR tK b y.1 y.2) := by
 have hkt := town_ok hO.1
 obtain ⟨q1, q2, q3, q4, q5, q6⟩ := town_facts hk
 have ncr := Sl.ok.nc hkt.1
 have nck := Sl.ok.nc hkt.2.2.2
 have ncm := Sl.ok.nc hkt.2.2.1
 have ncc := Sl.ok.nc hkt.2.1
 obtain ⟨s1, s2, s3, s4, s5, s6⟩ := rep_facts hk (i := t.lead.toNat) (by omega)
 refine Mj ?_ Tryz.func101 hO.start
 refine Mdn (x = 0) (fun h1 => ?_) fun h1 => ?_
 rotate_left
 · exact Me1 (added_no (t := t) (s := s) h1) (f, t) rfl fun bs w hS => hS.turned
 refine Mdr 11 ?_ Tryz_mixed
 refine Mih ?_ (pc (pT 15 0 1 (fun w hk hr => (hr _ i0))) (pc (pT 19 4 1 (fun w hk hr => (hr _ i0))) (pA 20 21 t.lead (t.lead).toNat (s := t.r) (fun w hk hr => (town_r (hr _ i0))))))
 refine Mz ?_
 refine Mjo (σ := Sl ByteArray × List Nat × CReplica) (fun ⟨y1, fp2, y2⟩ => y1.xs = [s] ∧ Sl.ok y1 ∧ y2.abs = (mRHear (t.r.at (t.lead).toNat).abs ((t.r.at (t.lead).toNat).log.base + ((t.r.at (t.lead).toNat).log.entries.n : Int)) y1.xs).1 ∧ Rds.ok y2) (fun ⟨y1, fp2, y2⟩ => [subR fp2 y2, rowA 9 y1.A y1.c (y1.xs : List ByteArray), townR tK b f t]) [0, 2, 8] (fun ⟨y1, fp2, y2⟩ => [(2, vI (mRHear (t.r.at (t.lead).toNat).abs ((t.r.at (t.lead).toNat).log.base + ((t.r.at (t.lead).toNat).log.entries.n : Int)) y1.xs).2), (8, .p 1 0)]) (fun _ => []) (fun ⟨y1, fp2, y2⟩ => [⟨40, y2.cs⟩]) 1 (fun _ on1 => ?_) ?_
 · refine Mdr 13 ?_ Tryz_mixed
   refine Mbr ?_ ?_
   · refine Mp ?_ Tryz.call14 (fun bs w hS => log_Last (t.r.at (t.lead).toNat).log w (Sl.rd.sub (s := t.r) (i := (t.lead).toNat) (town_r (hS.res _ i0)) (by omega)).2.1 (by first | exact ⟨by omega, by omega, by omega⟩ | omega))
     refine Mbr ?_ ?_
     · have hsub1 : ∀ z, z ∈ ([s] : List ByteArray) → ∀ w, Rds.sub anyB w z := (fun z hz _ => by rw [List.mem_singleton.1 hz]; exact hs)
       refine Mli (α := ByteArray) (e := 9) [s] ?_ hsub1
       intro y1 hx1 hok1
       refine Mbr ?_ ?_ (hR := (.cons _ (List.Sublist.refl _)))
       · refine Mu ?_ Tryz.call130 (fun bs w hS => replica_Hear (t.r.at (t.lead).toNat) ((t.r.at (t.lead).toNat).log.base + ((t.r.at (t.lead).toNat).log.entries.n : Int)) y1 w (Sl.rd.sub (s := t.r) (i := (t.lead).toNat) (town_r (hS.res _ i1)) (by omega)) (Rr (B := anyB) (hS.res _ i0) (fun _ _ => trivial) (fun z hz => hsub1 z (hx1 ▸ hz) _))) (hR := fun _ _ => (.cons _ (.cons _ (List.Sublist.refl _))))
         rintro fp2 y2 hF2 hok2
         refine Mz ?_
         exact on1 ⟨y1, fp2, y2⟩ ⟨hx1, hok1, hF2, hok2⟩
       refine Mu ?_ Tryz.call130 (fun bs w hS => replica_Hear (t.r.at (t.lead).toNat) ((t.r.at (t.lead).toNat).log.base + ((t.r.at (t.lead).toNat).log.entries.n : Int)) y1 w (Sl.rd.sub (s := t.r) (i := (t.lead).toNat) (town_r (hS.res _ i1)) (by omega)) (Rr (B := anyB) (hS.res _ i0) (fun _ _ => trivial) (fun z hz => hsub1 z (hx1 ▸ hz) _))) (hR := fun _ _ => (.cons _ (.cons _ (List.Sublist.refl _))))
       rintro fp3 y3 hF3 hok3
       refine Mz ?_
       exact on1 ⟨y1, fp3, y3⟩ ⟨hx1, hok1, hF3, hok3⟩
     have hsub4 : ∀ z, z ∈ ([s] : List ByteArray) → ∀ w, Rds.sub anyB w z := (fun z hz _ => by rw [List.mem_singleton.1 hz]; exact hs)
     refine Mli (α := ByteArray) (e := 9) [s] ?_ hsub4
     intro y4 hx4 hok4
     refine Mu ?_ Tryz.call130 (fun bs w hS => replica_Hear (t.r.at (t.lead).toNat) ((t.r.at (t.lead).toNat).log.base + ((t.r.at (t.lead).toNat).log.entries.n : Int)) y4 w (Sl.rd.sub (s := t.r) (i := (t.lead).toNat) (town_r (hS.res _ i1)) (by omega)) (Rr (B := anyB) (hS.res _ i0) (fun _ _ => trivial) (fun z hz => hsub4 z (hx4 ▸ hz) _))) (hR := fun _ _ => (.cons _ (.cons _ (List.Sublist.refl _))))
     rintro fp5 y5 hF5 hok5
     refine Mz ?_
     exact on1 ⟨y4, fp5, y5⟩ ⟨hx4, hok4, hF5, hok5⟩
   refine Mbr ?_ ?_
   · have hsub6 : ∀ z, z ∈ ([s] : List ByteArray) → ∀ w, Rds.sub anyB w z := (fun z hz _ => by rw [List.mem_singleton.1 hz]; exact hs)
     refine Mli (α := ByteArray) (e := 9) [s] ?_ hsub6
     intro y6 hx6 hok6
     refine Mbr ?_ ?_ (hR := (.cons _ (List.Sublist.refl _)))
     · refine Mp ?_ Tryz.call14 (fun bs w hS => log_Last (t.r.at (t.lead).toNat).log w (Sl.rd.sub (s := t.r) (i := (t.lead).toNat) (town_r (hS.res _ i1)) (by omega)).2.1 (by first | exact ⟨by omega, by omega, by omega⟩ | omega)) (hR := (.cons _ (List.Sublist.refl _)))
       refine Mbr ?_ ?_ (hR := (.cons _ (List.Sublist.refl _)))
       · refine Mu ?_ Tryz.call130 (fun bs w hS => replica_Hear (t.r.at (t.lead).toNat) ((t.r.at (t.lead).toNat).log.base + ((t.r.at (t.lead).toNat).log.entries.n : Int)) y6 w (Sl.rd.sub (s := t.r) (i := (t.lead).toNat) (town_r (hS.res _ i1)) (by omega)) (Rr (B := anyB) (hS.res _ i0) (fun _ _ => trivial) (fun z hz => hsub6 z (hx6 ▸ hz) _))) (hR := fun _ _ => (.cons _ (.cons _ (List.Sublist.refl _))))
         rintro fp7 y7 hF7 hok7
         refine Mz ?_
         exact on1 ⟨y6, fp7, y7⟩ ⟨hx6, hok6, hF7, hok7⟩
       refine Mu ?_ Tryz.call130 (fun bs w hS => replica_Hear (t.r.at (t.lead).toNat) ((t.r.at (t.lead).toNat).log.base + ((t.r.at (t.lead).toNat).log.entries.n : Int)) y6 w (Sl.rd.sub (s := t.r) (i := (t.lead).toNat) (town_r (hS.res _ i1)) (by omega)) (Rr (B := anyB) (hS.res _ i0) (fun _ _ => trivial) (fun z hz => hsub6 z (hx6 ▸ hz) _))) (hR := fun _ _ => (.cons _ (.cons _ (List.Sublist.refl _))))
       rintro fp8 y8 hF8 hok8
       refine Mz ?_
       exact on1 ⟨y6, fp8, y8⟩ ⟨hx6, hok6, hF8, hok8⟩
     refine Mp ?_ Tryz.call14 (fun bs w hS => log_Last (t.r.at (t.lead).toNat).log w (Sl.rd.sub (s := t.r) (i := (t.lead).toNat) (town_r (hS.res _ i1)) (by omega)).2.1 (by first | exact ⟨by omega, by omega, by omega⟩ | omega)) (hR := (.cons _ (List.Sublist.refl _)))
     refine Mu ?_ Tryz.call130 (fun bs w hS => replica_Hear (t.r.at (t.lead).toNat) ((t.r.at (t.lead).toNat).log.base + ((t.r.at (t.lead).toNat).log.entries.n : Int)) y6 w (Sl.rd.sub (s := t.r) (i := (t.lead).toNat) (town_r (hS.res _ i1)) (by omega)) (Rr (B := anyB) (hS.res _ i0) (fun _ _ => trivial) (fun z hz => hsub6 z (hx6 ▸ hz) _))) (hR := fun _ _ => (.cons _ (.cons _ (List.Sublist.refl _))))
     rintro fp9 y9 hF9 hok9
     refine Mz ?_
     exact on1 ⟨y6, fp9, y9⟩ ⟨hx6, hok6, hF9, hok9⟩
   refine Mbr ?_ ?_
   · refine Mp ?_ Tryz.call14 (fun bs w hS => log_Last (t.r.at (t.lead).toNat).log w (Sl.rd.sub (s := t.r) (i := (t.lead).toNat) (town_r (hS.res _ i0)) (by omega)).2.1 (by first | exact ⟨by omega, by omega, by omega⟩ | omega))
     have hsub10 : ∀ z, z ∈ ([s] : List ByteArray) → ∀ w, Rds.sub anyB w z := (fun z hz _ => by rw [List.mem_singleton.1 hz]; exact hs)
     refine Mli (α := ByteArray) (e := 9) [s] ?_ hsub10
     intro y10 hx10 hok10
     refine Mu ?_ Tryz.call130 (fun bs w hS => replica_Hear (t.r.at (t.lead).toNat) ((t.r.at (t.lead).toNat).log.base + ((t.r.at (t.lead).toNat).log.entries.n : Int)) y10 w (Sl.rd.sub (s := t.r) (i := (t.lead).toNat) (town_r (hS.res _ i1)) (by omega)) (Rr (B := anyB) (hS.res _ i0) (fun _ _ => trivial) (fun z hz => hsub10 z (hx10 ▸ hz) _))) (hR := fun _ _ => (.cons _ (.cons _ (List.Sublist.refl _))))
     rintro fp11 y11 hF11 hok11
     refine Mz ?_
     exact on1 ⟨y10, fp11, y11⟩ ⟨hx10, hok10, hF11, hok11⟩
   have hsub12 : ∀ z, z ∈ ([s] : List ByteArray) → ∀ w, Rds.sub anyB w z := (fun z hz _ => by rw [List.mem_singleton.1 hz]; exact hs)
   refine Mli (α := ByteArray) (e := 9) [s] ?_ hsub12
   intro y12 hx12 hok12
   refine Mp ?_ Tryz.call14 (fun bs w hS => log_Last (t.r.at (t.lead).toNat).log w (Sl.rd.sub (s := t.r) (i := (t.lead).toNat) (town_r (hS.res _ i1)) (by omega)).2.1 (by first | exact ⟨by omega, by omega, by omega⟩ | omega)) (hR := (.cons _ (List.Sublist.refl _)))
   refine Mu ?_ Tryz.call130 (fun bs w hS => replica_Hear (t.r.at (t.lead).toNat) ((t.r.at (t.lead).toNat).log.base + ((t.r.at (t.lead).toNat).log.entries.n : Int)) y12 w (Sl.rd.sub (s := t.r) (i := (t.lead).toNat) (town_r (hS.res _ i1)) (by omega)) (Rr (B := anyB) (hS.res _ i0) (fun _ _ => trivial) (fun z hz => hsub12 z (hx12 ▸ hz) _))) (hR := fun _ _ => (.cons _ (.cons _ (List.Sublist.refl _))))
   rintro fp13 y13 hF13 hok13
   refine Mz ?_
   exact on1 ⟨y12, fp13, y13⟩ ⟨hx12, hok12, hF13, hok13⟩
 rintro ⟨y1, fp2, y2⟩ ⟨hx1, hok1, hF2, hok2⟩
 have hsub1 : ∀ z, z ∈ ([s] : List ByteArray) → ∀ w, Rds.sub anyB w z := (fun z hz _ => by rw [List.mem_singleton.1 hz]; exact hs)
 refine Md ((mRHear (t.r.at (t.lead).toNat).abs ((t.r.at (t.lead).toNat).log.base + ((t.r.at (t.lead).toNat).log.entries.n : Int)) y1.xs).2 = 0) (fun h2 => ?_) fun h2 => ?_
 rotate_left
 · exact Me1 (added_go hk (d := t.lead.toNat) (by omega) rfl s h1 hx1) (f, t) ((if_neg h2).symm) fun bs w hS => hS.f2.turned
 refine Mdr 10 ?_ Tryz_mixed
 refine Mih ?_ (pc (pT 37 0 1 (fun w hk hr => (hr _ i2))) (pc (pT 41 4 1 (fun w hk hr => (hr _ i2))) (pI 43 t.lead (t.lead).toNat (s := t.r) (fun w hk hr => (town_r (hr _ i2))))))
 refine Mz ?_
 refine m_f2 ?_
 refine m_f1 ?_
 refine Mtr (t.lead).toNat ?_
 refine Mt [vi (mRHear (t.r.at (t.lead).toNat).abs ((t.r.at (t.lead).toNat).log.base + ((t.r.at (t.lead).toNat).log.entries.n : Int)) y1.xs).2] fun bs w hS => ?_
 have hm := added_go hk (d := t.lead.toNat) (by omega) rfl s h1 hx1
 refine ⟨((f ++ fp2), (t.setr (t.lead).toNat y2)), ?_, ?_, hS.turned⟩
 · rw [hm]; rfl
 · exact (setr_abs t (k := t.lead) (by omega) y2).trans (by rw [hm, hF2]; exact (if_pos h2).symm)
theorem cl_by (b : Nat) (f : List Nat) (t : CTown) (a : DAct) (w : World) (hO : Ow (townR tK b f t) w) (hk : townOk t.abs) (ha : Rds.sub anyB w a) : Calls Tryz.prog 73 #[.pointer (some (⟨b, 0, none⟩ : Addr)), a.val] w fun e w' => ∃ y : List Nat × CTown, e = .returned (vi (t.abs.byOne a).2) ∧ y.2.abs = (t.abs.byOne a).1 ∧ Turned (townR tK b f t) w w' (townR tK b y.1 y.2) := by
 have hkt := town_ok hO.1
 obtain ⟨q1, q2, q3, q4, q5, q6⟩ := town_facts hk
 have ncr := Sl.ok.nc hkt.1
 have nck := Sl.ok.nc hkt.2.2.2
 have ncm := Sl.ok.nc hkt.2.2.1
 have ncc := Sl.ok.nc hkt.2.1
 have oka := Rds.okof ha
 refine Mj ?_ Tryz.func73 hO.start
 refine Mdr 13 ?_ Tryz_mixed
 refine Md (a.c < 0) (fun h1 => ?_) fun h1 => ?_
 · refine Mz ?_
   exact Me1 (byOne_out (t := t) (a := a) (by omega)) (f, t) rfl fun bs w hS => hS.turned
 refine Mih ?_ (pT 17 1 1 (fun w hk hr => (hr _ i0)))
 refine Mz ?_
 refine Md ((t.c.n : Int) ≤ a.c) (fun h2 => ?_) fun h2 => ?_
 · exact Me1 (byOne_out (t := t) (a := a) (by omega)) (f, t) rfl fun bs w hS => hS.turned
 refine Mdr 9 ?_ Tryz_mixed
 refine Mih ?_ (pc (pT 24 1 1 (fun w hk hr => (hr _ i0))) (pA 27 28 a.c (a.c).toNat (s := t.c) (fun w hk hr => (town_c (hr _ i0)))))
 refine Mz ?_
 refine Md (a.kind = 1) (fun h3 => ?_) fun h3 => ?_
 · refine Mp ?_ Tryz.call102 (fun bs w hS => customer_Hello (t.c.at (a.c).toNat) w (Sl.rd.sub (s := t.c) (i := (a.c).toNat) (town_c (hS.res _ i0)) (by omega)))
   refine Mtu ?_ Tryz.call101 (fun bs w hS => cl_append b f t (mHello (t.c.at (a.c).toNat).abs).1 (mHello (t.c.at (a.c).toNat).abs).2 w (hS.ow i0) hk (by first | exact mHello_size _ | exact mReq_size _ _))
   rintro yt1 hab1
   have hk1 : townOk yt1.2.abs := by rw [hab1]; exact townOk.added hk _
   refine m_know (F := townK yt1.2) (fun bs w hS => town_ok (hS.res _ i0)) fun hkt1 => ?_
   have hm := byOne_in (t := t) (a := a) (i := a.c.toNat) (by omega) (by omega)
   rw [if_pos h3] at hm
   exact Me1 hm (yt1.1, yt1.2) (hab1) fun bs w hS => hS.turned
 refine Md (a.kind = 3) (fun h4 => ?_) fun h4 => ?_
 · refine Mp ?_ Tryz.call103 (fun bs w hS => customer_Request (t.c.at (a.c).toNat) a.k w (Sl.rd.sub (s := t.c) (i := (a.c).toNat) (town_c (hS.res _ i0)) (by omega)))
   refine Mtu ?_ Tryz.call101 (fun bs w hS => cl_append b f t (mReq (t.c.at (a.c).toNat).abs a.k).1 (mReq (t.c.at (a.c).toNat).abs a.k).2 w (hS.ow i0) hk (by first | exact mHello_size _ | exact mReq_size _ _))
   rintro yt3 hab3
   have hk3 : townOk yt3.2.abs := by rw [hab3]; exact townOk.added hk _
   refine m_know (F := townK yt3.2) (fun bs w hS => town_ok (hS.res _ i0)) fun hkt3 => ?_
   have hm := byOne_in (t := t) (a := a) (i := a.c.toNat) (by omega) (by omega)
   rw [if_neg h3, if_pos h4] at hm
   exact Me1 hm (yt3.1, yt3.2) (hab3) fun bs w hS => hS.turned
 refine Mu ?_ Tryz.call104 (fun bs w hS => customer_Start (t.c.at (a.c).toNat) a.op w (Sl.rd.sub (s := t.c) (i := (a.c).toNat) (town_c (hS.res _ i0)) (by omega)) ⟨ha.1, ha.2⟩)
 rintro fp5 y5 hF5 hok5
 refine Md ((mStart (t.c.at (a.c).toNat).abs a.op).2 = 0) (fun h5 => ?_) fun h5 => ?_
 rotate_left
 · have hm := byOne_in (t := t) (a := a) (i := a.c.toNat) (by omega) (by omega)
   rw [if_neg h3, if_neg h4] at hm
   exact Me1 hm (f, t) ((if_neg h5).symm) fun bs w hS => hS.f1.turned
 refine Mdr 8 ?_ Tryz_mixed
 refine Mih ?_ (pc (pT 61 1 1 (fun w hk hr => (hr _ i1))) (pI 65 a.c (a.c).toNat (s := t.c) (fun w hk hr => (town_c (hr _ i1)))))
 refine Mz ?_
 refine Mtc (a.c).toNat ?_
 refine Mt [vi (mStart (t.c.at (a.c).toNat).abs a.op).2] fun bs w hS => ?_
 have hm := byOne_in (t := t) (a := a) (i := a.c.toNat) (by omega) (by omega)
 rw [if_neg h3, if_neg h4] at hm
 refine ⟨((f ++ fp5), (t.setc (a.c).toNat y5)), ?_, ?_, hS.turned⟩
 · rw [hm]; rfl
 · exact (setc_abs t (k := a.c) (by omega) y5).trans (by rw [hm, hF5]; exact (if_pos h5).symm)
theorem cl_ship (b : Nat) (f : List Nat) (t : CTown) (r many : Int) (w : World) (hO : Ow (townR tK b f t) w) (hk : townOk t.abs) (hr0 : 0 ≤ r) (hr2 : r ≤ 2) : Calls Tryz.prog 105 #[.pointer (some (⟨b, 0, none⟩ : Addr)), vi r, vi many] w fun e w' => ∃ y : List Nat × CTown, e = .returned (vi (t.abs.ship r many).2) ∧ y.2.abs = (t.abs.ship r many).1 ∧ Turned (townR tK b f t) w w' (townR tK b y.1 y.2) := by
 have hkt := town_ok hO.1
 obtain ⟨q1, q2, q3, q4, q5, q6⟩ := town_facts hk
 have ncr := Sl.ok.nc hkt.1
 have nck := Sl.ok.nc hkt.2.2.2
 have ncm := Sl.ok.nc hkt.2.2.1
 have ncc := Sl.ok.nc hkt.2.1
 obtain ⟨s1, s2, s3, s4, s5, s6⟩ := rep_facts hk (i := t.lead.toNat) (by omega)
 obtain ⟨r1, r2, r3, r4, r5, r6⟩ := rep_facts hk (i := r.toNat) (by omega)
 refine Mj ?_ Tryz.func105 hO.start
 refine Mi ?_ (pT 17 4 1 (fun w hk hr => (hr _ i0)))
 refine Md (r = t.lead) (fun h1 => ?_) fun h1 => ?_
 · exact Me1 (ship_out (t := t) (r := r) (many := many) (by omega)) (f, t) rfl fun bs w hS => hS.turned
 refine Md (many < 0) (fun h2 => ?_) fun h2 => ?_
 · exact Me1 (ship_out (t := t) (r := r) (many := many) (by omega)) (f, t) rfl fun bs w hS => hS.turned
 refine Mdr 11 ?_ Tryz_mixed
 refine Mih ?_ (pc (pT 26 0 1 (fun w hk hr => (hr _ i0))) (pc (pT 30 4 1 (fun w hk hr => (hr _ i0))) (pA 31 32 t.lead (t.lead).toNat (s := t.r) (fun w hk hr => (town_r (hr _ i0))))))
 refine Mz ?_
 refine Mp ?_ Tryz.call107 (fun bs w hS => cl_agreed b f t r w (hS.ow i0) hk (by omega) (by omega))
 have ha1 := agr_bd hk (k := r) (by omega) (by omega)
 refine Md (t.abs.agr r < (t.r.at (t.lead).toNat).log.base) (fun h3 => ?_) fun h3 => ?_
 · refine Mda 15 [] [1] [townR tK b f t] Tryz_mixed ?_
   refine Mih ?_ (pc (pT 45 0 1 (fun w hk hr => (hr _ i0))) (pA 47 48 r (r).toNat (s := t.r) (fun w hk hr => (town_r (hr _ i0)))))
   refine Mu ?_ Tryz.call134 (fun bs w hS => replica_Install (t.r.at (r).toNat) (t.r.at (t.lead).toNat).snap w (Sl.rd.sub (s := t.r) (i := (r).toNat) (town_r (hS.res _ i0)) (by omega)) (Sl.ok.at (s := t.r) (i := (t.lead).toNat) (hkt.1) (by omega)).1)
   rintro fp2 y2 hF2 hok2
   refine Mz ?_
   refine Md ((mRInstall (t.r.at (r).toNat).abs (t.r.at (t.lead).toNat).snap).2 = 0) (fun h4 => ?_) fun h4 => ?_
   rotate_left
   · have ht := told_inst hk (many := many) (i := r.toNat) (d := t.lead.toNat) (by omega) (by omega) h3
     exact Me1 (ship_in (t := t) (r := r) (many := many) (by omega) ht) (f, t) ((if_neg h4).symm) fun bs w hS => hS.f1.turned
   refine Mdr 7 ?_ Tryz_mixed
   refine Mih ?_ (pc (pT 83 0 1 (fun w hk hr => (hr _ i1))) (pI 86 r (r).toNat (s := t.r) (fun w hk hr => (town_r (hr _ i1)))))
   refine Mz ?_
   have ht := told_inst hk (many := many) (i := r.toNat) (d := t.lead.toNat) (by omega) (by omega) h3
   have hs9 : (t.setr (r).toNat y2).abs = t.abs.set r (t.abs.told r many).1 := (setr_abs t (k := r) (by omega) y2).trans (by rw [ht, hF2])
   have hs8 : (t.abs.told r many).2 = 0 := by rw [ht]; exact h4
   refine Mtr (r).toNat ?_
   have hk3 : townOk (t.setr (r).toNat y2).abs := by rw [hs9]; exact hk.set (hk.told hr0 hr2 hs8)
   refine Mtu ?_ Tryz.call108 (fun bs w hS => cl_commit b (f ++ fp2) (t.setr (r).toNat y2) w (hS.ow i0) hk3)
   rintro yt4 hab4
   have hk4 : townOk yt4.2.abs := by rw [hab4]; exact townOk.commit hk3
   refine m_know (F := townK yt4.2) (fun bs w hS => town_ok (hS.res _ i0)) fun hkt4 => ?_
   refine Mt [vi (mRInstall (t.r.at (r).toNat).abs (t.r.at (t.lead).toNat).snap).2] fun bs w hS => ?_
   have hm := ship_in (t := t) (r := r) (many := many) (by omega) ht
   refine ⟨(yt4.1, yt4.2), ?_, ?_, hS.turned⟩
   · rw [hm]; rfl
   · rw [hm, ← ht]; exact (hab4.trans (congrArg DTown.commit hs9)).trans (if_pos hs8).symm
 refine Mu ?_ Tryz.call135 (fun bs w hS => log_Behind (t.r.at (t.lead).toNat).log (t.abs.agr r) many w (Sl.rd.sub (s := t.r) (i := (t.lead).toNat) (town_r (hS.res _ i0)) (by omega)).2.1)
 rintro fp6 y6 hF6 hok6
 refine Mdn ((mBehind (t.r.at (t.lead).toNat).log.abs (t.abs.agr r) many).2 = 0) (fun h5 => ?_) fun h5 => ?_
 rotate_left
 · have ht := told_bad hk (i := r.toNat) (d := t.lead.toNat) (by omega) (by omega) h3 h5
   exact Me1 (ship_in (t := t) (r := r) (many := many) (by omega) ht) (f, t) ((if_neg h5).symm) fun bs w hS => hS.f1.turned
 refine Mi ?_ (pc (pT 69 0 1 (fun w hk hr => (hr _ i1))) (pA 71 72 r (r).toNat (s := t.r) (fun w hk hr => (town_r (hr _ i1)))))
 refine Mu ?_ Tryz.call130 (fun bs w hS => replica_Hear (t.r.at (r).toNat) (t.abs.agr r) y6 w (Sl.rd.sub (s := t.r) (i := (r).toNat) (town_r (hS.res _ i1)) (by omega)) (hS.res _ i0))
 rintro fp7 y7 hF7 hok7
 refine Md ((mRHear (t.r.at (r).toNat).abs (t.abs.agr r) y6.xs).2 = 0) (fun h6 => ?_) fun h6 => ?_
 rotate_left
 · have ht := told_hear hk (i := r.toNat) (d := t.lead.toNat) (by omega) (by omega) h3 h5 hF6
   exact Me1 (ship_in (t := t) (r := r) (many := many) (by omega) ht) (f, t) ((if_neg h6).symm) fun bs w hS => hS.f2.turned
 refine Mdr 7 ?_ Tryz_mixed
 refine Mih ?_ (pc (pT 83 0 1 (fun w hk hr => (hr _ i2))) (pI 86 r (r).toNat (s := t.r) (fun w hk hr => (town_r (hr _ i2)))))
 refine Mz ?_
 refine m_f2 ?_
 refine m_f1 ?_
 have ht := told_hear hk (i := r.toNat) (d := t.lead.toNat) (by omega) (by omega) h3 h5 hF6
 have hs9 : (t.setr (r).toNat y7).abs = t.abs.set r (t.abs.told r many).1 := (setr_abs t (k := r) (by omega) y7).trans (by rw [ht, hF7])
 have hs8 : (t.abs.told r many).2 = 0 := by rw [ht]; exact h6
 refine Mtr (r).toNat ?_
 have hk8 : townOk (t.setr (r).toNat y7).abs := by rw [hs9]; exact hk.set (hk.told hr0 hr2 hs8)
 refine Mtu ?_ Tryz.call108 (fun bs w hS => cl_commit b (f ++ fp7) (t.setr (r).toNat y7) w (hS.ow i0) hk8)
 rintro yt9 hab9
 have hk9 : townOk yt9.2.abs := by rw [hab9]; exact townOk.commit hk8
 refine m_know (F := townK yt9.2) (fun bs w hS => town_ok (hS.res _ i0)) fun hkt9 => ?_
 refine Mt [vi (mRHear (t.r.at (r).toNat).abs (t.abs.agr r) y6.xs).2] fun bs w hS => ?_
 have hm := ship_in (t := t) (r := r) (many := many) (by omega) ht
 refine ⟨(yt9.1, yt9.2), ?_, ?_, hS.turned⟩
 · rw [hm]; rfl
 · rw [hm, ← ht]; exact (hab9.trans (congrArg DTown.commit hs9)).trans (if_pos hs8).symm
theorem cl_apply (b : Nat) (f : List Nat) (t : CTown) (r many : Int) (w : World) (hO : Ow (townR tK b f t) w) (hk : townOk t.abs) (hr0 : 0 ≤ r) (hr2 : r ≤ 2) : Calls Tryz.prog 106 #[.pointer (some (⟨b, 0, none⟩ : Addr)), vi r, vi many] w fun e w' => ∃ y : List Nat × CTown, e = .returned (vi (t.abs.apply r many).2) ∧ y.2.abs = (t.abs.apply r many).1 ∧ Turned (townR tK b f t) w w' (townR tK b y.1 y.2) := by
 have hkt := town_ok hO.1
 obtain ⟨q1, q2, q3, q4, q5, q6⟩ := town_facts hk
 have ncr := Sl.ok.nc hkt.1
 have nck := Sl.ok.nc hkt.2.2.2
 have ncm := Sl.ok.nc hkt.2.2.1
 have ncc := Sl.ok.nc hkt.2.1
 obtain ⟨s1, s2, s3, s4, s5, s6⟩ := rep_facts hk (i := t.lead.toNat) (by omega)
 obtain ⟨r1, r2, r3, r4, r5, r6⟩ := rep_facts hk (i := r.toNat) (by omega)
 refine Mj ?_ Tryz.func106 hO.start
 refine Md (many < 0) (fun h1 => ?_) fun h1 => ?_
 · exact Me1 (tapply_neg (t := t) (r := r) (many := many) (by omega)) (f, t) rfl fun bs w hS => hS.turned
 refine Mi ?_ (pc (pT 16 0 1 (fun w hk hr => (hr _ i0))) (pc (pI 18 r (r).toNat (s := t.r) (fun w hk hr => (town_r (hr _ i0)))) (pF 21 (r).toNat 3 1 (s := t.r) (fun w hk hr => (town_r (hr _ i0))))))
 refine Mjo (σ := List Nat × CRan) (fun ⟨fp2, y2⟩ => y2.abs = (⟨(mRApply (t.r.at (r).toNat).abs (if t.abs.agr r < (if (t.com.n : Int) < (t.r.at (r).toNat).state.index + (if 400 < many then 400 else many) then (t.com.n : Int) else (t.r.at (r).toNat).state.index + (if 400 < many then 400 else many)) then t.abs.agr r else (if (t.com.n : Int) < (t.r.at (r).toNat).state.index + (if 400 < many then 400 else many) then (t.com.n : Int) else (t.r.at (r).toNat).state.index + (if 400 < many then 400 else many)))).1, (mRApply (t.r.at (r).toNat).abs (if t.abs.agr r < (if (t.com.n : Int) < (t.r.at (r).toNat).state.index + (if 400 < many then 400 else many) then (t.com.n : Int) else (t.r.at (r).toNat).state.index + (if 400 < many then 400 else many)) then t.abs.agr r else (if (t.com.n : Int) < (t.r.at (r).toNat).state.index + (if 400 < many then 400 else many) then (t.com.n : Int) else (t.r.at (r).toNat).state.index + (if 400 < many then 400 else many)))).2.1⟩ : DRan) ∧ Rds.ok y2) (fun ⟨fp2, y2⟩ => [subR fp2 y2, townR tK b f t]) [0, 1, 8, 9, 10] (fun ⟨fp2, y2⟩ => [(8, .p 0 0), (9, .v y2.out.val), (10, vI (mRApply (t.r.at (r).toNat).abs (if t.abs.agr r < (if (t.com.n : Int) < (t.r.at (r).toNat).state.index + (if 400 < many then 400 else many) then (t.com.n : Int) else (t.r.at (r).toNat).state.index + (if 400 < many then 400 else many)) then t.abs.agr r else (if (t.com.n : Int) < (t.r.at (r).toNat).state.index + (if 400 < many then 400 else many) then (t.com.n : Int) else (t.r.at (r).toNat).state.index + (if 400 < many then 400 else many)))).2.2)]) (fun _ => []) (fun ⟨fp2, y2⟩ => [⟨40, y2.repl.cs⟩]) 1 (fun _ on1 => ?_) ?_
 · refine Mdr 29 ?_ Tryz_mixed
   refine Mih ?_ (pc (pT 26 0 1 (fun w hk hr => (hr _ i0))) (pc (pA 28 29 r (r).toNat (s := t.r) (fun w hk hr => (town_r (hr _ i0)))) (pc (pR ((t.r.at (r).toNat).state.index + (if 400 < many then 400 else many))) (pT 37 3 1 (fun w hk hr => (hr _ i0))))))
   refine Mbr ?_ ?_
   · refine Mp ?_ Tryz.call107 (fun bs w hS => cl_agreed b f t r w (hS.ow i0) hk (by omega) (by omega))
     have ha1 := agr_bd hk (k := r) (by omega) (by omega)
     refine Mbr ?_ ?_
     · refine Mu ?_ Tryz.call136 (fun bs w hS => replica_Apply (t.r.at (r).toNat) (if t.abs.agr r < (if (t.com.n : Int) < (t.r.at (r).toNat).state.index + (if 400 < many then 400 else many) then (t.com.n : Int) else (t.r.at (r).toNat).state.index + (if 400 < many then 400 else many)) then t.abs.agr r else (if (t.com.n : Int) < (t.r.at (r).toNat).state.index + (if 400 < many then 400 else many) then (t.com.n : Int) else (t.r.at (r).toNat).state.index + (if 400 < many then 400 else many))) w (Sl.rd.sub (s := t.r) (i := (r).toNat) (town_r (hS.res _ i0)) (by omega)))
       rintro fp2 y2 hF2 hok2
       refine Mz ?_
       exact on1 ⟨fp2, y2⟩ ⟨hF2, hok2⟩
     refine Mu ?_ Tryz.call136 (fun bs w hS => replica_Apply (t.r.at (r).toNat) (if t.abs.agr r < (if (t.com.n : Int) < (t.r.at (r).toNat).state.index + (if 400 < many then 400 else many) then (t.com.n : Int) else (t.r.at (r).toNat).state.index + (if 400 < many then 400 else many)) then t.abs.agr r else (if (t.com.n : Int) < (t.r.at (r).toNat).state.index + (if 400 < many then 400 else many) then (t.com.n : Int) else (t.r.at (r).toNat).state.index + (if 400 < many then 400 else many))) w (Sl.rd.sub (s := t.r) (i := (r).toNat) (town_r (hS.res _ i0)) (by omega)))
     rintro fp3 y3 hF3 hok3
     refine Mz ?_
     exact on1 ⟨fp3, y3⟩ ⟨hF3, hok3⟩
   refine Mp ?_ Tryz.call107 (fun bs w hS => cl_agreed b f t r w (hS.ow i0) hk (by omega) (by omega))
   have ha4 := agr_bd hk (k := r) (by omega) (by omega)
   refine Mu ?_ Tryz.call136 (fun bs w hS => replica_Apply (t.r.at (r).toNat) (if t.abs.agr r < (if (t.com.n : Int) < (t.r.at (r).toNat).state.index + (if 400 < many then 400 else many) then (t.com.n : Int) else (t.r.at (r).toNat).state.index + (if 400 < many then 400 else many)) then t.abs.agr r else (if (t.com.n : Int) < (t.r.at (r).toNat).state.index + (if 400 < many then 400 else many) then (t.com.n : Int) else (t.r.at (r).toNat).state.index + (if 400 < many then 400 else many))) w (Sl.rd.sub (s := t.r) (i := (r).toNat) (town_r (hS.res _ i0)) (by omega)))
   rintro fp5 y5 hF5 hok5
   refine Mz ?_
   exact on1 ⟨fp5, y5⟩ ⟨hF5, hok5⟩
 rintro ⟨fp2, y2⟩ ⟨hF2, hok2⟩
 have ha1 := agr_bd hk (k := r) (by omega) (by omega)
 refine Mdn ((mRApply (t.r.at (r).toNat).abs (if t.abs.agr r < (if (t.com.n : Int) < (t.r.at (r).toNat).state.index + (if 400 < many then 400 else many) then (t.com.n : Int) else (t.r.at (r).toNat).state.index + (if 400 < many then 400 else many)) then t.abs.agr r else (if (t.com.n : Int) < (t.r.at (r).toNat).state.index + (if 400 < many then 400 else many) then (t.com.n : Int) else (t.r.at (r).toNat).state.index + (if 400 < many then 400 else many)))).2.2 = 0) (fun h2 => ?_) fun h2 => ?_
 rotate_left
 · have hu := upto_is (t := t) (i := r.toNat) (r := r) (many := many) (u := (if t.abs.agr r < (if (t.com.n : Int) < (t.r.at (r).toNat).state.index + (if 400 < many then 400 else many) then (t.com.n : Int) else (t.r.at (r).toNat).state.index + (if 400 < many then 400 else many)) then t.abs.agr r else (if (t.com.n : Int) < (t.r.at (r).toNat).state.index + (if 400 < many then 400 else many) then (t.com.n : Int) else (t.r.at (r).toNat).state.index + (if 400 < many then 400 else many)))) (by omega) (by (repeat' split) <;> omega)
   exact Me1 (tapply_bad (t := t) (i := r.toNat) (r := r) (many := many) (by omega) (by omega) hu h2) (f, t) rfl fun bs w hS => hS.f1.turned
 refine Mdr 7 ?_ Tryz_mixed
 refine Mih ?_ (pc (pT 53 0 1 (fun w hk hr => (hr _ i1))) (pI 56 r (r).toNat (s := t.r) (fun w hk hr => (town_r (hr _ i1)))))
 refine Mz ?_
 refine MtrX (r).toNat ?_ (fun w h => ⟨h.1, h.2.1, h.2.2.1, h.2.2.2.1, h.2.2.2.2.1⟩)
 refine Mi ?_ (pT 61 4 1 (fun w hk hr => (hr _ i0).1))
 refine Md (r = t.lead) (fun h3 => ?_) fun h3 => ?_
 rotate_left
 · refine m_unX ?_
   refine Mt [vi 0] fun bs w hS => ?_
   have hu := upto_is (t := t) (i := r.toNat) (r := r) (many := many) (u := (if t.abs.agr r < (if (t.com.n : Int) < (t.r.at (r).toNat).state.index + (if 400 < many then 400 else many) then (t.com.n : Int) else (t.r.at (r).toNat).state.index + (if 400 < many then 400 else many)) then t.abs.agr r else (if (t.com.n : Int) < (t.r.at (r).toNat).state.index + (if 400 < many then 400 else many) then (t.com.n : Int) else (t.r.at (r).toNat).state.index + (if 400 < many then 400 else many)))) (by omega) (by (repeat' split) <;> omega)
   have hm := tapply_go (t := t) (i := r.toNat) (r := r) (many := many) (by omega) (by omega) hu h2 hF2
   refine ⟨((f ++ fp2), (t.setr (r).toNat y2.repl)), ?_, ?_, hS.turned⟩
   · rw [hm]; rfl
   · rw [hm, if_neg h3]; exact setr_abs t (k := r) (by omega) y2.repl
 refine m_townX ?_
 refine m_f3 ?_
 refine m_f1 ?_
 refine m_post (K := tK) (t.setr (r).toNat y2.repl) ?_
 refine Mtu ?_ Tryz.call111 (fun bs w hS => cl_post b (t.setr (r).toNat y2.repl) y2.out w (hS.ow i0) (show t.mails.n ≤ 60 by omega) (fun w' hkp => Sl.rd.wide (((hS.resAt hkp) _ i3).2 inX).2.2.2.2.2 (fun _ _ => trivial)))
 rintro ym7 hF7
 refine m_split2 ?_
 have hu := upto_is (t := t) (i := r.toNat) (r := r) (many := many) (u := (if t.abs.agr r < (if (t.com.n : Int) < (t.r.at (r).toNat).state.index + (if 400 < many then 400 else many) then (t.com.n : Int) else (t.r.at (r).toNat).state.index + (if 400 < many then 400 else many)) then t.abs.agr r else (if (t.com.n : Int) < (t.r.at (r).toNat).state.index + (if 400 < many then 400 else many) then (t.com.n : Int) else (t.r.at (r).toNat).state.index + (if 400 < many then 400 else many)))) (by omega) (by (repeat' split) <;> omega)
 have hm := tapply_go (t := t) (i := r.toNat) (r := r) (many := many) (by omega) (by omega) hu h2 hF2
 have hab9 : (⟨⟨t.r.A, t.r.c, (t.r.xs.set (r).toNat y2.repl)⟩, t.c, ⟨ym7.A, ym7.c, ym7.xs⟩, t.com, t.lead⟩ : CTown).abs = (t.abs.apply r many).1 := by rw [hm, if_pos h3]; exact setr_mails t (k := r) (by omega) y2.repl ⟨ym7.A, ym7.c, ym7.xs⟩ hF7
 refine m_f5 ?_
 refine m_f5 ?_
 refine m_f3 ?_
 refine m_f5 ?_
 refine m_f5 ?_
 refine m_f5 ?_
 refine m_townedX (K := tK) (⟨⟨t.r.A, t.r.c, (t.r.xs.set (r).toNat y2.repl)⟩, t.c, ⟨ym7.A, ym7.c, ym7.xs⟩, t.com, t.lead⟩ : CTown) (town_small hab9 (hk.apply hr0 hr2) rfl rfl) ?_
 refine m_unX ?_
 refine Mt [vi 0] fun bs w hS => ?_
 refine ⟨((f ++ fp2), (⟨⟨t.r.A, t.r.c, (t.r.xs.set (r).toNat y2.repl)⟩, t.c, ⟨ym7.A, ym7.c, ym7.xs⟩, t.com, t.lead⟩ : CTown)), ?_, ?_, hS.turned⟩
 · rw [hm]; rfl
 · exact hab9
theorem cl_at (b : Nat) (f : List Nat) (t : CTown) (a : DAct) (w : World) (hO : Ow (townR tK b f t) w) (hk : townOk t.abs) (ha : Rds.sub anyB w a) : Calls Tryz.prog 74 #[.pointer (some (⟨b, 0, none⟩ : Addr)), a.val] w fun e w' => ∃ y : List Nat × CTown, e = .returned (vi (t.abs.atOne a).2) ∧ y.2.abs = (t.abs.atOne a).1 ∧ Turned (townR tK b f t) w w' (townR tK b y.1 y.2) := by
 have hkt := town_ok hO.1
 obtain ⟨q1, q2, q3, q4, q5, q6⟩ := town_facts hk
 have ncr := Sl.ok.nc hkt.1
 have nck := Sl.ok.nc hkt.2.2.2
 have ncm := Sl.ok.nc hkt.2.2.1
 have ncc := Sl.ok.nc hkt.2.1
 have oka := Rds.okof ha
 refine Mj ?_ Tryz.func74 hO.start
 refine Md (a.r < 0) (fun h1 => ?_) fun h1 => ?_
 · exact Me1 (atOne_out (t := t) (a := a) (by omega)) (f, t) rfl fun bs w hS => hS.turned
 refine Md ((3 : Int) ≤ a.r) (fun h2 => ?_) fun h2 => ?_
 · exact Me1 (atOne_out (t := t) (a := a) (by omega)) (f, t) rfl fun bs w hS => hS.turned
 refine Md (a.kind = 4) (fun h3 => ?_) fun h3 => ?_
 · refine Mtu ?_ Tryz.call105 (fun bs w hS => cl_ship b f t a.r a.k w (hS.ow i0) hk (by omega) (by omega))
   rintro yt1 hab1
   have hk1 : townOk yt1.2.abs := by rw [hab1]; exact townOk.ship hk (by omega) (by omega)
   refine m_know (F := townK yt1.2) (fun bs w hS => town_ok (hS.res _ i0)) fun hkt1 => ?_
   have hm := atOne_in (t := t) (a := a) (i := a.r.toNat) (by omega) (by omega)
   rw [if_pos h3] at hm
   exact Me1 hm (yt1.1, yt1.2) (hab1) fun bs w hS => hS.turned
 refine Md (a.kind = 5) (fun h4 => ?_) fun h4 => ?_
 · refine Mtu ?_ Tryz.call106 (fun bs w hS => cl_apply b f t a.r a.k w (hS.ow i0) hk (by omega) (by omega))
   rintro yt3 hab3
   have hk3 : townOk yt3.2.abs := by rw [hab3]; exact townOk.apply hk (by omega) (by omega)
   refine m_know (F := townK yt3.2) (fun bs w hS => town_ok (hS.res _ i0)) fun hkt3 => ?_
   have hm := atOne_in (t := t) (a := a) (i := a.r.toNat) (by omega) (by omega)
   rw [if_neg h3] at hm
   rw [if_pos h4] at hm
   exact Me1 hm (yt3.1, yt3.2) (hab3) fun bs w hS => hS.turned
 refine Md (a.kind = 8) (fun h5 => ?_) fun h5 => ?_
 · refine Mdr 10 ?_ Tryz_mixed
   refine Mih ?_ (pT 54 3 1 (fun w hk hr => (hr _ i0)))
   refine Mp ?_ Tryz.call107 (fun bs w hS => cl_agreed b f t a.r w (hS.ow i0) hk (by omega) (by omega))
   have ha5 := agr_bd hk (k := a.r) (by omega) (by omega)
   refine Mz ?_
   refine Md (t.abs.agr a.r < (t.com.n : Int)) (fun h6 => ?_) fun h6 => ?_
   · have hm := atOne_in (t := t) (a := a) (i := a.r.toNat) (by omega) (by omega)
     rw [if_neg h3] at hm
     rw [if_neg h4] at hm
     rw [if_pos h5] at hm
     rw [if_pos h6] at hm
     exact Me1 hm (f, t) rfl fun bs w hS => hS.turned
   refine m_town ?_
   refine Msb 4 [t.r.val, t.c.val, t.mails.val, t.com.val, vi a.r] ?_
   have hk6 : townOk (⟨t.r, t.c, t.mails, t.com, a.r⟩ : CTown).abs := hk.lead (k := a.r) (by omega) (by omega)
   refine m_towned (K := tK) (⟨t.r, t.c, t.mails, t.com, a.r⟩ : CTown) (fun _ h => h) ?_
   refine Mtu ?_ Tryz.call108 (fun bs w hS => cl_commit b f (⟨t.r, t.c, t.mails, t.com, a.r⟩ : CTown) w (hS.ow i0) hk6)
   rintro yt7 hab7
   have hk7 : townOk yt7.2.abs := by rw [hab7]; exact townOk.commit hk6
   refine m_know (F := townK yt7.2) (fun bs w hS => town_ok (hS.res _ i0)) fun hkt7 => ?_
   have hm := atOne_in (t := t) (a := a) (i := a.r.toNat) (by omega) (by omega)
   rw [if_neg h3] at hm
   rw [if_neg h4] at hm
   rw [if_pos h5] at hm
   rw [if_neg h6] at hm
   exact Me1 hm (yt7.1, yt7.2) (hab7) fun bs w hS => hS.turned
 refine Md (a.kind = 6) (fun h7 => ?_) fun h7 => ?_
 · refine Mda 14 [] [1] [townR tK b f t] Tryz_mixed ?_
   refine Mih ?_ (pc (pT 70 0 1 (fun w hk hr => (hr _ i0))) (pA 73 74 a.r (a.r).toNat (s := t.r) (fun w hk hr => (town_r (hr _ i0)))))
   refine Mu ?_ Tryz.call109 (fun bs w hS => replica_Compact (t.r.at (a.r).toNat) w (Sl.rd.sub (s := t.r) (i := (a.r).toNat) (town_r (hS.res _ i0)) (by omega)))
   rintro fp9 y9 hF9 hok9
   refine Mz ?_
   refine Md ((mRCompact (t.r.at (a.r).toNat).abs).2 = 0) (fun h8 => ?_) fun h8 => ?_
   rotate_left
   · have hm := atOne_in (t := t) (a := a) (i := a.r.toNat) (by omega) (by omega)
     rw [if_neg h3] at hm
     rw [if_neg h4] at hm
     rw [if_neg h5] at hm
     rw [if_pos h7] at hm
     rw [put_go] at hm
     exact Me1 hm (f, t) ((if_neg h8).symm) fun bs w hS => hS.f1.turned
   refine Mdr 8 ?_ Tryz_mixed
   refine Mih ?_ (pc (pT 83 0 1 (fun w hk hr => (hr _ i1))) (pI 87 a.r (a.r).toNat (s := t.r) (fun w hk hr => (town_r (hr _ i1)))))
   refine Mz ?_
   refine Mtr (a.r).toNat ?_
   have hm := atOne_in (t := t) (a := a) (i := a.r.toNat) (by omega) (by omega)
   rw [if_neg h3] at hm
   rw [if_neg h4] at hm
   rw [if_neg h5] at hm
   rw [if_pos h7] at hm
   rw [put_go] at hm
   exact Me1 hm ((f ++ fp9), (t.setr (a.r).toNat y9)) (((setr_abs t (k := a.r) (by omega) y9).trans (by rw [hF9])).trans (if_pos h8).symm) fun bs w hS => hS.turned
 refine Mda 14 [] [1] [townR tK b f t] Tryz_mixed ?_
 refine Mih ?_ (pc (pT 21 0 1 (fun w hk hr => (hr _ i0))) (pA 24 25 a.r (a.r).toNat (s := t.r) (fun w hk hr => (town_r (hr _ i0)))))
 refine Mu ?_ Tryz.call110 (fun bs w hS => replica_Restart (t.r.at (a.r).toNat) w (Sl.rd.sub (s := t.r) (i := (a.r).toNat) (town_r (hS.res _ i0)) (by omega)))
 rintro fp11 y11 hF11 hok11
 refine Mz ?_
 refine Md ((mRRestart (t.r.at (a.r).toNat).abs).2 = 0) (fun h9 => ?_) fun h9 => ?_
 rotate_left
 · have hm := atOne_in (t := t) (a := a) (i := a.r.toNat) (by omega) (by omega)
   rw [if_neg h3] at hm
   rw [if_neg h4] at hm
   rw [if_neg h5] at hm
   rw [if_neg h7] at hm
   rw [put_go] at hm
   exact Me1 hm (f, t) ((if_neg h9).symm) fun bs w hS => hS.f1.turned
 refine Mdr 8 ?_ Tryz_mixed
 refine Mih ?_ (pc (pT 83 0 1 (fun w hk hr => (hr _ i1))) (pI 87 a.r (a.r).toNat (s := t.r) (fun w hk hr => (town_r (hr _ i1)))))
 refine Mz ?_
 refine Mtr (a.r).toNat ?_
 have hm := atOne_in (t := t) (a := a) (i := a.r.toNat) (by omega) (by omega)
 rw [if_neg h3] at hm
 rw [if_neg h4] at hm
 rw [if_neg h5] at hm
 rw [if_neg h7] at hm
 rw [put_go] at hm
 exact Me1 hm ((f ++ fp11), (t.setr (a.r).toNat y11)) (((setr_abs t (k := a.r) (by omega) y11).trans (by rw [hF11])).trans (if_pos h9).symm) fun bs w hS => hS.turned
theorem clo___cluster_cluster__mail_1 (x : CCustomer) (m : DMail) (b : Nat) (w : World) (hb : (blkR b 65 [vi m.client, vi m.seq, vi m.reply.code, vi m.reply.n, vs m.reply.text]).p w) : Calls Tryz.prog 114 #[x.val, .pointer (some (⟨b, 0, none⟩ : Addr))] w fun e w' => e = .returned (vb (decide (x.id = m.client))) ∧ Kp [] w w' := by
 refine M0 ?_ Tryz.func114
 refine Mi ?_ (pX 7 [vi m.client] (fun w hk hr => (blkR_fld (blkR_kp hb hk) 0 1 rfl)))
 exact Mt [vb (decide (x.id = m.client))] fun bs w hS => ⟨rfl, hS.kp⟩
end Go.Proofs.YtbjakddkfgjkaaaGreatDoor.W
