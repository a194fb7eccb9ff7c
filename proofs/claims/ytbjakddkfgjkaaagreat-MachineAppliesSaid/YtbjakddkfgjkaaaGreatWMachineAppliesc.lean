/-
  The functions that the law MachineApplies reaches, walked: each returns what its model says.
  Conditions: those that each theorem states.
-/
import Derived.Test.YtbjakddkfgjkaaaGreatWMachineAppliesb
set_option linter.unusedVariables false
set_option linter.unusedSimpArgs false
set_option maxRecDepth 100000
set_option maxHeartbeats 2000000
namespace Go.Proofs.YtbjakddkfgjkaaaGreat.W
open Go.Proofs.YtbjakddkfgjkaaaGreat.Fw Go.RowKit
attribute [local irreducible] JM nx

theorem machine_gone {B B' : Nat → Prop} (z : CState) (s : Sl CSession) (b : Nat) (w : World) (hb : (blkR b 26 [vi z.index, z.locks.val, z.pairs.val, z.sessions.val]).p w) (hz : ∀ w', Kp [b] w w' → Rds.sub B w' z) (hs : ∀ w', Kp [b] w w' → s.rd B' w') : Calls Tryz.prog 24 #[.pointer (some (⟨b, 0, none⟩ : Addr)), s.val] w fun e w' => ∃ y : Option (List Nat × Sl CLock), e = .returned (.tuple #[]) ∧ (lk z.locks y).xs.map CLock.abs = mRel (z.locks.xs.map CLock.abs) (s.xs.map CSession.abs) (z.sessions.xs.map CSession.abs) ∧ TurnedN (blkR b 26 [vi z.index, z.locks.val, z.pairs.val, z.sessions.val]) w w' (blkR b 26 [vi z.index, .slice (lk z.locks y).A (lk z.locks y).n (lk z.locks y).c, z.pairs.val, z.sessions.val]) (lkR y) := by
 have oks := Sl.rd.ok (hs w (Kp.refl _ _))
 have ncs := Sl.ok.nc oks
 have hns : s.n = s.xs.length := rfl
 have okz := Rds.okof (hz w (Kp.refl _ _))
 refine Mj ?_ Tryz.func24 (WS.start1 w _ hb (by simp [blkR]) (blkR_lt hb))
 refine m_nores (lkR (none : Option (List Nat × Sl CLock))) rfl (fun w => trivial) ?_
 refine Ml (σ := Nat × Option (List Nat × Sl CLock)) (fun ⟨i, o⟩ => i ≤ s.n ∧ (lk z.locks o).xs.map CLock.abs = mRel (z.locks.xs.map CLock.abs) ((s.xs.map CSession.abs).take i) (z.sessions.xs.map CSession.abs)) (fun ⟨i, o⟩ => s.n - i) (fun ⟨i, o⟩ => [lkR o, blkR b 26 [vi z.index, .slice (lk z.locks o).A (lk z.locks o).n (lk z.locks o).c, z.pairs.val, z.sessions.val]]) [8, 7, 6, 0] (fun ⟨i, o⟩ => [(8, vI (i : Int))]) (fun _ => []) ?_ (⟨0, none⟩) ⟨Nat.zero_le _, rfl⟩
 rintro ⟨i, o⟩ ⟨hi, hI⟩ _ on1
 refine Md ((i : Int) < (s.n : Int)) (fun h1 => ?_) fun h1 => ?_
 rotate_left
 · refine Mt [] fun bs w hS => ?_
   have hS2 := hS.f1
   have hte : (s.xs.map CSession.abs).take i = s.xs.map CSession.abs := List.take_of_length_le (by rw [List.length_map]; omega)
   rw [hte] at hI
   exact ⟨o, rfl, hI, (hS2.turnedN (fun _ h => h)).as (allR_one _ _) (allR_one_fp _)⟩
 refine Mi ?_ (pc (pA 10 11 (i : Int) i (s := s) (fun w hk hr => (hs _ hk))) (pBk 15 3 1 i1))
 refine Mp ?_ Tryz.call73 (fun bs w hS => has_Session z.sessions (fun x : CSession => decide (x.client = (s.at i).client)) 74 #[.pointer (some (adr bs 0 0))] w (hz _ hS.kp).2.2 Tryz.call74 (fun w' z' hz' hk => clo_machine_gone_1 z' (s.at i) (bs.getD 0 0) w' (show (blkR _ _ _).p w' from (hS.pure hk).loc 0 ⟨118, (s.at i).cs⟩ (by kernel_rfl) (by simp))))
 refine Mdn ((0 : Int) ≤ mIdx (fun x : CSession => decide (x.client = (s.at i).client)) z.sessions.xs) (fun h2 => ?_) fun h2 => ?_
 · refine Mi ?_ (pR ((i : Int) + 1))
   have hsx : sIdx (z.sessions.xs.map CSession.abs) (s.at i).abs.client = mIdx (fun x : CSession => decide (x.client = (s.at i).client)) z.sessions.xs := (mIdx_map CSession.abs (fun x : DSession => decide (x.client = (s.at i).client)) z.sessions.xs).symm
   have hgo : (lk z.locks (o)).xs.map CLock.abs = if sIdx (z.sessions.xs.map CSession.abs) (s.at i).abs.client < 0 then (mGone ((lk z.locks o).xs.map CLock.abs) (s.at i).abs.client).1 else (lk z.locks o).xs.map CLock.abs := by rw [hsx, if_neg (by omega)]
   refine m_f1 (m_f1 ?_)
   exact on1 ⟨i + 1, o⟩ ⟨by omega, rel_next (by rw [List.length_map]; omega) (sabs_at i) hI hgo⟩ (by show s.n - (i + 1) < s.n - i; omega)
 refine Mda 14 [13] [] [lkR o, blkR b 26 [vi z.index, .slice (lk z.locks o).A (lk z.locks o).n (lk z.locks o).c, z.pairs.val, z.sessions.val]] Tryz_mixed ?_
 refine Mih ?_ (pBk 24 1 1 i1)
 refine Mu ?_ Tryz.call75 (fun bs w hS => lock_Gone (lk z.locks o) (s.at i).client w (lk_rd (hz _ hS.kp).1 (hS.res _ i0)))
 rintro fp1 y1 hF1 hok1
 refine m_f2 ?_
 refine MsbX [lkR o] 1 [vi z.index, y1.val, z.pairs.val, z.sessions.val] ?_ (hR := (.cons _ (.cons _ (List.Sublist.refl _))))
 refine Mz ?_
 refine Mi ?_ (pR ((i : Int) + 1))
 have hsx : sIdx (z.sessions.xs.map CSession.abs) (s.at i).abs.client = mIdx (fun x : CSession => decide (x.client = (s.at i).client)) z.sessions.xs := (mIdx_map CSession.abs (fun x : DSession => decide (x.client = (s.at i).client)) z.sessions.xs).symm
 refine m_f2 ?_
 refine m_weak noR (List.nil_sublist _) (fun _ _ => trivial) ?_
 refine m_f2 ?_
 refine m_join (lkR (some (fp1, y1))) (by show List.Perm fp1 (fp1 ++ []); rw [List.append_nil]) (fun w h1 h2 => h1) ?_
 have hgo : (lk z.locks (some (fp1, y1))).xs.map CLock.abs = if sIdx (z.sessions.xs.map CSession.abs) (s.at i).abs.client < 0 then (mGone ((lk z.locks o).xs.map CLock.abs) (s.at i).abs.client).1 else (lk z.locks o).xs.map CLock.abs := by rw [hsx, if_pos (by omega)]; exact hF1
 refine m_f1 (m_f1 ?_)
 exact on1 ⟨i + 1, some (fp1, y1)⟩ ⟨by omega, rel_next (by rw [List.length_map]; omega) (sabs_at i) hI hgo⟩ (by show s.n - (i + 1) < s.n - i; omega)

theorem machine_do {B B' : Nat → Prop} (z : CState) (who : Int) (o : DOp) (b : Nat) (w : World) (hb : (blkR b 26 [vi z.index, z.locks.val, z.pairs.val, z.sessions.val]).p w) (hz : ∀ w', Kp [b] w w' → Rds.sub B w' z) (ho : Rds.sub B' w o) : Calls Tryz.prog 28 #[.pointer (some (⟨b, 0, none⟩ : Addr)), vi who, o.val] w fun e w' => ∃ y : Option (List Nat × Sl CLock) × Option (List Nat × Sl DPair), e = .returned ((mDo (z.locks.xs.map CLock.abs) z.pairs.xs who o).2.2).val ∧ ((lk z.locks y.1).xs.map CLock.abs = (mDo (z.locks.xs.map CLock.abs) z.pairs.xs who o).1 ∧ (lk z.pairs y.2).xs = (mDo (z.locks.xs.map CLock.abs) z.pairs.xs who o).2.1) ∧ TurnedN (blkR b 26 [vi z.index, z.locks.val, z.pairs.val, z.sessions.val]) w w' (blkR b 26 [vi z.index, .slice (lk z.locks y.1).A (lk z.locks y.1).n (lk z.locks y.1).c, .slice (lk z.pairs y.2).A (lk z.pairs y.2).n (lk z.pairs y.2).c, z.sessions.val]) (allR [lkR y.1, lkR y.2]) := by
 have okz := Rds.okof (hz w (Kp.refl _ _))
 refine Mj ?_ Tryz.func28 (WS.start1 w _ hb (by simp [blkR]) (blkR_lt hb))
 refine Mdr 14 ?_ Tryz_mixed
 refine Mih ?_ (pBk 15 1 1 i0)
 refine Mp ?_ Tryz.call83 (fun bs w hS => lock_Who z.locks o.a w (hz _ hS.kp).1)
 refine Mz ?_
 refine Md (o.kind = 1) (fun h1 => ?_) fun h1 => ?_
 · refine Mda 20 [18] [2] [blkR b 26 [vi z.index, z.locks.val, z.pairs.val, z.sessions.val]] Tryz_mixed ?_
   refine Mih ?_ (pBk 52 1 1 i0)
   refine Mu ?_ Tryz.call84 (fun bs w hS => lock_Take z.locks o.a who (decide (o.kind = 2)) w (hz _ hS.kp).1 ho.1)
   rintro fp1 y1 hF1 hok1
   refine m_f1 ?_
   refine MsbX [] 1 [vi z.index, y1.val, z.pairs.val, z.sessions.val] ?_
   refine Mt [((mTake (z.locks.xs.map CLock.abs) o.a who (decide (o.kind = 2))).2.1).val] fun bs w hS => ?_
   have hS2 := hS.f1.f1
   have hm : mDo (z.locks.xs.map CLock.abs) z.pairs.xs who o = ((mTake (z.locks.xs.map CLock.abs) o.a who (decide (o.kind = 2))).1, z.pairs.xs, (mTake (z.locks.xs.map CLock.abs) o.a who (decide (o.kind = 2))).2.1) := by grind [mDo]
   refine ⟨(some (fp1, y1), none), ?_, ⟨?_, ?_⟩, (hS2.turnedN (fun _ h => h)).as (fun h r hr => ?_) (by simp [allR, lkR, noR])⟩
   · rw [hm] <;> rfl
   · rw [hm] <;> exact hF1
   · rw [hm] <;> rfl
   · simp only [List.mem_cons, List.not_mem_nil, or_false] at hr
     rcases hr with rfl | rfl
     · exact h _ i0
     · trivial
 refine Md (o.kind = 2) (fun h2 => ?_) fun h2 => ?_
 · refine Mda 20 [18] [2] [blkR b 26 [vi z.index, z.locks.val, z.pairs.val, z.sessions.val]] Tryz_mixed ?_
   refine Mih ?_ (pBk 52 1 1 i0)
   refine Mu ?_ Tryz.call84 (fun bs w hS => lock_Take z.locks o.a who (decide (o.kind = 2)) w (hz _ hS.kp).1 ho.1)
   rintro fp2 y2 hF2 hok2
   refine m_f1 ?_
   refine MsbX [] 1 [vi z.index, y2.val, z.pairs.val, z.sessions.val] ?_
   refine Mt [((mTake (z.locks.xs.map CLock.abs) o.a who (decide (o.kind = 2))).2.1).val] fun bs w hS => ?_
   have hS2 := hS.f1.f1
   have hm : mDo (z.locks.xs.map CLock.abs) z.pairs.xs who o = ((mTake (z.locks.xs.map CLock.abs) o.a who (decide (o.kind = 2))).1, z.pairs.xs, (mTake (z.locks.xs.map CLock.abs) o.a who (decide (o.kind = 2))).2.1) := by grind [mDo]
   refine ⟨(some (fp2, y2), none), ?_, ⟨?_, ?_⟩, (hS2.turnedN (fun _ h => h)).as (fun h r hr => ?_) (by simp [allR, lkR, noR])⟩
   · rw [hm] <;> rfl
   · rw [hm] <;> exact hF2
   · rw [hm] <;> rfl
   · simp only [List.mem_cons, List.not_mem_nil, or_false] at hr
     rcases hr with rfl | rfl
     · exact h _ i0
     · trivial
 refine Md (o.kind = 3) (fun h3 => ?_) fun h3 => ?_
 · refine Mda 17 [15] [2] [blkR b 26 [vi z.index, z.locks.val, z.pairs.val, z.sessions.val]] Tryz_mixed ?_
   refine Mih ?_ (pBk 74 1 1 i0)
   refine Mu ?_ Tryz.call85 (fun bs w hS => lock_Free z.locks o.a who w (hz _ hS.kp).1 ho.1)
   rintro fp3 y3 hF3 hok3
   refine m_f1 ?_
   refine MsbX [] 1 [vi z.index, y3.val, z.pairs.val, z.sessions.val] ?_
   refine Mt [((mFree (z.locks.xs.map CLock.abs) o.a who).2.1).val] fun bs w hS => ?_
   have hS2 := hS.f1.f1
   have hm : mDo (z.locks.xs.map CLock.abs) z.pairs.xs who o = ((mFree (z.locks.xs.map CLock.abs) o.a who).1, z.pairs.xs, (mFree (z.locks.xs.map CLock.abs) o.a who).2.1) := by grind [mDo]
   refine ⟨(some (fp3, y3), none), ?_, ⟨?_, ?_⟩, (hS2.turnedN (fun _ h => h)).as (fun h r hr => ?_) (by simp [allR, lkR, noR])⟩
   · rw [hm] <;> rfl
   · rw [hm] <;> exact hF3
   · rw [hm] <;> rfl
   · simp only [List.mem_cons, List.not_mem_nil, or_false] at hr
     rcases hr with rfl | rfl
     · exact h _ i0
     · trivial
 refine Md (o.kind = 4) (fun h4 => ?_) fun h4 => ?_
 · refine Mt [.agg #[vi 0, vi (mWho (z.locks.xs.map CLock.abs) o.a).1, ve]] fun bs w hS => ?_
   have hS2 := hS.perm (R' := [blkR b 26 [vi z.index, z.locks.val, z.pairs.val, z.sessions.val]]) (List.Perm.refl _)
   have hm : mDo (z.locks.xs.map CLock.abs) z.pairs.xs who o = (z.locks.xs.map CLock.abs, z.pairs.xs, ⟨0, (mWho (z.locks.xs.map CLock.abs) o.a).1, emp⟩) := by grind [mDo]
   refine ⟨(none, none), ?_, ⟨?_, ?_⟩, (hS2.turnedN (fun _ h => h)).as (fun h r hr => ?_) (by simp [allR, lkR, noR])⟩
   · rw [hm] <;> rfl
   · rw [hm] <;> rfl
   · rw [hm] <;> rfl
   · simp only [List.mem_cons, List.not_mem_nil, or_false] at hr
     rcases hr with rfl | rfl
     · trivial
     · trivial
 refine Md (o.kind = 6) (fun h5 => ?_) fun h5 => ?_
 · refine Mda 11 [] [2] [blkR b 26 [vi z.index, z.locks.val, z.pairs.val, z.sessions.val]] Tryz_mixed ?_
   refine Mih ?_ (pBk 98 2 1 i0)
   refine Mp ?_ Tryz.call86 (fun bs w hS => pair_Get z.pairs o.a w (hz _ hS.kp).2.1)
   refine Mz ?_
   refine Mt [(mGot z.pairs.xs o.a).1.val] fun bs w hS => ?_
   have hS2 := hS.perm (R' := [blkR b 26 [vi z.index, z.locks.val, z.pairs.val, z.sessions.val]]) (List.Perm.refl _)
   have hm : mDo (z.locks.xs.map CLock.abs) z.pairs.xs who o = (z.locks.xs.map CLock.abs, z.pairs.xs, (mGot z.pairs.xs o.a).1) := by grind [mDo]
   refine ⟨(none, none), ?_, ⟨?_, ?_⟩, (hS2.turnedN (fun _ h => h)).as (fun h r hr => ?_) (by simp [allR, lkR, noR])⟩
   · rw [hm] <;> rfl
   · rw [hm] <;> rfl
   · rw [hm] <;> rfl
   · simp only [List.mem_cons, List.not_mem_nil, or_false] at hr
     rcases hr with rfl | rfl
     · trivial
     · trivial
 refine Mdn ((mWho (z.locks.xs.map CLock.abs) o.a).1 = who) (fun h6 => ?_) fun h6 => ?_
 rotate_left
 · refine Mt [.agg #[vi 10, vi (mWho (z.locks.xs.map CLock.abs) o.a).1, ve]] fun bs w hS => ?_
   have hS2 := hS.perm (R' := [blkR b 26 [vi z.index, z.locks.val, z.pairs.val, z.sessions.val]]) (List.Perm.refl _)
   have hm : mDo (z.locks.xs.map CLock.abs) z.pairs.xs who o = (z.locks.xs.map CLock.abs, z.pairs.xs, ⟨10, (mWho (z.locks.xs.map CLock.abs) o.a).1, emp⟩) := by grind [mDo]
   refine ⟨(none, none), ?_, ⟨?_, ?_⟩, (hS2.turnedN (fun _ h => h)).as (fun h r hr => ?_) (by simp [allR, lkR, noR])⟩
   · rw [hm] <;> rfl
   · rw [hm] <;> rfl
   · rw [hm] <;> rfl
   · simp only [List.mem_cons, List.not_mem_nil, or_false] at hr
     rcases hr with rfl | rfl
     · trivial
     · trivial
 refine Mdn ((mWho (z.locks.xs.map CLock.abs) o.a).2.1 = o.n) (fun h7 => ?_) fun h7 => ?_
 rotate_left
 · refine Mt [.agg #[vi 10, vi (mWho (z.locks.xs.map CLock.abs) o.a).1, ve]] fun bs w hS => ?_
   have hS2 := hS.perm (R' := [blkR b 26 [vi z.index, z.locks.val, z.pairs.val, z.sessions.val]]) (List.Perm.refl _)
   have hm : mDo (z.locks.xs.map CLock.abs) z.pairs.xs who o = (z.locks.xs.map CLock.abs, z.pairs.xs, ⟨10, (mWho (z.locks.xs.map CLock.abs) o.a).1, emp⟩) := by grind [mDo]
   refine ⟨(none, none), ?_, ⟨?_, ?_⟩, (hS2.turnedN (fun _ h => h)).as (fun h r hr => ?_) (by simp [allR, lkR, noR])⟩
   · rw [hm] <;> rfl
   · rw [hm] <;> rfl
   · rw [hm] <;> rfl
   · simp only [List.mem_cons, List.not_mem_nil, or_false] at hr
     rcases hr with rfl | rfl
     · trivial
     · trivial
 refine Mda 18 [16] [2] [blkR b 26 [vi z.index, z.locks.val, z.pairs.val, z.sessions.val]] Tryz_mixed ?_
 refine Mih ?_ (pBk 27 2 1 i0)
 refine Mu ?_ Tryz.call87 (fun bs w hS => pair_Set z.pairs o.a o.b w (hz _ hS.kp).2.1 ho.1 ho.2)
 rintro fp4 y4 hF4 hok4
 refine m_f1 ?_
 refine MsbX [] 2 [vi z.index, z.locks.val, y4.val, z.sessions.val] ?_
 refine Mt [((mPSet z.pairs.xs o.a o.b).2.1).val] fun bs w hS => ?_
 have hS2 := hS.f1.f1
 have hm : mDo (z.locks.xs.map CLock.abs) z.pairs.xs who o = (z.locks.xs.map CLock.abs, (mPSet z.pairs.xs o.a o.b).1, (mPSet z.pairs.xs o.a o.b).2.1) := by grind [mDo]
 refine ⟨(none, some (fp4, y4)), ?_, ⟨?_, ?_⟩, (hS2.turnedN (fun _ h => h)).as (fun h r hr => ?_) (by simp [allR, lkR, noR])⟩
 · rw [hm] <;> rfl
 · rw [hm] <;> rfl
 · rw [hm] <;> exact hF4
 · simp only [List.mem_cons, List.not_mem_nil, or_false] at hr
   rcases hr with rfl | rfl
   · trivial
   · exact h _ i0

theorem machine_Apply {B : Nat → Prop} (x : CState) (t : ByteArray) (w : World) (hx : Rds.sub B w x) (ht : t.size ≤ 9223372036854775807) : Calls Tryz.prog 7 #[x.val, vs t] w fun e w' => ∃ y : CState, e = .returned (.tuple #[y.val, ((mApply x.abs t).2.1).val, vi (mApply x.abs t).2.2]) ∧ y.abs = (mApply x.abs t).1 ∧ FreshS w w' y := by
 have okx := Rds.okof hx
 refine M0 ?_ Tryz.func7
 refine Mp ?_ Tryz.call20 (fun bs w hS => machine_Check x w (Rds.kp hx hS.kp))
 refine Mdn (mState x.abs = 0) (fun h1 => ?_) fun h1 => ?_
 rotate_left
 · refine Mt [vA, vz 0, vi (mState x.abs)] fun bs w hS => ?_
   have hm := apply_bad (t := t) h1
   refine ⟨(⟨0, Sl.nil, Sl.nil, Sl.nil⟩ : CState), ?_, ?_, hS.outS (y := (⟨0, Sl.nil, Sl.nil, Sl.nil⟩ : CState)) ⟨Sl.rd_nil _ _, Sl.rd_nil _ _, Sl.rd_nil _ _⟩⟩
   · rw [hm] <;> rfl
   · rw [hm] <;> rfl
 have hsi := state_idx h1
 have hsi1 : 0 ≤ x.index := hsi.1
 have hsi2 : x.index ≤ 1073741824 := hsi.2
 refine Md (x.index = 1073741824) (fun h2 => ?_) fun h2 => ?_
 · refine Mt [vA, vz 0, vi 2] fun bs w hS => ?_
   have hm := apply_end (t := t) h1 (by show _ ≤ x.index; omega)
   refine ⟨(⟨0, Sl.nil, Sl.nil, Sl.nil⟩ : CState), ?_, ?_, hS.outS (y := (⟨0, Sl.nil, Sl.nil, Sl.nil⟩ : CState)) ⟨Sl.rd_nil _ _, Sl.rd_nil _ _, Sl.rd_nil _ _⟩⟩
   · rw [hm] <;> rfl
   · rw [hm] <;> rfl
 refine Mp ?_ Tryz.call21 (fun bs w hS => command_Decode t w ht)
 refine Mdn ((mDecode t).2 = 0) (fun h3 => ?_) fun h3 => ?_
 rotate_left
 · refine Mt [vA, vz 0, vi (mDecode t).2] fun bs w hS => ?_
   have hm := apply_dec h1 (by show ¬ _ ≤ x.index; omega) h3
   refine ⟨(⟨0, Sl.nil, Sl.nil, Sl.nil⟩ : CState), ?_, ?_, hS.outS (y := (⟨0, Sl.nil, Sl.nil, Sl.nil⟩ : CState)) ⟨Sl.rd_nil _ _, Sl.rd_nil _ _, Sl.rd_nil _ _⟩⟩
   · rw [hm] <;> rfl
   · rw [hm] <;> rfl
 obtain ⟨hcb1, hcb2, hcb3, hcb4, hcb5, hcb6⟩ := cmd_bd (mDecode_ok h3).1
 refine Mu ?_ Tryz.call22 (fun bs w hS => machine_Copy x w (Rds.kp hx hS.kp) (small_state (by assumption)))
 rintro fp1 y1 hF1 hok1
 refine Mu ?_ Tryz.call23 (fun bs w hS => session_Fresh y1.sessions y1.index w (hS.res _ i0).2.2)
 rintro fp2 y2 hF2 hok2
 refine Mon 0 ?_ Tryz.call24 (fun bs w hS hb => machine_gone (B := anyB) (B' := anyB) ((⟨y1.index, y1.locks, y1.pairs, y2⟩ : CState)) y1.sessions (bs.getD 0 0) w hb (fun w' hk => ⟨(Sl.rd.wide ((hS.resI 0 hk) _ i1).1 fun _ _ => trivial), (Sl.rd.wide ((hS.resI 0 hk) _ i1).2.1 fun _ _ => trivial), (Sl.rd.wide ((hS.resI 0 hk) _ i0) fun _ _ => trivial)⟩) (fun w' hk => (Sl.rd.wide ((hS.resI 0 hk) _ i1).2.2 fun _ _ => trivial)))
 rintro y3 hF3
 refine Md ((mDecode t).1.kind = 1) (fun h4 => ?_) fun h4 => ?_
 · have hix : y1.index = x.index := congrArg DState.index hF1
   refine Mu ?_ Tryz.call25 (fun bs w hS => session_Join y2 y1.index (mDecode t).1.client w (hS.res _ i1) (by unfold inR; omega))
   rintro fp5 y5 hF5 hok5
   refine Mi ?_ (pR (y1.index + 1))
   refine Mda 5 [] [1, 2] [subR fp5 y5, lkR y3, subR fp2 y2, subR fp1 y1] Tryz_mixed ?_
   refine Mz ?_
   refine Mt [.agg #[vi (y1.index + 1), .slice (lk y1.locks y3).A (lk y1.locks y3).n (lk y1.locks y3).c, y1.pairs.val, y5.val], ((mJoin (y2.xs.map CSession.abs) y1.index (mDecode t).1.client).2.1).val, vi 0] fun bs w hS => ?_
   have e3 : aFresh y1.abs = y2.xs.map CSession.abs := hF2.symm
   have e4 : aLocks y1.abs = (lk y1.locks y3).xs.map CLock.abs := by unfold aLocks; rw [e3]; exact hF3.symm
   have hs : mStep x.abs (mDecode t).1 = _ := (congrArg (fun q => mStep q (mDecode t).1) hF1).symm.trans (step_join e3 e4 h4)
   have hm := apply_ok h1 (by show ¬ _ ≤ x.index; omega) h3 hs
   refine ⟨(⟨y1.index + 1, (lk y1.locks y3), y1.pairs, y5⟩ : CState), ?_, ?_, hS.outS (y := (⟨y1.index + 1, (lk y1.locks y3), y1.pairs, y5⟩ : CState)) ⟨(lk_out (allR_sub (y := y1) i3 (hS.res _ i3)).1 i1 hS.res), (allR_sub (y := y1) i3 (hS.res _ i3)).2.1, (allR_sub (y := y5) i0 (hS.res _ i0))⟩⟩
   · rw [hm] <;> rfl
   · rw [hm]
     show (⟨_, (lk y1.locks y3).xs.map CLock.abs, y1.pairs.xs, y5.xs.map CSession.abs⟩ : DState) = _
     rw [hF5] <;> rfl
 have hix : y1.index = x.index := congrArg DState.index hF1
 refine Md ((mDecode t).1.kind = 3) (fun h5 => ?_) fun h5 => ?_
 · refine Mu ?_ Tryz.call26 (fun bs w hS => session_Leave y2 y1.index (mDecode t).1.client w (hS.res _ i1) (by unfold inR; omega))
   rintro fp6 y6 hF6 hok6
   refine Mon 0 ?_ Tryz.call24 (fun bs w hS hb => machine_gone (B := anyB) (B' := anyB) ((⟨y1.index, (lk y1.locks y3), y1.pairs, y6⟩ : CState)) y2 (bs.getD 0 0) w hb (fun w' hk => ⟨(Sl.rd.wide (lk_rd ((hS.resI 0 hk) _ i3).1 ((hS.resI 0 hk) _ i1)) fun _ _ => trivial), (Sl.rd.wide ((hS.resI 0 hk) _ i3).2.1 fun _ _ => trivial), (Sl.rd.wide ((hS.resI 0 hk) _ i0) fun _ _ => trivial)⟩) (fun w' hk => (Sl.rd.wide ((hS.resI 0 hk) _ i2) fun _ _ => trivial)))
   rintro y7 hF7
   refine Mi ?_ (pR (y1.index + 1))
   refine Mda 5 [] [1, 2] [lkR y7, subR fp6 y6, lkR y3, subR fp2 y2, subR fp1 y1] Tryz_mixed ?_
   refine Mz ?_
   refine Mt [.agg #[vi (y1.index + 1), .slice (lk (lk y1.locks y3) y7).A (lk (lk y1.locks y3) y7).n (lk (lk y1.locks y3) y7).c, y1.pairs.val, y6.val], ((mLeave (y2.xs.map CSession.abs) y1.index (mDecode t).1.client).2.1).val, vi 0] fun bs w hS => ?_
   have e3 : aFresh y1.abs = y2.xs.map CSession.abs := hF2.symm
   have e4 : aLocks y1.abs = (lk y1.locks y3).xs.map CLock.abs := by unfold aLocks; rw [e3]; exact hF3.symm
   have hs : mStep x.abs (mDecode t).1 = _ := (congrArg (fun q => mStep q (mDecode t).1) hF1).symm.trans (step_leave e3 e4 h4 h5)
   have hm := apply_ok h1 (by show ¬ _ ≤ x.index; omega) h3 hs
   refine ⟨(⟨y1.index + 1, (lk (lk y1.locks y3) y7), y1.pairs, y6⟩ : CState), ?_, ?_, hS.outS (y := (⟨y1.index + 1, (lk (lk y1.locks y3) y7), y1.pairs, y6⟩ : CState)) ⟨(lk_out (lk_out (allR_sub (y := y1) i4 (hS.res _ i4)).1 i2 hS.res) i0 hS.res), (allR_sub (y := y1) i4 (hS.res _ i4)).2.1, (allR_sub (y := y6) i1 (hS.res _ i1))⟩⟩
   · rw [hm] <;> rfl
   · rw [hm]
     show (⟨_, (lk (lk y1.locks y3) y7).xs.map CLock.abs, y1.pairs.xs, y6.xs.map CSession.abs⟩ : DState) = _
     rw [hF7, hF6] <;> rfl
 refine Mu ?_ Tryz.call27 (fun bs w hS => session_Ready y2 y1.index (mDecode t).1 w (hS.res _ i1) (by unfold inR; omega) ⟨hcb5, hcb6⟩)
 rintro fp9 y9 hF9 hok9
 refine Mb (mReady (y2.xs.map CSession.abs) y1.index (mDecode t).1).2.2.1 (fun h6 => ?_) fun h6 => ?_
 rotate_left
 · refine Mi ?_ (pR (y1.index + 1))
   refine Mda 5 [] [1, 2] [subR fp9 y9, lkR y3, subR fp2 y2, subR fp1 y1] Tryz_mixed ?_
   refine Mz ?_
   refine Mt [.agg #[vi (y1.index + 1), .slice (lk y1.locks y3).A (lk y1.locks y3).n (lk y1.locks y3).c, y1.pairs.val, y9.val], ((mReady (y2.xs.map CSession.abs) y1.index (mDecode t).1).2.1).val, vi 0] fun bs w hS => ?_
   have e3 : aFresh y1.abs = y2.xs.map CSession.abs := hF2.symm
   have e4 : aLocks y1.abs = (lk y1.locks y3).xs.map CLock.abs := by unfold aLocks; rw [e3]; exact hF3.symm
   have hs : mStep x.abs (mDecode t).1 = _ := (congrArg (fun q => mStep q (mDecode t).1) hF1).symm.trans (step_not e3 e4 h4 h5 h6)
   have hm := apply_ok h1 (by show ¬ _ ≤ x.index; omega) h3 hs
   refine ⟨(⟨y1.index + 1, (lk y1.locks y3), y1.pairs, y9⟩ : CState), ?_, ?_, hS.outS (y := (⟨y1.index + 1, (lk y1.locks y3), y1.pairs, y9⟩ : CState)) ⟨(lk_out (allR_sub (y := y1) i3 (hS.res _ i3)).1 i1 hS.res), (allR_sub (y := y1) i3 (hS.res _ i3)).2.1, (allR_sub (y := y9) i0 (hS.res _ i0))⟩⟩
   · rw [hm] <;> rfl
   · rw [hm]
     show (⟨_, (lk y1.locks y3).xs.map CLock.abs, y1.pairs.xs, y9.xs.map CSession.abs⟩ : DState) = _
     rw [hF9] <;> rfl
 refine Mon 0 ?_ Tryz.call28 (fun bs w hS hb => machine_do (B := anyB) (B' := anyB) ((⟨y1.index, (lk y1.locks y3), y1.pairs, y9⟩ : CState)) (mDecode t).1.client (mDecode t).1.op (bs.getD 0 0) w hb (fun w' hk => ⟨(Sl.rd.wide (lk_rd ((hS.resI 0 hk) _ i3).1 ((hS.resI 0 hk) _ i1)) fun _ _ => trivial), (Sl.rd.wide ((hS.resI 0 hk) _ i3).2.1 fun _ _ => trivial), (Sl.rd.wide ((hS.resI 0 hk) _ i0) fun _ _ => trivial)⟩) ⟨hcb5, hcb6⟩)
 rintro y10 hF10
 refine m_split2 ?_
 have hdt10 := mDo_text (L := (lk y1.locks y3).xs.map CLock.abs) (P := y1.pairs.xs) (fun p hp => mem_getD (P := fun p : DPair => p.value.size ≤ 9223372036854775807) (fun j hj => ((hok1.2.1).2.2 j hj).2.2) p hp) (mDecode t).1.client (mDecode t).1.op
 refine Mi ?_ (pR (y1.index + 1))
 refine Mu ?_ Tryz.call29 (fun bs w hS => session_Keep y9 (y1.index + 1) (mDecode t).1.client (mDecode t).1.seq (mDo ((lk y1.locks y3).xs.map CLock.abs) y1.pairs.xs (mDecode t).1.client (mDecode t).1.op).2.2 w (hS.res _ i2) (by unfold inR; omega) (by unfold inR; omega) (by first | assumption | omega | (simp only [emp_size]; omega)))
 rintro fp12 y12 hF12 hok12
 refine Mi ?_ (pR (y1.index + 1))
 refine Mda 5 [] [1, 2] [subR fp12 y12, lkR y10.1, lkR y10.2, subR fp9 y9, lkR y3, subR fp2 y2, subR fp1 y1] Tryz_mixed ?_
 refine Mz ?_
 refine Mt [.agg #[vi (y1.index + 1), .slice (lk (lk y1.locks y3) y10.1).A (lk (lk y1.locks y3) y10.1).n (lk (lk y1.locks y3) y10.1).c, .slice (lk y1.pairs y10.2).A (lk y1.pairs y10.2).n (lk y1.pairs y10.2).c, y12.val], ((mDo ((lk y1.locks y3).xs.map CLock.abs) y1.pairs.xs (mDecode t).1.client (mDecode t).1.op).2.2).val, vi 0] fun bs w hS => ?_
 have e3 : aFresh y1.abs = y2.xs.map CSession.abs := hF2.symm
 have e4 : aLocks y1.abs = (lk y1.locks y3).xs.map CLock.abs := by unfold aLocks; rw [e3]; exact hF3.symm
 have hs : mStep x.abs (mDecode t).1 = _ := (congrArg (fun q => mStep q (mDecode t).1) hF1).symm.trans (step_do e3 e4 h4 h5 h6)
 have hm := apply_ok h1 (by show ¬ _ ≤ x.index; omega) h3 hs
 refine ⟨(⟨y1.index + 1, (lk (lk y1.locks y3) y10.1), (lk y1.pairs y10.2), y12⟩ : CState), ?_, ?_, hS.outS (y := (⟨y1.index + 1, (lk (lk y1.locks y3) y10.1), (lk y1.pairs y10.2), y12⟩ : CState)) ⟨(lk_out (lk_out (allR_sub (y := y1) i6 (hS.res _ i6)).1 i4 hS.res) i1 hS.res), (lk_out (allR_sub (y := y1) i6 (hS.res _ i6)).2.1 i2 hS.res), (allR_sub (y := y12) i0 (hS.res _ i0))⟩⟩
 · rw [hm] <;> rfl
 · rw [hm]
   show (⟨_, (lk (lk y1.locks y3) y10.1).xs.map CLock.abs, (lk y1.pairs y10.2).xs, y12.xs.map CSession.abs⟩ : DState) = _
   rw [hF10.1, hF10.2, hF12, hF9] <;> rfl

theorem ref_released {B1 B2 B3 : Nat → Prop} (s : Sl CLock) (a b : Sl CSession) (w : World) (hs : s.rd B1 w) (ha : a.rd B2 w) (hb : b.rd B3 w) : Calls Tryz.prog 33 #[s.val, a.val, b.val] w fun e w' => ∃ y : Option (List Nat × Sl CLock), e = .returned (lk s y).val ∧ (lk s y).xs.map CLock.abs = mRel (s.xs.map CLock.abs) (a.xs.map CSession.abs) (b.xs.map CSession.abs) ∧ Kp [] w w' ∧ Fresh w w' (lkR y) := by
 have oka := Sl.rd.ok ha
 have nca := Sl.ok.nc oka
 have hna : a.n = a.xs.length := rfl
 have okb := Sl.rd.ok hb
 have ncb := Sl.ok.nc okb
 have oks := Sl.rd.ok hs
 have ncs := Sl.ok.nc oks
 refine M0 ?_ Tryz.func33
 refine m_nores (lkR (none : Option (List Nat × Sl CLock))) rfl (fun w => trivial) ?_
 refine Ml (σ := Nat × Option (List Nat × Sl CLock)) (fun ⟨i, o⟩ => i ≤ a.n ∧ (lk s o).xs.map CLock.abs = mRel (s.xs.map CLock.abs) ((a.xs.map CSession.abs).take i) (b.xs.map CSession.abs)) (fun ⟨i, o⟩ => a.n - i) (fun ⟨i, o⟩ => [lkR o]) [7, 0, 1, 2] (fun ⟨i, o⟩ => [(7, vI (i : Int)), (0, .v (.slice (lk s o).A (lk s o).n (lk s o).c))]) (fun _ => []) ?_ (⟨0, none⟩) ⟨Nat.zero_le _, rfl⟩
 rintro ⟨i, o⟩ ⟨hi, hI⟩ _ on1
 refine Md ((i : Int) < (a.n : Int)) (fun h1 => ?_) fun h1 => ?_
 rotate_left
 · refine Mt [.slice (lk s o).A (lk s o).n (lk s o).c] fun bs w hS => ?_
   have hte : (a.xs.map CSession.abs).take i = a.xs.map CSession.abs := List.take_of_length_le (by rw [List.length_map]; omega)
   rw [hte] at hI
   exact ⟨o, rfl, hI, hS.kp, hS.out1⟩
 refine Mi ?_ (pc (pI 17 (i : Int) i (rdk ha)) (pF 19 i 0 1 (rdk ha)))
 refine Mp ?_ Tryz.call98 (fun bs w hS => tackroomref_sessionAt b (a.at i).client w (Sl.rd.kp hb hS.kp))
 refine Md (mIdx (fun x : CSession => decide (x.client = (a.at i).client)) b.xs < 0) (fun h2 => ?_) fun h2 => ?_
 rotate_left
 · refine Mi ?_ (pR ((i : Int) + 1))
   have hsx : sIdx (b.xs.map CSession.abs) (a.at i).abs.client = mIdx (fun x : CSession => decide (x.client = (a.at i).client)) b.xs := (mIdx_map CSession.abs (fun x : DSession => decide (x.client = (a.at i).client)) b.xs).symm
   have hgo : (lk s (o)).xs.map CLock.abs = if sIdx (b.xs.map CSession.abs) (a.at i).abs.client < 0 then (mGone ((lk s o).xs.map CLock.abs) (a.at i).abs.client).1 else (lk s o).xs.map CLock.abs := by rw [hsx, if_neg h2]
   exact on1 ⟨i + 1, o⟩ ⟨by omega, rel_next (by rw [List.length_map]; omega) (sabs_at i) hI hgo⟩ (by show a.n - (i + 1) < a.n - i; omega)
 refine Mi ?_ (pc (pI 26 (i : Int) i (rdk ha)) (pF 28 i 0 1 (rdk ha)))
 refine Mu ?_ Tryz.call99 (fun bs w hS => ref_GoneOf (lk s o) (a.at i).client w (lk_rd (Sl.rd.kp hs hS.kp) (hS.res _ i0)))
 rintro fp1 y1 hF1 hok1
 refine Mi ?_ (pR ((i : Int) + 1))
 have hsx : sIdx (b.xs.map CSession.abs) (a.at i).abs.client = mIdx (fun x : CSession => decide (x.client = (a.at i).client)) b.xs := (mIdx_map CSession.abs (fun x : DSession => decide (x.client = (a.at i).client)) b.xs).symm
 refine m_f1 ?_
 refine m_weak noR (List.nil_sublist _) (fun _ _ => trivial) ?_
 refine m_f1 ?_
 refine m_join (lkR (some (fp1, y1))) (by show List.Perm fp1 (fp1 ++ []); rw [List.append_nil]) (fun w h1 h2 => h1) ?_
 have hgo : (lk s (some (fp1, y1))).xs.map CLock.abs = if sIdx (b.xs.map CSession.abs) (a.at i).abs.client < 0 then (mGone ((lk s o).xs.map CLock.abs) (a.at i).abs.client).1 else (lk s o).xs.map CLock.abs := by rw [hsx, if_pos h2]; exact hF1
 exact on1 ⟨i + 1, some (fp1, y1)⟩ ⟨by omega, rel_next (by rw [List.length_map]; omega) (sabs_at i) hI hgo⟩ (by show a.n - (i + 1) < a.n - i; omega)

theorem ref_AppliedOf {B : Nat → Prop} (x : CState) (t : ByteArray) (w : World) (hx : Rds.sub B w x) (ht : t.size ≤ 9223372036854775807) : Calls Tryz.prog 8 #[x.val, vs t] w fun e w' => ∃ y : CState, e = .returned (.tuple #[y.val, ((mApply x.abs t).2.1).val, vi (mApply x.abs t).2.2]) ∧ y.abs = (mApply x.abs t).1 ∧ FreshS w w' y := by
 have okx := Rds.okof hx
 refine M0 ?_ Tryz.func8
 refine Mp ?_ Tryz.call30 (fun bs w hS => ref_StateFault x w (Rds.kp hx hS.kp))
 refine Md (mState x.abs = 0) (fun h1 => ?_) fun h1 => ?_
 rotate_left
 · refine My false true ?_ (df h1)
   refine Mt [vA, vz 0, vi (mState x.abs)] fun bs w hS => ?_
   have hm := apply_bad (t := t) h1
   refine ⟨(⟨0, Sl.nil, Sl.nil, Sl.nil⟩ : CState), ?_, ?_, hS.outS (y := (⟨0, Sl.nil, Sl.nil, Sl.nil⟩ : CState)) ⟨Sl.rd_nil _ _, Sl.rd_nil _ _, Sl.rd_nil _ _⟩⟩
   · rw [hm] <;> rfl
   · rw [hm] <;> rfl
 have hsi := state_idx h1
 have hsi1 : 0 ≤ x.index := hsi.1
 have hsi2 : x.index ≤ 1073741824 := hsi.2
 refine Md ((1073741824 : Int) ≤ x.index) (fun h2 => ?_) fun h2 => ?_
 · refine Mq 34 true ?_ rfl
   refine Mt [vA, vz 0, vi 2] fun bs w hS => ?_
   have hm := apply_end (t := t) h1 (by show _ ≤ x.index; omega)
   refine ⟨(⟨0, Sl.nil, Sl.nil, Sl.nil⟩ : CState), ?_, ?_, hS.outS (y := (⟨0, Sl.nil, Sl.nil, Sl.nil⟩ : CState)) ⟨Sl.rd_nil _ _, Sl.rd_nil _ _, Sl.rd_nil _ _⟩⟩
   · rw [hm] <;> rfl
   · rw [hm] <;> rfl
 refine My true true ?_ (dt h1)
 refine Mp ?_ Tryz.call31 (fun bs w hS => ref_CommandOf t w ht)
 refine Mdn ((mDecode t).2 = 0) (fun h4 => ?_) fun h4 => ?_
 rotate_left
 · refine Mt [vA, vz 0, vi (mDecode t).2] fun bs w hS => ?_
   have hm := apply_dec h1 (by show ¬ _ ≤ x.index; omega) h4
   refine ⟨(⟨0, Sl.nil, Sl.nil, Sl.nil⟩ : CState), ?_, ?_, hS.outS (y := (⟨0, Sl.nil, Sl.nil, Sl.nil⟩ : CState)) ⟨Sl.rd_nil _ _, Sl.rd_nil _ _, Sl.rd_nil _ _⟩⟩
   · rw [hm] <;> rfl
   · rw [hm] <;> rfl
 obtain ⟨hcb1, hcb2, hcb3, hcb4, hcb5, hcb6⟩ := cmd_bd (mDecode_ok h4).1
 refine Mu ?_ Tryz.call6 (fun bs w hS => ref_StateCopy x w (Rds.kp hx hS.kp) (small_state (by assumption)))
 rintro fp1 y1 hF1 hok1
 refine Mu ?_ Tryz.call32 (fun bs w hS => ref_FreshOf y1.sessions x.index w (hS.res _ i0).2.2)
 rintro fp2 y2 hF2 hok2
 refine Mf ?_ Tryz.call33 (fun bs w hS => ref_released y1.locks y1.sessions y2 w (hS.res _ i1).1 (hS.res _ i1).2.2 (hS.res _ i0))
 rintro y3 hF3
 refine Md ((mDecode t).1.kind = 1) (fun h5 => ?_) fun h5 => ?_
 · have hix : y1.index = x.index := congrArg DState.index hF1
   refine Mu ?_ Tryz.call34 (fun bs w hS => ref_JoinedOf y2 x.index (mDecode t).1.client w (hS.res _ i1) (by unfold inR; omega))
   rintro fp5 y5 hF5 hok5
   refine Mi ?_ (pR (x.index + 1))
   refine Mda 5 [] [1, 2] [subR fp5 y5, lkR y3, subR fp2 y2, subR fp1 y1] Tryz_mixed ?_
   refine Mz ?_
   refine Mt [.agg #[vi (x.index + 1), .slice (lk y1.locks y3).A (lk y1.locks y3).n (lk y1.locks y3).c, y1.pairs.val, y5.val], ((mJoin (y2.xs.map CSession.abs) x.index (mDecode t).1.client).2.1).val, vi 0] fun bs w hS => ?_
   have e3 : aFresh y1.abs = y2.xs.map CSession.abs := by unfold aFresh; rw [show y1.abs.index = x.index from hix]; exact hF2.symm
   have e4 : aLocks y1.abs = (lk y1.locks y3).xs.map CLock.abs := by unfold aLocks; rw [e3]; exact hF3.symm
   have hs : mStep x.abs (mDecode t).1 = _ := (congrArg (fun q => mStep q (mDecode t).1) hF1).symm.trans (step_join e3 e4 h5)
   rw [show y1.abs.index = x.index from hix] at hs
   have hm := apply_ok h1 (by show ¬ _ ≤ x.index; omega) h4 hs
   refine ⟨(⟨x.index + 1, (lk y1.locks y3), y1.pairs, y5⟩ : CState), ?_, ?_, hS.outS (y := (⟨x.index + 1, (lk y1.locks y3), y1.pairs, y5⟩ : CState)) ⟨(lk_out (allR_sub (y := y1) i3 (hS.res _ i3)).1 i1 hS.res), (allR_sub (y := y1) i3 (hS.res _ i3)).2.1, (allR_sub (y := y5) i0 (hS.res _ i0))⟩⟩
   · rw [hm] <;> rfl
   · rw [hm]
     show (⟨_, (lk y1.locks y3).xs.map CLock.abs, y1.pairs.xs, y5.xs.map CSession.abs⟩ : DState) = _
     rw [hF5] <;> rfl
 have hix : y1.index = x.index := congrArg DState.index hF1
 refine Md ((mDecode t).1.kind = 3) (fun h6 => ?_) fun h6 => ?_
 · refine Mu ?_ Tryz.call35 (fun bs w hS => ref_LeftOf y2 x.index (mDecode t).1.client w (hS.res _ i1) (by unfold inR; omega))
   rintro fp6 y6 hF6 hok6
   refine Mf ?_ Tryz.call33 (fun bs w hS => ref_released (lk y1.locks y3) y2 y6 w (lk_rd (hS.res _ i3).1 (hS.res _ i1)) (hS.res _ i2) (hS.res _ i0))
   rintro y7 hF7
   refine Mi ?_ (pR (x.index + 1))
   refine Mda 5 [] [1, 2] [lkR y7, subR fp6 y6, lkR y3, subR fp2 y2, subR fp1 y1] Tryz_mixed ?_
   refine Mz ?_
   refine Mt [.agg #[vi (x.index + 1), .slice (lk (lk y1.locks y3) y7).A (lk (lk y1.locks y3) y7).n (lk (lk y1.locks y3) y7).c, y1.pairs.val, y6.val], ((mLeave (y2.xs.map CSession.abs) x.index (mDecode t).1.client).2.1).val, vi 0] fun bs w hS => ?_
   have e3 : aFresh y1.abs = y2.xs.map CSession.abs := by unfold aFresh; rw [show y1.abs.index = x.index from hix]; exact hF2.symm
   have e4 : aLocks y1.abs = (lk y1.locks y3).xs.map CLock.abs := by unfold aLocks; rw [e3]; exact hF3.symm
   have hs : mStep x.abs (mDecode t).1 = _ := (congrArg (fun q => mStep q (mDecode t).1) hF1).symm.trans (step_leave e3 e4 h5 h6)
   rw [show y1.abs.index = x.index from hix] at hs
   have hm := apply_ok h1 (by show ¬ _ ≤ x.index; omega) h4 hs
   refine ⟨(⟨x.index + 1, (lk (lk y1.locks y3) y7), y1.pairs, y6⟩ : CState), ?_, ?_, hS.outS (y := (⟨x.index + 1, (lk (lk y1.locks y3) y7), y1.pairs, y6⟩ : CState)) ⟨(lk_out (lk_out (allR_sub (y := y1) i4 (hS.res _ i4)).1 i2 hS.res) i0 hS.res), (allR_sub (y := y1) i4 (hS.res _ i4)).2.1, (allR_sub (y := y6) i1 (hS.res _ i1))⟩⟩
   · rw [hm] <;> rfl
   · rw [hm]
     show (⟨_, (lk (lk y1.locks y3) y7).xs.map CLock.abs, y1.pairs.xs, y6.xs.map CSession.abs⟩ : DState) = _
     rw [hF7, hF6] <;> rfl
 refine Mu ?_ Tryz.call36 (fun bs w hS => ref_ReadyOf y2 x.index (mDecode t).1 w (hS.res _ i1) (by unfold inR; omega) ⟨hcb5, hcb6⟩)
 rintro fp9 y9 hF9 hok9
 refine Mb (mReady (y2.xs.map CSession.abs) x.index (mDecode t).1).2.2.1 (fun h7 => ?_) fun h7 => ?_
 rotate_left
 · refine Mi ?_ (pR (x.index + 1))
   refine Mda 5 [] [1, 2] [subR fp9 y9, lkR y3, subR fp2 y2, subR fp1 y1] Tryz_mixed ?_
   refine Mz ?_
   refine Mt [.agg #[vi (x.index + 1), .slice (lk y1.locks y3).A (lk y1.locks y3).n (lk y1.locks y3).c, y1.pairs.val, y9.val], ((mReady (y2.xs.map CSession.abs) x.index (mDecode t).1).2.1).val, vi 0] fun bs w hS => ?_
   have e3 : aFresh y1.abs = y2.xs.map CSession.abs := by unfold aFresh; rw [show y1.abs.index = x.index from hix]; exact hF2.symm
   have e4 : aLocks y1.abs = (lk y1.locks y3).xs.map CLock.abs := by unfold aLocks; rw [e3]; exact hF3.symm
   have hs : mStep x.abs (mDecode t).1 = _ := (congrArg (fun q => mStep q (mDecode t).1) hF1).symm.trans (step_not e3 e4 h5 h6 (by rw [show y1.abs.index = x.index from hix]; exact h7))
   rw [show y1.abs.index = x.index from hix] at hs
   have hm := apply_ok h1 (by show ¬ _ ≤ x.index; omega) h4 hs
   refine ⟨(⟨x.index + 1, (lk y1.locks y3), y1.pairs, y9⟩ : CState), ?_, ?_, hS.outS (y := (⟨x.index + 1, (lk y1.locks y3), y1.pairs, y9⟩ : CState)) ⟨(lk_out (allR_sub (y := y1) i3 (hS.res _ i3)).1 i1 hS.res), (allR_sub (y := y1) i3 (hS.res _ i3)).2.1, (allR_sub (y := y9) i0 (hS.res _ i0))⟩⟩
   · rw [hm] <;> rfl
   · rw [hm]
     show (⟨_, (lk y1.locks y3).xs.map CLock.abs, y1.pairs.xs, y9.xs.map CSession.abs⟩ : DState) = _
     rw [hF9] <;> rfl
 refine Mp ?_ Tryz.call37 (fun bs w hS => ref_HolderOf (lk y1.locks y3) (mDecode t).1.op.a w (lk_rd (hS.res _ i3).1 (hS.res _ i1)))
 refine Md ((mDecode t).1.op.kind = 1) (fun h8 => ?_) fun h8 => ?_
 · refine Mu ?_ Tryz.call38 (fun bs w hS => ref_TakenOf (lk y1.locks y3) (mDecode t).1.op.a (mDecode t).1.client false w (lk_rd (hS.res _ i3).1 (hS.res _ i1)) hcb5)
   rintro fp10 y10 hF10 hok10
   refine Mi ?_ (pR (x.index + 1))
   refine Mu ?_ Tryz.call42 (fun bs w hS => ref_KeptOf y9 (x.index + 1) (mDecode t).1.client (mDecode t).1.seq (mTake ((lk y1.locks y3).xs.map CLock.abs) (mDecode t).1.op.a (mDecode t).1.client false).2.1 w (hS.res _ i1) (by unfold inR; omega) (by unfold inR; omega) (by rw [mTake_text]; exact Nat.zero_le _))
   rintro fp11 y11 hF11 hok11
   refine Mi ?_ (pR (x.index + 1))
   refine Mda 5 [] [1, 2] [subR fp11 y11, subR fp10 y10, subR fp9 y9, lkR y3, subR fp2 y2, subR fp1 y1] Tryz_mixed ?_
   refine Mz ?_
   refine Mt [.agg #[vi (x.index + 1), y10.val, y1.pairs.val, y11.val], ((mTake ((lk y1.locks y3).xs.map CLock.abs) (mDecode t).1.op.a (mDecode t).1.client false).2.1).val, vi 0] fun bs w hS => ?_
   have e3 : aFresh y1.abs = y2.xs.map CSession.abs := by unfold aFresh; rw [show y1.abs.index = x.index from hix]; exact hF2.symm
   have e4 : aLocks y1.abs = (lk y1.locks y3).xs.map CLock.abs := by unfold aLocks; rw [e3]; exact hF3.symm
   have hs : mStep x.abs (mDecode t).1 = _ := (congrArg (fun q => mStep q (mDecode t).1) hF1).symm.trans (step_do e3 e4 h5 h6 (by rw [show y1.abs.index = x.index from hix]; exact h7))
   rw [show y1.abs.index = x.index from hix] at hs
   have hmD : mDo ((lk y1.locks y3).xs.map CLock.abs) y1.pairs.xs (mDecode t).1.client (mDecode t).1.op = ((mTake ((lk y1.locks y3).xs.map CLock.abs) (mDecode t).1.op.a (mDecode t).1.client false).1, y1.pairs.xs, (mTake ((lk y1.locks y3).xs.map CLock.abs) (mDecode t).1.op.a (mDecode t).1.client false).2.1) := by unfold mDo; rw [if_pos (.inl h8), show decide ((mDecode t).1.op.kind = 2) = false from decide_eq_false (by omega)]
   rw [show y1.abs.pairs = y1.pairs.xs from rfl, hmD] at hs
   have hm := apply_ok h1 (by show ¬ _ ≤ x.index; omega) h4 hs
   refine ⟨(⟨x.index + 1, y10, y1.pairs, y11⟩ : CState), ?_, ?_, hS.outS (y := (⟨x.index + 1, y10, y1.pairs, y11⟩ : CState)) ⟨(allR_sub (y := y10) i1 (hS.res _ i1)), (allR_sub (y := y1) i5 (hS.res _ i5)).2.1, (allR_sub (y := y11) i0 (hS.res _ i0))⟩⟩
   · rw [hm] <;> rfl
   · rw [hm]
     show (⟨_, y10.xs.map CLock.abs, y1.pairs.xs, y11.xs.map CSession.abs⟩ : DState) = _
     rw [hF10, hF11, hF9] <;> rfl
 refine Md ((mDecode t).1.op.kind = 2) (fun h9 => ?_) fun h9 => ?_
 · refine Mu ?_ Tryz.call38 (fun bs w hS => ref_TakenOf (lk y1.locks y3) (mDecode t).1.op.a (mDecode t).1.client true w (lk_rd (hS.res _ i3).1 (hS.res _ i1)) hcb5)
   rintro fp12 y12 hF12 hok12
   refine Mi ?_ (pR (x.index + 1))
   refine Mu ?_ Tryz.call42 (fun bs w hS => ref_KeptOf y9 (x.index + 1) (mDecode t).1.client (mDecode t).1.seq (mTake ((lk y1.locks y3).xs.map CLock.abs) (mDecode t).1.op.a (mDecode t).1.client true).2.1 w (hS.res _ i1) (by unfold inR; omega) (by unfold inR; omega) (by rw [mTake_text]; exact Nat.zero_le _))
   rintro fp13 y13 hF13 hok13
   refine Mi ?_ (pR (x.index + 1))
   refine Mda 5 [] [1, 2] [subR fp13 y13, subR fp12 y12, subR fp9 y9, lkR y3, subR fp2 y2, subR fp1 y1] Tryz_mixed ?_
   refine Mz ?_
   refine Mt [.agg #[vi (x.index + 1), y12.val, y1.pairs.val, y13.val], ((mTake ((lk y1.locks y3).xs.map CLock.abs) (mDecode t).1.op.a (mDecode t).1.client true).2.1).val, vi 0] fun bs w hS => ?_
   have e3 : aFresh y1.abs = y2.xs.map CSession.abs := by unfold aFresh; rw [show y1.abs.index = x.index from hix]; exact hF2.symm
   have e4 : aLocks y1.abs = (lk y1.locks y3).xs.map CLock.abs := by unfold aLocks; rw [e3]; exact hF3.symm
   have hs : mStep x.abs (mDecode t).1 = _ := (congrArg (fun q => mStep q (mDecode t).1) hF1).symm.trans (step_do e3 e4 h5 h6 (by rw [show y1.abs.index = x.index from hix]; exact h7))
   rw [show y1.abs.index = x.index from hix] at hs
   have hmD : mDo ((lk y1.locks y3).xs.map CLock.abs) y1.pairs.xs (mDecode t).1.client (mDecode t).1.op = ((mTake ((lk y1.locks y3).xs.map CLock.abs) (mDecode t).1.op.a (mDecode t).1.client true).1, y1.pairs.xs, (mTake ((lk y1.locks y3).xs.map CLock.abs) (mDecode t).1.op.a (mDecode t).1.client true).2.1) := by grind [mDo]
   rw [show y1.abs.pairs = y1.pairs.xs from rfl, hmD] at hs
   have hm := apply_ok h1 (by show ¬ _ ≤ x.index; omega) h4 hs
   refine ⟨(⟨x.index + 1, y12, y1.pairs, y13⟩ : CState), ?_, ?_, hS.outS (y := (⟨x.index + 1, y12, y1.pairs, y13⟩ : CState)) ⟨(allR_sub (y := y12) i1 (hS.res _ i1)), (allR_sub (y := y1) i5 (hS.res _ i5)).2.1, (allR_sub (y := y13) i0 (hS.res _ i0))⟩⟩
   · rw [hm] <;> rfl
   · rw [hm]
     show (⟨_, y12.xs.map CLock.abs, y1.pairs.xs, y13.xs.map CSession.abs⟩ : DState) = _
     rw [hF12, hF13, hF9] <;> rfl
 refine Md ((mDecode t).1.op.kind = 3) (fun h10 => ?_) fun h10 => ?_
 · refine Mu ?_ Tryz.call39 (fun bs w hS => ref_FreedOf (lk y1.locks y3) (mDecode t).1.op.a (mDecode t).1.client w (lk_rd (hS.res _ i3).1 (hS.res _ i1)) hcb5)
   rintro fp14 y14 hF14 hok14
   refine Mi ?_ (pR (x.index + 1))
   refine Mu ?_ Tryz.call42 (fun bs w hS => ref_KeptOf y9 (x.index + 1) (mDecode t).1.client (mDecode t).1.seq (mFree ((lk y1.locks y3).xs.map CLock.abs) (mDecode t).1.op.a (mDecode t).1.client).2.1 w (hS.res _ i1) (by unfold inR; omega) (by unfold inR; omega) (by rw [mFree_text]; exact Nat.zero_le _))
   rintro fp15 y15 hF15 hok15
   refine Mi ?_ (pR (x.index + 1))
   refine Mda 5 [] [1, 2] [subR fp15 y15, subR fp14 y14, subR fp9 y9, lkR y3, subR fp2 y2, subR fp1 y1] Tryz_mixed ?_
   refine Mz ?_
   refine Mt [.agg #[vi (x.index + 1), y14.val, y1.pairs.val, y15.val], ((mFree ((lk y1.locks y3).xs.map CLock.abs) (mDecode t).1.op.a (mDecode t).1.client).2.1).val, vi 0] fun bs w hS => ?_
   have e3 : aFresh y1.abs = y2.xs.map CSession.abs := by unfold aFresh; rw [show y1.abs.index = x.index from hix]; exact hF2.symm
   have e4 : aLocks y1.abs = (lk y1.locks y3).xs.map CLock.abs := by unfold aLocks; rw [e3]; exact hF3.symm
   have hs : mStep x.abs (mDecode t).1 = _ := (congrArg (fun q => mStep q (mDecode t).1) hF1).symm.trans (step_do e3 e4 h5 h6 (by rw [show y1.abs.index = x.index from hix]; exact h7))
   rw [show y1.abs.index = x.index from hix] at hs
   have hmD : mDo ((lk y1.locks y3).xs.map CLock.abs) y1.pairs.xs (mDecode t).1.client (mDecode t).1.op = ((mFree ((lk y1.locks y3).xs.map CLock.abs) (mDecode t).1.op.a (mDecode t).1.client).1, y1.pairs.xs, (mFree ((lk y1.locks y3).xs.map CLock.abs) (mDecode t).1.op.a (mDecode t).1.client).2.1) := by grind [mDo]
   rw [show y1.abs.pairs = y1.pairs.xs from rfl, hmD] at hs
   have hm := apply_ok h1 (by show ¬ _ ≤ x.index; omega) h4 hs
   refine ⟨(⟨x.index + 1, y14, y1.pairs, y15⟩ : CState), ?_, ?_, hS.outS (y := (⟨x.index + 1, y14, y1.pairs, y15⟩ : CState)) ⟨(allR_sub (y := y14) i1 (hS.res _ i1)), (allR_sub (y := y1) i5 (hS.res _ i5)).2.1, (allR_sub (y := y15) i0 (hS.res _ i0))⟩⟩
   · rw [hm] <;> rfl
   · rw [hm]
     show (⟨_, y14.xs.map CLock.abs, y1.pairs.xs, y15.xs.map CSession.abs⟩ : DState) = _
     rw [hF14, hF15, hF9] <;> rfl
 refine Md ((mDecode t).1.op.kind = 4) (fun h11 => ?_) fun h11 => ?_
 · refine Mi ?_ (pR (x.index + 1))
   refine Mu ?_ Tryz.call42 (fun bs w hS => ref_KeptOf y9 (x.index + 1) (mDecode t).1.client (mDecode t).1.seq (⟨0, (mWho ((lk y1.locks y3).xs.map CLock.abs) (mDecode t).1.op.a).1, emp⟩ : DReply) w (hS.res _ i0) (by unfold inR; omega) (by unfold inR; omega) (by first | assumption | omega | (simp only [emp_size]; omega)))
   rintro fp16 y16 hF16 hok16
   refine Mi ?_ (pR (x.index + 1))
   refine Mda 5 [] [1, 2] [subR fp16 y16, subR fp9 y9, lkR y3, subR fp2 y2, subR fp1 y1] Tryz_mixed ?_
   refine Mz ?_
   refine Mt [.agg #[vi (x.index + 1), .slice (lk y1.locks y3).A (lk y1.locks y3).n (lk y1.locks y3).c, y1.pairs.val, y16.val], .agg #[vi 0, vi (mWho ((lk y1.locks y3).xs.map CLock.abs) (mDecode t).1.op.a).1, ve], vi 0] fun bs w hS => ?_
   have e3 : aFresh y1.abs = y2.xs.map CSession.abs := by unfold aFresh; rw [show y1.abs.index = x.index from hix]; exact hF2.symm
   have e4 : aLocks y1.abs = (lk y1.locks y3).xs.map CLock.abs := by unfold aLocks; rw [e3]; exact hF3.symm
   have hs : mStep x.abs (mDecode t).1 = _ := (congrArg (fun q => mStep q (mDecode t).1) hF1).symm.trans (step_do e3 e4 h5 h6 (by rw [show y1.abs.index = x.index from hix]; exact h7))
   rw [show y1.abs.index = x.index from hix] at hs
   have hmD : mDo ((lk y1.locks y3).xs.map CLock.abs) y1.pairs.xs (mDecode t).1.client (mDecode t).1.op = ((lk y1.locks y3).xs.map CLock.abs, y1.pairs.xs, ⟨0, (mWho ((lk y1.locks y3).xs.map CLock.abs) (mDecode t).1.op.a).1, emp⟩) := by grind [mDo]
   rw [show y1.abs.pairs = y1.pairs.xs from rfl, hmD] at hs
   have hm := apply_ok h1 (by show ¬ _ ≤ x.index; omega) h4 hs
   refine ⟨(⟨x.index + 1, (lk y1.locks y3), y1.pairs, y16⟩ : CState), ?_, ?_, hS.outS (y := (⟨x.index + 1, (lk y1.locks y3), y1.pairs, y16⟩ : CState)) ⟨(lk_out (allR_sub (y := y1) i4 (hS.res _ i4)).1 i2 hS.res), (allR_sub (y := y1) i4 (hS.res _ i4)).2.1, (allR_sub (y := y16) i0 (hS.res _ i0))⟩⟩
   · rw [hm] <;> rfl
   · rw [hm]
     show (⟨_, (lk y1.locks y3).xs.map CLock.abs, y1.pairs.xs, y16.xs.map CSession.abs⟩ : DState) = _
     rw [hF16, hF9] <;> rfl
 refine Md ((mDecode t).1.op.kind = 6) (fun h12 => ?_) fun h12 => ?_
 · refine Mp ?_ Tryz.call40 (fun bs w hS => ref_GotOf y1.pairs (mDecode t).1.op.a w (hS.res _ i3).2.1)
   refine Mi ?_ (pR (x.index + 1))
   refine Mu ?_ Tryz.call42 (fun bs w hS => ref_KeptOf y9 (x.index + 1) (mDecode t).1.client (mDecode t).1.seq (mGot y1.pairs.xs (mDecode t).1.op.a).1 w (hS.res _ i0) (by unfold inR; omega) (by unfold inR; omega) (mGot_text (fun p hp => mem_getD (P := fun p : DPair => p.value.size ≤ 9223372036854775807) (fun j hj => ((hok1.2.1).2.2 j hj).2.2) p hp) _))
   rintro fp17 y17 hF17 hok17
   refine Mi ?_ (pR (x.index + 1))
   refine Mda 5 [] [1, 2] [subR fp17 y17, subR fp9 y9, lkR y3, subR fp2 y2, subR fp1 y1] Tryz_mixed ?_
   refine Mz ?_
   refine Mt [.agg #[vi (x.index + 1), .slice (lk y1.locks y3).A (lk y1.locks y3).n (lk y1.locks y3).c, y1.pairs.val, y17.val], (mGot y1.pairs.xs (mDecode t).1.op.a).1.val, vi 0] fun bs w hS => ?_
   have e3 : aFresh y1.abs = y2.xs.map CSession.abs := by unfold aFresh; rw [show y1.abs.index = x.index from hix]; exact hF2.symm
   have e4 : aLocks y1.abs = (lk y1.locks y3).xs.map CLock.abs := by unfold aLocks; rw [e3]; exact hF3.symm
   have hs : mStep x.abs (mDecode t).1 = _ := (congrArg (fun q => mStep q (mDecode t).1) hF1).symm.trans (step_do e3 e4 h5 h6 (by rw [show y1.abs.index = x.index from hix]; exact h7))
   rw [show y1.abs.index = x.index from hix] at hs
   have hmD : mDo ((lk y1.locks y3).xs.map CLock.abs) y1.pairs.xs (mDecode t).1.client (mDecode t).1.op = ((lk y1.locks y3).xs.map CLock.abs, y1.pairs.xs, (mGot y1.pairs.xs (mDecode t).1.op.a).1) := by grind [mDo]
   rw [show y1.abs.pairs = y1.pairs.xs from rfl, hmD] at hs
   have hm := apply_ok h1 (by show ¬ _ ≤ x.index; omega) h4 hs
   refine ⟨(⟨x.index + 1, (lk y1.locks y3), y1.pairs, y17⟩ : CState), ?_, ?_, hS.outS (y := (⟨x.index + 1, (lk y1.locks y3), y1.pairs, y17⟩ : CState)) ⟨(lk_out (allR_sub (y := y1) i4 (hS.res _ i4)).1 i2 hS.res), (allR_sub (y := y1) i4 (hS.res _ i4)).2.1, (allR_sub (y := y17) i0 (hS.res _ i0))⟩⟩
   · rw [hm] <;> rfl
   · rw [hm]
     show (⟨_, (lk y1.locks y3).xs.map CLock.abs, y1.pairs.xs, y17.xs.map CSession.abs⟩ : DState) = _
     rw [hF17, hF9] <;> rfl
 refine Md ((mWho ((lk y1.locks y3).xs.map CLock.abs) (mDecode t).1.op.a).1 = (mDecode t).1.client) (fun h13 => ?_) fun h13 => ?_
 rotate_left
 · refine Mi ?_ (pR (x.index + 1))
   refine Mu ?_ Tryz.call42 (fun bs w hS => ref_KeptOf y9 (x.index + 1) (mDecode t).1.client (mDecode t).1.seq (⟨10, (mWho ((lk y1.locks y3).xs.map CLock.abs) (mDecode t).1.op.a).1, emp⟩ : DReply) w (hS.res _ i0) (by unfold inR; omega) (by unfold inR; omega) (by first | assumption | omega | (simp only [emp_size]; omega)))
   rintro fp21 y21 hF21 hok21
   refine Mi ?_ (pR (x.index + 1))
   refine Mda 5 [] [1, 2] [subR fp21 y21, subR fp9 y9, lkR y3, subR fp2 y2, subR fp1 y1] Tryz_mixed ?_
   refine Mz ?_
   refine Mt [.agg #[vi (x.index + 1), .slice (lk y1.locks y3).A (lk y1.locks y3).n (lk y1.locks y3).c, y1.pairs.val, y21.val], .agg #[vi 10, vi (mWho ((lk y1.locks y3).xs.map CLock.abs) (mDecode t).1.op.a).1, ve], vi 0] fun bs w hS => ?_
   have e3 : aFresh y1.abs = y2.xs.map CSession.abs := by unfold aFresh; rw [show y1.abs.index = x.index from hix]; exact hF2.symm
   have e4 : aLocks y1.abs = (lk y1.locks y3).xs.map CLock.abs := by unfold aLocks; rw [e3]; exact hF3.symm
   have hs : mStep x.abs (mDecode t).1 = _ := (congrArg (fun q => mStep q (mDecode t).1) hF1).symm.trans (step_do e3 e4 h5 h6 (by rw [show y1.abs.index = x.index from hix]; exact h7))
   rw [show y1.abs.index = x.index from hix] at hs
   have hmD : mDo ((lk y1.locks y3).xs.map CLock.abs) y1.pairs.xs (mDecode t).1.client (mDecode t).1.op = ((lk y1.locks y3).xs.map CLock.abs, y1.pairs.xs, ⟨10, (mWho ((lk y1.locks y3).xs.map CLock.abs) (mDecode t).1.op.a).1, emp⟩) := by grind [mDo]
   rw [show y1.abs.pairs = y1.pairs.xs from rfl, hmD] at hs
   have hm := apply_ok h1 (by show ¬ _ ≤ x.index; omega) h4 hs
   refine ⟨(⟨x.index + 1, (lk y1.locks y3), y1.pairs, y21⟩ : CState), ?_, ?_, hS.outS (y := (⟨x.index + 1, (lk y1.locks y3), y1.pairs, y21⟩ : CState)) ⟨(lk_out (allR_sub (y := y1) i4 (hS.res _ i4)).1 i2 hS.res), (allR_sub (y := y1) i4 (hS.res _ i4)).2.1, (allR_sub (y := y21) i0 (hS.res _ i0))⟩⟩
   · rw [hm] <;> rfl
   · rw [hm]
     show (⟨_, (lk y1.locks y3).xs.map CLock.abs, y1.pairs.xs, y21.xs.map CSession.abs⟩ : DState) = _
     rw [hF21, hF9] <;> rfl
 refine Md ((mWho ((lk y1.locks y3).xs.map CLock.abs) (mDecode t).1.op.a).2.1 = (mDecode t).1.op.n) (fun h14 => ?_) fun h14 => ?_
 rotate_left
 · refine Mi ?_ (pR (x.index + 1))
   refine Mu ?_ Tryz.call42 (fun bs w hS => ref_KeptOf y9 (x.index + 1) (mDecode t).1.client (mDecode t).1.seq (⟨10, (mWho ((lk y1.locks y3).xs.map CLock.abs) (mDecode t).1.op.a).1, emp⟩ : DReply) w (hS.res _ i0) (by unfold inR; omega) (by unfold inR; omega) (by first | assumption | omega | (simp only [emp_size]; omega)))
   rintro fp20 y20 hF20 hok20
   refine Mi ?_ (pR (x.index + 1))
   refine Mda 5 [] [1, 2] [subR fp20 y20, subR fp9 y9, lkR y3, subR fp2 y2, subR fp1 y1] Tryz_mixed ?_
   refine Mz ?_
   refine Mt [.agg #[vi (x.index + 1), .slice (lk y1.locks y3).A (lk y1.locks y3).n (lk y1.locks y3).c, y1.pairs.val, y20.val], .agg #[vi 10, vi (mWho ((lk y1.locks y3).xs.map CLock.abs) (mDecode t).1.op.a).1, ve], vi 0] fun bs w hS => ?_
   have e3 : aFresh y1.abs = y2.xs.map CSession.abs := by unfold aFresh; rw [show y1.abs.index = x.index from hix]; exact hF2.symm
   have e4 : aLocks y1.abs = (lk y1.locks y3).xs.map CLock.abs := by unfold aLocks; rw [e3]; exact hF3.symm
   have hs : mStep x.abs (mDecode t).1 = _ := (congrArg (fun q => mStep q (mDecode t).1) hF1).symm.trans (step_do e3 e4 h5 h6 (by rw [show y1.abs.index = x.index from hix]; exact h7))
   rw [show y1.abs.index = x.index from hix] at hs
   have hmD : mDo ((lk y1.locks y3).xs.map CLock.abs) y1.pairs.xs (mDecode t).1.client (mDecode t).1.op = ((lk y1.locks y3).xs.map CLock.abs, y1.pairs.xs, ⟨10, (mWho ((lk y1.locks y3).xs.map CLock.abs) (mDecode t).1.op.a).1, emp⟩) := by grind [mDo]
   rw [show y1.abs.pairs = y1.pairs.xs from rfl, hmD] at hs
   have hm := apply_ok h1 (by show ¬ _ ≤ x.index; omega) h4 hs
   refine ⟨(⟨x.index + 1, (lk y1.locks y3), y1.pairs, y20⟩ : CState), ?_, ?_, hS.outS (y := (⟨x.index + 1, (lk y1.locks y3), y1.pairs, y20⟩ : CState)) ⟨(lk_out (allR_sub (y := y1) i4 (hS.res _ i4)).1 i2 hS.res), (allR_sub (y := y1) i4 (hS.res _ i4)).2.1, (allR_sub (y := y20) i0 (hS.res _ i0))⟩⟩
   · rw [hm] <;> rfl
   · rw [hm]
     show (⟨_, (lk y1.locks y3).xs.map CLock.abs, y1.pairs.xs, y20.xs.map CSession.abs⟩ : DState) = _
     rw [hF20, hF9] <;> rfl
 refine Mu ?_ Tryz.call41 (fun bs w hS => ref_SetOf y1.pairs (mDecode t).1.op.a (mDecode t).1.op.b w (hS.res _ i3).2.1 hcb5 hcb6)
 rintro fp18 y18 hF18 hok18
 refine Mi ?_ (pR (x.index + 1))
 refine Mu ?_ Tryz.call42 (fun bs w hS => ref_KeptOf y9 (x.index + 1) (mDecode t).1.client (mDecode t).1.seq (mPSet y1.pairs.xs (mDecode t).1.op.a (mDecode t).1.op.b).2.1 w (hS.res _ i1) (by unfold inR; omega) (by unfold inR; omega) (by rw [mPSet_text]; exact Nat.zero_le _))
 rintro fp19 y19 hF19 hok19
 refine Mi ?_ (pR (x.index + 1))
 refine Mda 5 [] [1, 2] [subR fp19 y19, subR fp18 y18, subR fp9 y9, lkR y3, subR fp2 y2, subR fp1 y1] Tryz_mixed ?_
 refine Mz ?_
 refine Mt [.agg #[vi (x.index + 1), .slice (lk y1.locks y3).A (lk y1.locks y3).n (lk y1.locks y3).c, y18.val, y19.val], ((mPSet y1.pairs.xs (mDecode t).1.op.a (mDecode t).1.op.b).2.1).val, vi 0] fun bs w hS => ?_
 have e3 : aFresh y1.abs = y2.xs.map CSession.abs := by unfold aFresh; rw [show y1.abs.index = x.index from hix]; exact hF2.symm
 have e4 : aLocks y1.abs = (lk y1.locks y3).xs.map CLock.abs := by unfold aLocks; rw [e3]; exact hF3.symm
 have hs : mStep x.abs (mDecode t).1 = _ := (congrArg (fun q => mStep q (mDecode t).1) hF1).symm.trans (step_do e3 e4 h5 h6 (by rw [show y1.abs.index = x.index from hix]; exact h7))
 rw [show y1.abs.index = x.index from hix] at hs
 have hmD : mDo ((lk y1.locks y3).xs.map CLock.abs) y1.pairs.xs (mDecode t).1.client (mDecode t).1.op = ((lk y1.locks y3).xs.map CLock.abs, (mPSet y1.pairs.xs (mDecode t).1.op.a (mDecode t).1.op.b).1, (mPSet y1.pairs.xs (mDecode t).1.op.a (mDecode t).1.op.b).2.1) := by grind [mDo]
 rw [show y1.abs.pairs = y1.pairs.xs from rfl, hmD] at hs
 have hm := apply_ok h1 (by show ¬ _ ≤ x.index; omega) h4 hs
 refine ⟨(⟨x.index + 1, (lk y1.locks y3), y18, y19⟩ : CState), ?_, ?_, hS.outS (y := (⟨x.index + 1, (lk y1.locks y3), y18, y19⟩ : CState)) ⟨(lk_out (allR_sub (y := y1) i5 (hS.res _ i5)).1 i3 hS.res), (allR_sub (y := y18) i1 (hS.res _ i1)), (allR_sub (y := y19) i0 (hS.res _ i0))⟩⟩
 · rw [hm] <;> rfl
 · rw [hm]
   show (⟨_, (lk y1.locks y3).xs.map CLock.abs, y18.xs, y19.xs.map CSession.abs⟩ : DState) = _
   rw [hF18, hF19, hF9] <;> rfl

theorem law_MachineApplies {B : Nat → Prop} (x : CState) (t : ByteArray) (w : World) (hx : Rds.sub B w x) (ht : t.size ≤ 9223372036854775807) (hsm : Rds.small x) : Calls Tryz.prog 3 #[x.val, vs t] w fun e w' => e = .returned (vb true) ∧ Kp [] w w' := by
 have okx := Rds.okof hx
 refine M0 ?_ Tryz.func3
 refine Mu ?_ Tryz.call6 (fun bs w hS => ref_StateCopy x w (Rds.kp hx hS.kp) hsm)
 rintro fp1 y1 hF1 hok1
 refine Mu ?_ Tryz.call7 (fun bs w hS => machine_Apply y1 t w (hS.res _ i0) ht)
 rintro fp2 y2 hF2 hok2
 refine Mu ?_ Tryz.call8 (fun bs w hS => ref_AppliedOf x t w (Rds.kp hx hS.kp) ht)
 rintro fp3 y3 hF3 hok3
 refine Mi ?_ (pG [(30, .val (vb ((decide (((mApply y1.abs t).2.1).code = ((mApply x.abs t).2.1).code)) && ((decide (((mApply y1.abs t).2.1).n = ((mApply x.abs t).2.1).n)) && ((decide (((mApply y1.abs t).2.1).text = ((mApply x.abs t).2.1).text)) && true)))))] (oc ((eq_agg (by kernel_rfl) (by kernel_rfl)) : ∀ w, (do eqGuard .eql 30 (.tmp 28) (.tmp 29) ((mApply y1.abs t).2.1).val ((mApply x.abs t).2.1).val; binOp .eql 30 ((mApply y1.abs t).2.1).val ((mApply x.abs t).2.1).val : Sem Value).run Tryz.prog w = .ok (vb ((decide (((mApply y1.abs t).2.1).code = ((mApply x.abs t).2.1).code)) && ((decide (((mApply y1.abs t).2.1).n = ((mApply x.abs t).2.1).n)) && ((decide (((mApply y1.abs t).2.1).text = ((mApply x.abs t).2.1).text)) && true)))) w) on))
 refine Mb ((decide (((mApply y1.abs t).2.1).code = ((mApply x.abs t).2.1).code)) && ((decide (((mApply y1.abs t).2.1).n = ((mApply x.abs t).2.1).n)) && ((decide (((mApply y1.abs t).2.1).text = ((mApply x.abs t).2.1).text)) && true))) (fun h1 => ?_) fun h1 => ?_
 rotate_left
 · exfalso; first | (simp at h1; done) | (rw [hF1] at h1; simp at h1; done)
 refine Md ((mApply y1.abs t).2.2 = (mApply x.abs t).2.2) (fun h2 => ?_) fun h2 => ?_
 rotate_left
 · exfalso; first | (simp at h2; done) | (rw [hF1] at h2; simp at h2; done)
 refine Mp ?_ Tryz.call9 (fun bs w hS => same_state y2 y3 w (hS.res _ i1) (hS.res _ i0) (by rw [hF2, hF3, hF1]))
 refine Mq 41 true ?_ rfl
 refine Mp ?_ Tryz.call9 (fun bs w hS => same_state y1 x w (hS.res _ i2) (Rds.kp hx hS.kp) hF1)
 exact Meb true (by simp [retOf, den])

end Go.Proofs.YtbjakddkfgjkaaaGreat.W
