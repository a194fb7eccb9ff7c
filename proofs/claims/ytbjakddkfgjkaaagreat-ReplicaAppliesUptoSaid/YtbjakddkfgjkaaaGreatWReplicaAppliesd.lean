/-
  The functions that the law ReplicaApplies reaches, walked: each returns what its model says.
  Conditions: those that each theorem states.
-/
import Derived.Test.YtbjakddkfgjkaaaGreatWReplicaAppliesc
set_option linter.unusedVariables false
set_option linter.unusedSimpArgs false
set_option maxRecDepth 100000
set_option maxHeartbeats 2000000
namespace Go.Proofs.YtbjakddkfgjkaaaGreat.W
open Go.Proofs.YtbjakddkfgjkaaaGreat.Fw Go.RowKit
attribute [local irreducible] JM nx

theorem machine_gone {B B' : Nat → Prop} (z : CState) (s : Sl CSession) (b : Nat) (w : World) (hb : (blkR b 26 [.int .i64 z.index, .slice z.locks.A z.locks.n z.locks.c, .slice z.pairs.A z.pairs.n z.pairs.c, .slice z.sessions.A z.sessions.n z.sessions.c]).p w) (hz : ∀ w', Kp [b] w w' → Rds.sub B w' z) (hs : ∀ w', Kp [b] w w' → s.rd B' w') : Calls Tryz.prog 24 #[.pointer (some (⟨b, 0, none⟩ : Addr)), .slice s.A s.n s.c] w fun e w' => ∃ y : Option (List Nat × Sl CLock), e = .returned (.tuple #[]) ∧ (lk z.locks y).xs.map CLock.abs = mRel (z.locks.xs.map CLock.abs) (s.xs.map CSession.abs) (z.sessions.xs.map CSession.abs) ∧ TurnedN (blkR b 26 [.int .i64 z.index, .slice z.locks.A z.locks.n z.locks.c, .slice z.pairs.A z.pairs.n z.pairs.c, .slice z.sessions.A z.sessions.n z.sessions.c]) w w' (blkR b 26 [.int .i64 z.index, .slice (lk z.locks y).A (lk z.locks y).n (lk z.locks y).c, .slice z.pairs.A z.pairs.n z.pairs.c, .slice z.sessions.A z.sessions.n z.sessions.c]) (lkR y) := by
 have oks := Sl.rd.ok (hs w (Kp.refl _ _))
 have ncs := Sl.ok.nc oks
 have hns : s.n = s.xs.length := rfl
 have okz := Rds.okof (hz w (Kp.refl _ _))
 refine Mj Tryz.func24 (WS.start1 w _ hb (by simp [blkR]) (blkR_lt hb)) (J := ?_)
 refine m_nores (lkR (none : Option (List Nat × Sl CLock))) rfl (fun w => trivial) ?_
 refine Ml (σ := Nat × Option (List Nat × Sl CLock)) (fun ⟨i, o⟩ => i ≤ s.n ∧ (lk z.locks o).xs.map CLock.abs = mRel (z.locks.xs.map CLock.abs) ((s.xs.map CSession.abs).take i) (z.sessions.xs.map CSession.abs)) (fun ⟨i, o⟩ => s.n - i) (fun ⟨i, o⟩ => [lkR o, blkR b 26 [.int .i64 z.index, .slice (lk z.locks o).A (lk z.locks o).n (lk z.locks o).c, .slice z.pairs.A z.pairs.n z.pairs.c, .slice z.sessions.A z.sessions.n z.sessions.c]]) [8, 7, 6, 0] (fun ⟨i, o⟩ => [(8, vI (i : Int))]) (fun _ => []) (⟨0, none⟩) ⟨Nat.zero_le _, rfl⟩ (B := ?_)
 rintro ⟨i, o⟩ ⟨hi, hI⟩ _ on1
 refine Md ((i : Int) < (s.n : Int)) (T := fun h1 => ?_) (F := fun h1 => ?_)
 rotate_left
 · refine Mt [] fun bs w hS => ?_
   have hS2 := hS.f1
   have hte : (s.xs.map CSession.abs).take i = s.xs.map CSession.abs := List.take_of_length_le (by rw [List.length_map]; omega)
   rw [hte] at hI
   exact ⟨o, rfl, hI, (hS2.turnedN (fun _ h => h)).as (allR_one _ _) (allR_one_fp _)⟩
 refine Mi (pc (pA 10 11 (i : Int) i (s := s) (fun w hk hr => (hs _ hk))) (pBk 15 3 1 (.tail _ (.head _)))) (J := ?_)
 refine Mp (vs := fun bs => [.slice z.sessions.A z.sessions.n z.sessions.c, .func (.func 74) #[] #[.pointer (some (adr bs 0 0))]]) Tryz.call73 (fun bs w hS => has_Session z.sessions (fun x : CSession => decide (x.client = (s.at i).client)) 74 #[.pointer (some (adr bs 0 0))] w (And.right (And.right (hz _ hS.kp))) Tryz.call74 (fun w' z' hz' hk => clo_machine_gone_1 z' (s.at i) (bs.getD 0 0) w' (show (blkR _ _ _).p w' from (hS.pure hk).loc 0 ⟨118, [vI (s.at i).client, vI (s.at i).id, vI (s.at i).acked, vI (s.at i).last, .v (.slice (s.at i).replies.A (s.at i).replies.n (s.at i).replies.c)]⟩ (by kernel_rfl) (by simp)))) (J := ?_)
 refine Mdn ((0 : Int) ≤ mIdx (fun x : CSession => decide (x.client = (s.at i).client)) z.sessions.xs) (T := fun h2 => ?_) (F := fun h2 => ?_)
 · refine Mi (pR ((i : Int) + 1)) (J := ?_)
   have hsx : sIdx (z.sessions.xs.map CSession.abs) (s.at i).abs.client = mIdx (fun x : CSession => decide (x.client = (s.at i).client)) z.sessions.xs := (mIdx_map CSession.abs (fun x : DSession => decide (x.client = (s.at i).client)) z.sessions.xs).symm
   have hgo : (lk z.locks (o)).xs.map CLock.abs = if sIdx (z.sessions.xs.map CSession.abs) (s.at i).abs.client < 0 then (mGone ((lk z.locks o).xs.map CLock.abs) (s.at i).abs.client).1 else (lk z.locks o).xs.map CLock.abs := by rw [hsx, if_neg (by omega)]
   refine m_f1 (m_f1 ?_)
   exact on1 (⟨i + 1, o⟩ : Nat × Option (List Nat × Sl CLock)) ⟨by omega, rel_next (by rw [List.length_map]; omega) (sabs_at i) hI hgo⟩ (by show s.n - (i + 1) < s.n - i; omega)
 refine Mda 14 [13] [] [lkR o, blkR b 26 [.int .i64 z.index, .slice (lk z.locks o).A (lk z.locks o).n (lk z.locks o).c, .slice z.pairs.A z.pairs.n z.pairs.c, .slice z.sessions.A z.sessions.n z.sessions.c]] Tryz_mixed (J := ?_)
 refine Mih (pBk 24 1 1 (.tail _ (.head _))) (J := ?_)
 refine Mu (vs := fun bs => [.slice (lk z.locks o).A (lk z.locks o).n (lk z.locks o).c, .int .i64 (s.at i).client]) Tryz.call75 (fun bs w hS => lock_Gone (lk z.locks o) (s.at i).client w (lk_rd (And.left (hz _ hS.kp)) (hS.res _ (.head _)))) (J := ?_)
 rintro fp1 y1 hF1 hok1
 refine m_f2 ?_
 refine MsbX [lkR o] 1 [.int .i64 z.index, .slice y1.A y1.n y1.c, .slice z.pairs.A z.pairs.n z.pairs.c, .slice z.sessions.A z.sessions.n z.sessions.c] (hR := (.cons _ (.cons _ (List.Sublist.refl _)))) (J := ?_)
 refine Mz (J := ?_)
 refine Mi (pR ((i : Int) + 1)) (J := ?_)
 have hsx : sIdx (z.sessions.xs.map CSession.abs) (s.at i).abs.client = mIdx (fun x : CSession => decide (x.client = (s.at i).client)) z.sessions.xs := (mIdx_map CSession.abs (fun x : DSession => decide (x.client = (s.at i).client)) z.sessions.xs).symm
 refine m_f2 ?_
 refine m_weak noR (List.nil_sublist _) (fun _ _ => trivial) ?_
 refine m_f2 ?_
 refine m_join (lkR (some (fp1, y1))) (by show List.Perm fp1 (fp1 ++ []); rw [List.append_nil]) (fun w h1 h2 => h1) ?_
 have hgo : (lk z.locks (some (fp1, y1))).xs.map CLock.abs = if sIdx (z.sessions.xs.map CSession.abs) (s.at i).abs.client < 0 then (mGone ((lk z.locks o).xs.map CLock.abs) (s.at i).abs.client).1 else (lk z.locks o).xs.map CLock.abs := by rw [hsx, if_pos (by omega)]; exact hF1
 refine m_f1 (m_f1 ?_)
 exact on1 (⟨i + 1, some (fp1, y1)⟩ : Nat × Option (List Nat × Sl CLock)) ⟨by omega, rel_next (by rw [List.length_map]; omega) (sabs_at i) hI hgo⟩ (by show s.n - (i + 1) < s.n - i; omega)

theorem machine_do {B B' : Nat → Prop} (z : CState) (who : Int) (o : DOp) (b : Nat) (w : World) (hb : (blkR b 26 [.int .i64 z.index, .slice z.locks.A z.locks.n z.locks.c, .slice z.pairs.A z.pairs.n z.pairs.c, .slice z.sessions.A z.sessions.n z.sessions.c]).p w) (hz : ∀ w', Kp [b] w w' → Rds.sub B w' z) (ho : Rds.sub B' w o) : Calls Tryz.prog 28 #[.pointer (some (⟨b, 0, none⟩ : Addr)), .int .i64 who, .agg #[.int .i64 o.kind, .string o.a, .string o.b, .int .i64 o.n]] w fun e w' => ∃ y : Option (List Nat × Sl CLock) × Option (List Nat × Sl DPair), e = .returned (.agg #[.int .i64 ((mDo (z.locks.xs.map CLock.abs) z.pairs.xs who o).2.2).code, .int .i64 ((mDo (z.locks.xs.map CLock.abs) z.pairs.xs who o).2.2).n, .string ((mDo (z.locks.xs.map CLock.abs) z.pairs.xs who o).2.2).text]) ∧ ((lk z.locks y.1).xs.map CLock.abs = (mDo (z.locks.xs.map CLock.abs) z.pairs.xs who o).1 ∧ (lk z.pairs y.2).xs = (mDo (z.locks.xs.map CLock.abs) z.pairs.xs who o).2.1) ∧ TurnedN (blkR b 26 [.int .i64 z.index, .slice z.locks.A z.locks.n z.locks.c, .slice z.pairs.A z.pairs.n z.pairs.c, .slice z.sessions.A z.sessions.n z.sessions.c]) w w' (blkR b 26 [.int .i64 z.index, .slice (lk z.locks y.1).A (lk z.locks y.1).n (lk z.locks y.1).c, .slice (lk z.pairs y.2).A (lk z.pairs y.2).n (lk z.pairs y.2).c, .slice z.sessions.A z.sessions.n z.sessions.c]) (allR [lkR y.1, lkR y.2]) := by
 have okz := Rds.okof (hz w (Kp.refl _ _))
 refine Mj Tryz.func28 (WS.start1 w _ hb (by simp [blkR]) (blkR_lt hb)) (J := ?_)
 refine Mda 14 [] [] [blkR b 26 [.int .i64 z.index, .slice z.locks.A z.locks.n z.locks.c, .slice z.pairs.A z.pairs.n z.pairs.c, .slice z.sessions.A z.sessions.n z.sessions.c]] Tryz_mixed (J := ?_)
 refine Mih (pBk 15 1 1 (.head _)) (J := ?_)
 refine Mp (vs := fun bs => [.slice z.locks.A z.locks.n z.locks.c, .string o.a]) Tryz.call83 (fun bs w hS => lock_Who z.locks o.a w (And.left (hz _ hS.kp))) (J := ?_)
 refine Mz (J := ?_)
 refine Md (o.kind = 1) (T := fun h1 => ?_) (F := fun h1 => ?_)
 · refine Mda 20 [18] [2] [blkR b 26 [.int .i64 z.index, .slice z.locks.A z.locks.n z.locks.c, .slice z.pairs.A z.pairs.n z.pairs.c, .slice z.sessions.A z.sessions.n z.sessions.c]] Tryz_mixed (J := ?_)
   refine Mih (pBk 52 1 1 (.head _)) (J := ?_)
   refine Mu (vs := fun bs => [.slice z.locks.A z.locks.n z.locks.c, .string o.a, .int .i64 who, .bool (decide (o.kind = 2))]) Tryz.call84 (fun bs w hS => lock_Take z.locks o.a who (decide (o.kind = 2)) w (And.left (hz _ hS.kp)) (And.left ho)) (J := ?_)
   rintro fp1 y1 hF1 hok1
   refine m_f1 ?_
   refine MsbX [] 1 [.int .i64 z.index, .slice y1.A y1.n y1.c, .slice z.pairs.A z.pairs.n z.pairs.c, .slice z.sessions.A z.sessions.n z.sessions.c] (J := ?_)
   refine Mt [.agg #[.int .i64 ((mTake (z.locks.xs.map CLock.abs) o.a who (decide (o.kind = 2))).2.1).code, .int .i64 ((mTake (z.locks.xs.map CLock.abs) o.a who (decide (o.kind = 2))).2.1).n, .string ((mTake (z.locks.xs.map CLock.abs) o.a who (decide (o.kind = 2))).2.1).text]] fun bs w hS => ?_
   have hS2 := hS.f1.f1
   have hm : mDo (z.locks.xs.map CLock.abs) z.pairs.xs who o = ((mTake (z.locks.xs.map CLock.abs) o.a who (decide (o.kind = 2))).1, z.pairs.xs, (mTake (z.locks.xs.map CLock.abs) o.a who (decide (o.kind = 2))).2.1) := by unfold mDo; rw [if_pos (.inl h1)]
   refine ⟨(some (fp1, y1), none), ?_, ⟨?_, ?_⟩, (hS2.turnedN (fun _ h => h)).as (fun h r hr => ?_) (by simp [allR, lkR, noR])⟩
   · rw [hm] <;> rfl
   · rw [hm] <;> exact hF1
   · rw [hm] <;> rfl
   · simp only [List.mem_cons, List.not_mem_nil, or_false] at hr
     rcases hr with rfl | rfl
     · exact h _ (.head _)
     · trivial
 refine Md (o.kind = 2) (T := fun h2 => ?_) (F := fun h2 => ?_)
 · refine Mda 20 [18] [2] [blkR b 26 [.int .i64 z.index, .slice z.locks.A z.locks.n z.locks.c, .slice z.pairs.A z.pairs.n z.pairs.c, .slice z.sessions.A z.sessions.n z.sessions.c]] Tryz_mixed (J := ?_)
   refine Mih (pBk 52 1 1 (.head _)) (J := ?_)
   refine Mu (vs := fun bs => [.slice z.locks.A z.locks.n z.locks.c, .string o.a, .int .i64 who, .bool (decide (o.kind = 2))]) Tryz.call84 (fun bs w hS => lock_Take z.locks o.a who (decide (o.kind = 2)) w (And.left (hz _ hS.kp)) (And.left ho)) (J := ?_)
   rintro fp2 y2 hF2 hok2
   refine m_f1 ?_
   refine MsbX [] 1 [.int .i64 z.index, .slice y2.A y2.n y2.c, .slice z.pairs.A z.pairs.n z.pairs.c, .slice z.sessions.A z.sessions.n z.sessions.c] (J := ?_)
   refine Mt [.agg #[.int .i64 ((mTake (z.locks.xs.map CLock.abs) o.a who (decide (o.kind = 2))).2.1).code, .int .i64 ((mTake (z.locks.xs.map CLock.abs) o.a who (decide (o.kind = 2))).2.1).n, .string ((mTake (z.locks.xs.map CLock.abs) o.a who (decide (o.kind = 2))).2.1).text]] fun bs w hS => ?_
   have hS2 := hS.f1.f1
   have hm : mDo (z.locks.xs.map CLock.abs) z.pairs.xs who o = ((mTake (z.locks.xs.map CLock.abs) o.a who (decide (o.kind = 2))).1, z.pairs.xs, (mTake (z.locks.xs.map CLock.abs) o.a who (decide (o.kind = 2))).2.1) := by unfold mDo; rw [if_pos (.inr h2)]
   refine ⟨(some (fp2, y2), none), ?_, ⟨?_, ?_⟩, (hS2.turnedN (fun _ h => h)).as (fun h r hr => ?_) (by simp [allR, lkR, noR])⟩
   · rw [hm] <;> rfl
   · rw [hm] <;> exact hF2
   · rw [hm] <;> rfl
   · simp only [List.mem_cons, List.not_mem_nil, or_false] at hr
     rcases hr with rfl | rfl
     · exact h _ (.head _)
     · trivial
 refine Md (o.kind = 3) (T := fun h3 => ?_) (F := fun h3 => ?_)
 · refine Mda 17 [15] [2] [blkR b 26 [.int .i64 z.index, .slice z.locks.A z.locks.n z.locks.c, .slice z.pairs.A z.pairs.n z.pairs.c, .slice z.sessions.A z.sessions.n z.sessions.c]] Tryz_mixed (J := ?_)
   refine Mih (pBk 74 1 1 (.head _)) (J := ?_)
   refine Mu (vs := fun bs => [.slice z.locks.A z.locks.n z.locks.c, .string o.a, .int .i64 who]) Tryz.call85 (fun bs w hS => lock_Free z.locks o.a who w (And.left (hz _ hS.kp)) (And.left ho)) (J := ?_)
   rintro fp3 y3 hF3 hok3
   refine m_f1 ?_
   refine MsbX [] 1 [.int .i64 z.index, .slice y3.A y3.n y3.c, .slice z.pairs.A z.pairs.n z.pairs.c, .slice z.sessions.A z.sessions.n z.sessions.c] (J := ?_)
   refine Mt [.agg #[.int .i64 ((mFree (z.locks.xs.map CLock.abs) o.a who).2.1).code, .int .i64 ((mFree (z.locks.xs.map CLock.abs) o.a who).2.1).n, .string ((mFree (z.locks.xs.map CLock.abs) o.a who).2.1).text]] fun bs w hS => ?_
   have hS2 := hS.f1.f1
   have hm : mDo (z.locks.xs.map CLock.abs) z.pairs.xs who o = ((mFree (z.locks.xs.map CLock.abs) o.a who).1, z.pairs.xs, (mFree (z.locks.xs.map CLock.abs) o.a who).2.1) := by unfold mDo; rw [if_neg (by omega), if_pos h3]
   refine ⟨(some (fp3, y3), none), ?_, ⟨?_, ?_⟩, (hS2.turnedN (fun _ h => h)).as (fun h r hr => ?_) (by simp [allR, lkR, noR])⟩
   · rw [hm] <;> rfl
   · rw [hm] <;> exact hF3
   · rw [hm] <;> rfl
   · simp only [List.mem_cons, List.not_mem_nil, or_false] at hr
     rcases hr with rfl | rfl
     · exact h _ (.head _)
     · trivial
 refine Md (o.kind = 4) (T := fun h4 => ?_) (F := fun h4 => ?_)
 · refine Mt [.agg #[.int .i64 0, .int .i64 (mWho (z.locks.xs.map CLock.abs) o.a).1, .string emp]] fun bs w hS => ?_
   have hS2 := hS.perm (R' := [blkR b 26 [.int .i64 z.index, .slice z.locks.A z.locks.n z.locks.c, .slice z.pairs.A z.pairs.n z.pairs.c, .slice z.sessions.A z.sessions.n z.sessions.c]]) (List.Perm.refl _)
   have hm : mDo (z.locks.xs.map CLock.abs) z.pairs.xs who o = (z.locks.xs.map CLock.abs, z.pairs.xs, ⟨0, (mWho (z.locks.xs.map CLock.abs) o.a).1, emp⟩) := by unfold mDo; rw [if_neg (by omega), if_neg (by omega), if_pos h4]
   refine ⟨(none, none), ?_, ⟨?_, ?_⟩, (hS2.turnedN (fun _ h => h)).as (fun h r hr => ?_) (by simp [allR, lkR, noR])⟩
   · rw [hm] <;> rfl
   · rw [hm] <;> rfl
   · rw [hm] <;> rfl
   · simp only [List.mem_cons, List.not_mem_nil, or_false] at hr
     rcases hr with rfl | rfl
     · trivial
     · trivial
 refine Md (o.kind = 6) (T := fun h5 => ?_) (F := fun h5 => ?_)
 · refine Mda 11 [] [2] [blkR b 26 [.int .i64 z.index, .slice z.locks.A z.locks.n z.locks.c, .slice z.pairs.A z.pairs.n z.pairs.c, .slice z.sessions.A z.sessions.n z.sessions.c]] Tryz_mixed (J := ?_)
   refine Mih (pBk 98 2 1 (.head _)) (J := ?_)
   refine Mp (vs := fun bs => [.slice z.pairs.A z.pairs.n z.pairs.c, .string o.a]) Tryz.call86 (fun bs w hS => pair_Get z.pairs o.a w (And.left (And.right (hz _ hS.kp)))) (J := ?_)
   refine Mz (J := ?_)
   refine Mt [.agg #[.int .i64 (mGot z.pairs.xs o.a).1.code, .int .i64 (mGot z.pairs.xs o.a).1.n, .string (mGot z.pairs.xs o.a).1.text]] fun bs w hS => ?_
   have hS2 := hS.perm (R' := [blkR b 26 [.int .i64 z.index, .slice z.locks.A z.locks.n z.locks.c, .slice z.pairs.A z.pairs.n z.pairs.c, .slice z.sessions.A z.sessions.n z.sessions.c]]) (List.Perm.refl _)
   have hm : mDo (z.locks.xs.map CLock.abs) z.pairs.xs who o = (z.locks.xs.map CLock.abs, z.pairs.xs, (mGot z.pairs.xs o.a).1) := by unfold mDo; rw [if_neg (by omega), if_neg (by omega), if_neg (by omega), if_pos h5]
   refine ⟨(none, none), ?_, ⟨?_, ?_⟩, (hS2.turnedN (fun _ h => h)).as (fun h r hr => ?_) (by simp [allR, lkR, noR])⟩
   · rw [hm] <;> rfl
   · rw [hm] <;> rfl
   · rw [hm] <;> rfl
   · simp only [List.mem_cons, List.not_mem_nil, or_false] at hr
     rcases hr with rfl | rfl
     · trivial
     · trivial
 refine Mdn ((mWho (z.locks.xs.map CLock.abs) o.a).1 = who) (T := fun h6 => ?_) (F := fun h6 => ?_)
 rotate_left
 · refine Mt [.agg #[.int .i64 10, .int .i64 (mWho (z.locks.xs.map CLock.abs) o.a).1, .string emp]] fun bs w hS => ?_
   have hS2 := hS.perm (R' := [blkR b 26 [.int .i64 z.index, .slice z.locks.A z.locks.n z.locks.c, .slice z.pairs.A z.pairs.n z.pairs.c, .slice z.sessions.A z.sessions.n z.sessions.c]]) (List.Perm.refl _)
   have hm : mDo (z.locks.xs.map CLock.abs) z.pairs.xs who o = (z.locks.xs.map CLock.abs, z.pairs.xs, ⟨10, (mWho (z.locks.xs.map CLock.abs) o.a).1, emp⟩) := by unfold mDo; rw [if_neg (by omega), if_neg (by omega), if_neg (by omega), if_neg (by omega), if_pos (.inl h6)]
   refine ⟨(none, none), ?_, ⟨?_, ?_⟩, (hS2.turnedN (fun _ h => h)).as (fun h r hr => ?_) (by simp [allR, lkR, noR])⟩
   · rw [hm] <;> rfl
   · rw [hm] <;> rfl
   · rw [hm] <;> rfl
   · simp only [List.mem_cons, List.not_mem_nil, or_false] at hr
     rcases hr with rfl | rfl
     · trivial
     · trivial
 refine Mdn ((mWho (z.locks.xs.map CLock.abs) o.a).2.1 = o.n) (T := fun h7 => ?_) (F := fun h7 => ?_)
 rotate_left
 · refine Mt [.agg #[.int .i64 10, .int .i64 (mWho (z.locks.xs.map CLock.abs) o.a).1, .string emp]] fun bs w hS => ?_
   have hS2 := hS.perm (R' := [blkR b 26 [.int .i64 z.index, .slice z.locks.A z.locks.n z.locks.c, .slice z.pairs.A z.pairs.n z.pairs.c, .slice z.sessions.A z.sessions.n z.sessions.c]]) (List.Perm.refl _)
   have hm : mDo (z.locks.xs.map CLock.abs) z.pairs.xs who o = (z.locks.xs.map CLock.abs, z.pairs.xs, ⟨10, (mWho (z.locks.xs.map CLock.abs) o.a).1, emp⟩) := by unfold mDo; rw [if_neg (by omega), if_neg (by omega), if_neg (by omega), if_neg (by omega), if_pos (.inr h7)]
   refine ⟨(none, none), ?_, ⟨?_, ?_⟩, (hS2.turnedN (fun _ h => h)).as (fun h r hr => ?_) (by simp [allR, lkR, noR])⟩
   · rw [hm] <;> rfl
   · rw [hm] <;> rfl
   · rw [hm] <;> rfl
   · simp only [List.mem_cons, List.not_mem_nil, or_false] at hr
     rcases hr with rfl | rfl
     · trivial
     · trivial
 refine Mda 18 [16] [2] [blkR b 26 [.int .i64 z.index, .slice z.locks.A z.locks.n z.locks.c, .slice z.pairs.A z.pairs.n z.pairs.c, .slice z.sessions.A z.sessions.n z.sessions.c]] Tryz_mixed (J := ?_)
 refine Mih (pBk 27 2 1 (.head _)) (J := ?_)
 refine Mu (vs := fun bs => [.slice z.pairs.A z.pairs.n z.pairs.c, .string o.a, .string o.b]) Tryz.call87 (fun bs w hS => pair_Set z.pairs o.a o.b w (And.left (And.right (hz _ hS.kp))) (And.left ho) (And.right ho)) (J := ?_)
 rintro fp4 y4 hF4 hok4
 refine m_f1 ?_
 refine MsbX [] 2 [.int .i64 z.index, .slice z.locks.A z.locks.n z.locks.c, .slice y4.A y4.n y4.c, .slice z.sessions.A z.sessions.n z.sessions.c] (J := ?_)
 refine Mt [.agg #[.int .i64 ((mPSet z.pairs.xs o.a o.b).2.1).code, .int .i64 ((mPSet z.pairs.xs o.a o.b).2.1).n, .string ((mPSet z.pairs.xs o.a o.b).2.1).text]] fun bs w hS => ?_
 have hS2 := hS.f1.f1
 have hm : mDo (z.locks.xs.map CLock.abs) z.pairs.xs who o = (z.locks.xs.map CLock.abs, (mPSet z.pairs.xs o.a o.b).1, (mPSet z.pairs.xs o.a o.b).2.1) := by unfold mDo; rw [if_neg (by omega), if_neg (by omega), if_neg (by omega), if_neg (by omega), if_neg (by rintro (h | h); exact h h6; exact h h7)]
 refine ⟨(none, some (fp4, y4)), ?_, ⟨?_, ?_⟩, (hS2.turnedN (fun _ h => h)).as (fun h r hr => ?_) (by simp [allR, lkR, noR])⟩
 · rw [hm] <;> rfl
 · rw [hm] <;> rfl
 · rw [hm] <;> exact hF4
 · simp only [List.mem_cons, List.not_mem_nil, or_false] at hr
   rcases hr with rfl | rfl
   · trivial
   · exact h _ (.head _)

theorem machine_Apply {B : Nat → Prop} (x : CState) (t : ByteArray) (w : World) (hx : Rds.sub B w x) (ht : t.size ≤ 9223372036854775807) : Calls Tryz.prog 7 #[.agg #[.int .i64 x.index, .slice x.locks.A x.locks.n x.locks.c, .slice x.pairs.A x.pairs.n x.pairs.c, .slice x.sessions.A x.sessions.n x.sessions.c], .string t] w fun e w' => ∃ y : CState, e = .returned (.tuple #[.agg #[.int .i64 y.index, .slice y.locks.A y.locks.n y.locks.c, .slice y.pairs.A y.pairs.n y.pairs.c, .slice y.sessions.A y.sessions.n y.sessions.c], .agg #[.int .i64 ((mApply x.abs t).2.1).code, .int .i64 ((mApply x.abs t).2.1).n, .string ((mApply x.abs t).2.1).text], .int .i64 (mApply x.abs t).2.2]) ∧ y.abs = (mApply x.abs t).1 ∧ FreshS w w' y := by
 have okx := Rds.okof hx
 refine M0 Tryz.func7 (J := ?_)
 refine Mp Tryz.call20 (fun bs w hS => machine_Check x w (Rds.kp hx hS.kp)) (J := ?_)
 refine Mdn (mState x.abs = 0) (T := fun h1 => ?_) (F := fun h1 => ?_)
 rotate_left
 · refine Mt [.agg #[.int .i64 0, .slice none 0 0, .slice none 0 0, .slice none 0 0], .agg #[.int .i64 0, .int .i64 0, .string emp], .int .i64 (mState x.abs)] fun bs w hS => ?_
   have hm := apply_bad (t := t) h1
   refine ⟨(⟨0, Sl.nil, Sl.nil, Sl.nil⟩ : CState), ?_, ?_, hS.outS (y := (⟨0, Sl.nil, Sl.nil, Sl.nil⟩ : CState)) ⟨Sl.rd_nil _ _, Sl.rd_nil _ _, Sl.rd_nil _ _⟩⟩
   · rw [hm] <;> rfl
   · rw [hm] <;> rfl
 have hsi := state_idx h1
 have hsi1 : 0 ≤ x.index := hsi.1
 have hsi2 : x.index ≤ 1073741824 := hsi.2
 refine Md (x.index = 1073741824) (T := fun h2 => ?_) (F := fun h2 => ?_)
 · refine Mt [.agg #[.int .i64 0, .slice none 0 0, .slice none 0 0, .slice none 0 0], .agg #[.int .i64 0, .int .i64 0, .string emp], .int .i64 2] fun bs w hS => ?_
   have hm := apply_end (t := t) h1 (by show _ ≤ x.index; omega)
   refine ⟨(⟨0, Sl.nil, Sl.nil, Sl.nil⟩ : CState), ?_, ?_, hS.outS (y := (⟨0, Sl.nil, Sl.nil, Sl.nil⟩ : CState)) ⟨Sl.rd_nil _ _, Sl.rd_nil _ _, Sl.rd_nil _ _⟩⟩
   · rw [hm] <;> rfl
   · rw [hm] <;> rfl
 refine Mp Tryz.call21 (fun bs w hS => command_Decode t w ht) (J := ?_)
 refine Mdn ((mDecode t).2 = 0) (T := fun h3 => ?_) (F := fun h3 => ?_)
 rotate_left
 · refine Mt [.agg #[.int .i64 0, .slice none 0 0, .slice none 0 0, .slice none 0 0], .agg #[.int .i64 0, .int .i64 0, .string emp], .int .i64 (mDecode t).2] fun bs w hS => ?_
   have hm := apply_dec h1 (by show ¬ _ ≤ x.index; omega) h3
   refine ⟨(⟨0, Sl.nil, Sl.nil, Sl.nil⟩ : CState), ?_, ?_, hS.outS (y := (⟨0, Sl.nil, Sl.nil, Sl.nil⟩ : CState)) ⟨Sl.rd_nil _ _, Sl.rd_nil _ _, Sl.rd_nil _ _⟩⟩
   · rw [hm] <;> rfl
   · rw [hm] <;> rfl
 obtain ⟨hcb1, hcb2, hcb3, hcb4, hcb5, hcb6⟩ := cmd_bd (mDecode_ok h3).1
 refine Mu (σ := CState) (v := fun y1 => .agg #[.int .i64 y1.index, .slice y1.locks.A y1.locks.n y1.locks.c, .slice y1.pairs.A y1.pairs.n y1.pairs.c, .slice y1.sessions.A y1.sessions.n y1.sessions.c]) (F := fun y1 => y1.abs = x.abs) Tryz.call22 (fun bs w hS => machine_Copy x w (Rds.kp hx hS.kp) (small_state (by assumption))) (J := ?_)
 rintro fp1 y1 hF1 hok1
 refine Mu Tryz.call23 (fun bs w hS => session_Fresh y1.sessions y1.index w (And.right (And.right (hS.res _ (.head _))))) (J := ?_)
 rintro fp2 y2 hF2 hok2
 refine Mon 0 Tryz.call24 (fun bs w hS hb => machine_gone (B := anyB) (B' := anyB) ((⟨y1.index, y1.locks, y1.pairs, y2⟩ : CState)) y1.sessions (bs.getD 0 0) w hb (fun w' hk => ⟨(Sl.rd.wide (And.left ((hS.resI 0 hk) _ (.tail _ (.head _)))) fun _ _ => trivial), (Sl.rd.wide (And.left (And.right ((hS.resI 0 hk) _ (.tail _ (.head _))))) fun _ _ => trivial), (Sl.rd.wide ((hS.resI 0 hk) _ (.head _)) fun _ _ => trivial)⟩) (fun w' hk => (Sl.rd.wide (And.right (And.right ((hS.resI 0 hk) _ (.tail _ (.head _))))) fun _ _ => trivial))) (J := ?_)
 rintro y3 hF3
 refine Md ((mDecode t).1.kind = 1) (T := fun h4 => ?_) (F := fun h4 => ?_)
 · have hix : y1.index = x.index := congrArg DState.index hF1
   refine Mu (σ := Sl CSession) (v := fun y5 => .tuple #[.slice y5.A y5.n y5.c, .agg #[.int .i64 ((mJoin (y2.xs.map CSession.abs) y1.index (mDecode t).1.client).2.1).code, .int .i64 ((mJoin (y2.xs.map CSession.abs) y1.index (mDecode t).1.client).2.1).n, .string ((mJoin (y2.xs.map CSession.abs) y1.index (mDecode t).1.client).2.1).text], .int .i64 (mJoin (y2.xs.map CSession.abs) y1.index (mDecode t).1.client).2.2]) (F := fun y5 => y5.xs.map CSession.abs = (mJoin (y2.xs.map CSession.abs) y1.index (mDecode t).1.client).1) Tryz.call25 (fun bs w hS => session_Join y2 y1.index (mDecode t).1.client w (hS.res _ (.tail _ (.head _))) (by unfold inR; omega)) (J := ?_)
   rintro fp5 y5 hF5 hok5
   refine Mi (pR (y1.index + 1)) (J := ?_)
   refine Mda 5 [] [1, 2] [subR fp5 y5, lkR y3, subR fp2 y2, subR fp1 y1] Tryz_mixed (J := ?_)
   refine Mz (J := ?_)
   refine Mt [.agg #[.int .i64 (y1.index + 1), .slice (lk y1.locks y3).A (lk y1.locks y3).n (lk y1.locks y3).c, .slice y1.pairs.A y1.pairs.n y1.pairs.c, .slice y5.A y5.n y5.c], .agg #[.int .i64 ((mJoin (y2.xs.map CSession.abs) y1.index (mDecode t).1.client).2.1).code, .int .i64 ((mJoin (y2.xs.map CSession.abs) y1.index (mDecode t).1.client).2.1).n, .string ((mJoin (y2.xs.map CSession.abs) y1.index (mDecode t).1.client).2.1).text], .int .i64 0] fun bs w hS => ?_
   have e3 : aFresh y1.abs = y2.xs.map CSession.abs := hF2.symm
   have e4 : aLocks y1.abs = (lk y1.locks y3).xs.map CLock.abs := by unfold aLocks; rw [e3]; exact hF3.symm
   have hs : mStep x.abs (mDecode t).1 = _ := (congrArg (fun q => mStep q (mDecode t).1) hF1).symm.trans (step_join e3 e4 h4)
   have hm := apply_ok h1 (by show ¬ _ ≤ x.index; omega) h3 hs
   refine ⟨(⟨y1.index + 1, (lk y1.locks y3), y1.pairs, y5⟩ : CState), ?_, ?_, hS.outS (y := (⟨y1.index + 1, (lk y1.locks y3), y1.pairs, y5⟩ : CState)) ⟨(lk_out (And.left (allR_sub (y := y1) (.tail _ (.tail _ (.tail _ (.head _)))) (hS.res _ (.tail _ (.tail _ (.tail _ (.head _))))))) (.tail _ (.head _)) hS.res), (And.left (And.right (allR_sub (y := y1) (.tail _ (.tail _ (.tail _ (.head _)))) (hS.res _ (.tail _ (.tail _ (.tail _ (.head _)))))))), (allR_sub (y := y5) (.head _) (hS.res _ (.head _)))⟩⟩
   · rw [hm] <;> rfl
   · rw [hm]
     show (⟨_, (lk y1.locks y3).xs.map CLock.abs, y1.pairs.xs, y5.xs.map CSession.abs⟩ : DState) = _
     rw [hF5] <;> rfl
 have hix : y1.index = x.index := congrArg DState.index hF1
 refine Md ((mDecode t).1.kind = 3) (T := fun h5 => ?_) (F := fun h5 => ?_)
 · refine Mu (σ := Sl CSession) (v := fun y6 => .tuple #[.slice y6.A y6.n y6.c, .agg #[.int .i64 ((mLeave (y2.xs.map CSession.abs) y1.index (mDecode t).1.client).2.1).code, .int .i64 ((mLeave (y2.xs.map CSession.abs) y1.index (mDecode t).1.client).2.1).n, .string ((mLeave (y2.xs.map CSession.abs) y1.index (mDecode t).1.client).2.1).text], .int .i64 (mLeave (y2.xs.map CSession.abs) y1.index (mDecode t).1.client).2.2]) (F := fun y6 => y6.xs.map CSession.abs = (mLeave (y2.xs.map CSession.abs) y1.index (mDecode t).1.client).1) Tryz.call26 (fun bs w hS => session_Leave y2 y1.index (mDecode t).1.client w (hS.res _ (.tail _ (.head _))) (by unfold inR; omega)) (J := ?_)
   rintro fp6 y6 hF6 hok6
   refine Mon 0 Tryz.call24 (fun bs w hS hb => machine_gone (B := anyB) (B' := anyB) ((⟨y1.index, (lk y1.locks y3), y1.pairs, y6⟩ : CState)) y2 (bs.getD 0 0) w hb (fun w' hk => ⟨(Sl.rd.wide (lk_rd (And.left ((hS.resI 0 hk) _ (.tail _ (.tail _ (.tail _ (.head _)))))) ((hS.resI 0 hk) _ (.tail _ (.head _)))) fun _ _ => trivial), (Sl.rd.wide (And.left (And.right ((hS.resI 0 hk) _ (.tail _ (.tail _ (.tail _ (.head _))))))) fun _ _ => trivial), (Sl.rd.wide ((hS.resI 0 hk) _ (.head _)) fun _ _ => trivial)⟩) (fun w' hk => (Sl.rd.wide ((hS.resI 0 hk) _ (.tail _ (.tail _ (.head _)))) fun _ _ => trivial))) (J := ?_)
   rintro y7 hF7
   refine Mi (pR (y1.index + 1)) (J := ?_)
   refine Mda 5 [] [1, 2] [lkR y7, subR fp6 y6, lkR y3, subR fp2 y2, subR fp1 y1] Tryz_mixed (J := ?_)
   refine Mz (J := ?_)
   refine Mt [.agg #[.int .i64 (y1.index + 1), .slice (lk (lk y1.locks y3) y7).A (lk (lk y1.locks y3) y7).n (lk (lk y1.locks y3) y7).c, .slice y1.pairs.A y1.pairs.n y1.pairs.c, .slice y6.A y6.n y6.c], .agg #[.int .i64 ((mLeave (y2.xs.map CSession.abs) y1.index (mDecode t).1.client).2.1).code, .int .i64 ((mLeave (y2.xs.map CSession.abs) y1.index (mDecode t).1.client).2.1).n, .string ((mLeave (y2.xs.map CSession.abs) y1.index (mDecode t).1.client).2.1).text], .int .i64 0] fun bs w hS => ?_
   have e3 : aFresh y1.abs = y2.xs.map CSession.abs := hF2.symm
   have e4 : aLocks y1.abs = (lk y1.locks y3).xs.map CLock.abs := by unfold aLocks; rw [e3]; exact hF3.symm
   have hs : mStep x.abs (mDecode t).1 = _ := (congrArg (fun q => mStep q (mDecode t).1) hF1).symm.trans (step_leave e3 e4 h4 h5)
   have hm := apply_ok h1 (by show ¬ _ ≤ x.index; omega) h3 hs
   refine ⟨(⟨y1.index + 1, (lk (lk y1.locks y3) y7), y1.pairs, y6⟩ : CState), ?_, ?_, hS.outS (y := (⟨y1.index + 1, (lk (lk y1.locks y3) y7), y1.pairs, y6⟩ : CState)) ⟨(lk_out (lk_out (And.left (allR_sub (y := y1) (.tail _ (.tail _ (.tail _ (.tail _ (.head _))))) (hS.res _ (.tail _ (.tail _ (.tail _ (.tail _ (.head _)))))))) (.tail _ (.tail _ (.head _))) hS.res) (.head _) hS.res), (And.left (And.right (allR_sub (y := y1) (.tail _ (.tail _ (.tail _ (.tail _ (.head _))))) (hS.res _ (.tail _ (.tail _ (.tail _ (.tail _ (.head _))))))))), (allR_sub (y := y6) (.tail _ (.head _)) (hS.res _ (.tail _ (.head _))))⟩⟩
   · rw [hm] <;> rfl
   · rw [hm]
     show (⟨_, (lk (lk y1.locks y3) y7).xs.map CLock.abs, y1.pairs.xs, y6.xs.map CSession.abs⟩ : DState) = _
     rw [hF7, hF6] <;> rfl
 refine Mu (σ := Sl CSession) (v := fun y9 => .tuple #[.slice y9.A y9.n y9.c, .agg #[.int .i64 ((mReady (y2.xs.map CSession.abs) y1.index (mDecode t).1).2.1).code, .int .i64 ((mReady (y2.xs.map CSession.abs) y1.index (mDecode t).1).2.1).n, .string ((mReady (y2.xs.map CSession.abs) y1.index (mDecode t).1).2.1).text], .bool (mReady (y2.xs.map CSession.abs) y1.index (mDecode t).1).2.2.1, .int .i64 (mReady (y2.xs.map CSession.abs) y1.index (mDecode t).1).2.2.2]) (F := fun y9 => y9.xs.map CSession.abs = (mReady (y2.xs.map CSession.abs) y1.index (mDecode t).1).1) Tryz.call27 (fun bs w hS => session_Ready y2 y1.index (mDecode t).1 w (hS.res _ (.tail _ (.head _))) (by unfold inR; omega) ⟨hcb5, hcb6⟩) (J := ?_)
 rintro fp9 y9 hF9 hok9
 refine Mb ((mReady (y2.xs.map CSession.abs) y1.index (mDecode t).1).2.2.1) (T := fun h6 => ?_) (F := fun h6 => ?_)
 rotate_left
 · refine Mi (pR (y1.index + 1)) (J := ?_)
   refine Mda 5 [] [1, 2] [subR fp9 y9, lkR y3, subR fp2 y2, subR fp1 y1] Tryz_mixed (J := ?_)
   refine Mz (J := ?_)
   refine Mt [.agg #[.int .i64 (y1.index + 1), .slice (lk y1.locks y3).A (lk y1.locks y3).n (lk y1.locks y3).c, .slice y1.pairs.A y1.pairs.n y1.pairs.c, .slice y9.A y9.n y9.c], .agg #[.int .i64 ((mReady (y2.xs.map CSession.abs) y1.index (mDecode t).1).2.1).code, .int .i64 ((mReady (y2.xs.map CSession.abs) y1.index (mDecode t).1).2.1).n, .string ((mReady (y2.xs.map CSession.abs) y1.index (mDecode t).1).2.1).text], .int .i64 0] fun bs w hS => ?_
   have e3 : aFresh y1.abs = y2.xs.map CSession.abs := hF2.symm
   have e4 : aLocks y1.abs = (lk y1.locks y3).xs.map CLock.abs := by unfold aLocks; rw [e3]; exact hF3.symm
   have hs : mStep x.abs (mDecode t).1 = _ := (congrArg (fun q => mStep q (mDecode t).1) hF1).symm.trans (step_not e3 e4 h4 h5 h6)
   have hm := apply_ok h1 (by show ¬ _ ≤ x.index; omega) h3 hs
   refine ⟨(⟨y1.index + 1, (lk y1.locks y3), y1.pairs, y9⟩ : CState), ?_, ?_, hS.outS (y := (⟨y1.index + 1, (lk y1.locks y3), y1.pairs, y9⟩ : CState)) ⟨(lk_out (And.left (allR_sub (y := y1) (.tail _ (.tail _ (.tail _ (.head _)))) (hS.res _ (.tail _ (.tail _ (.tail _ (.head _))))))) (.tail _ (.head _)) hS.res), (And.left (And.right (allR_sub (y := y1) (.tail _ (.tail _ (.tail _ (.head _)))) (hS.res _ (.tail _ (.tail _ (.tail _ (.head _)))))))), (allR_sub (y := y9) (.head _) (hS.res _ (.head _)))⟩⟩
   · rw [hm] <;> rfl
   · rw [hm]
     show (⟨_, (lk y1.locks y3).xs.map CLock.abs, y1.pairs.xs, y9.xs.map CSession.abs⟩ : DState) = _
     rw [hF9] <;> rfl
 refine Mon 0 Tryz.call28 (fun bs w hS hb => machine_do (B := anyB) (B' := anyB) ((⟨y1.index, (lk y1.locks y3), y1.pairs, y9⟩ : CState)) (mDecode t).1.client (mDecode t).1.op (bs.getD 0 0) w hb (fun w' hk => ⟨(Sl.rd.wide (lk_rd (And.left ((hS.resI 0 hk) _ (.tail _ (.tail _ (.tail _ (.head _)))))) ((hS.resI 0 hk) _ (.tail _ (.head _)))) fun _ _ => trivial), (Sl.rd.wide (And.left (And.right ((hS.resI 0 hk) _ (.tail _ (.tail _ (.tail _ (.head _))))))) fun _ _ => trivial), (Sl.rd.wide ((hS.resI 0 hk) _ (.head _)) fun _ _ => trivial)⟩) ⟨hcb5, hcb6⟩) (J := ?_)
 rintro y10 hF10
 refine m_split2 ?_
 have hdt10 := mDo_text (L := (lk y1.locks y3).xs.map CLock.abs) (P := y1.pairs.xs) (fun p hp => mem_getD (P := fun p : DPair => p.value.size ≤ 9223372036854775807) (fun j hj => ((hok1.2.1).2.2 j hj).2.2) p hp) (mDecode t).1.client (mDecode t).1.op
 refine Mi (pR (y1.index + 1)) (J := ?_)
 refine Mu (σ := Sl CSession) (v := fun y12 => .tuple #[.slice y12.A y12.n y12.c, .int .i64 (mKeep (y9.xs.map CSession.abs) (y1.index + 1) (mDecode t).1.client (mDecode t).1.seq (mDo ((lk y1.locks y3).xs.map CLock.abs) y1.pairs.xs (mDecode t).1.client (mDecode t).1.op).2.2).2]) (F := fun y12 => y12.xs.map CSession.abs = (mKeep (y9.xs.map CSession.abs) (y1.index + 1) (mDecode t).1.client (mDecode t).1.seq (mDo ((lk y1.locks y3).xs.map CLock.abs) y1.pairs.xs (mDecode t).1.client (mDecode t).1.op).2.2).1) Tryz.call29 (fun bs w hS => session_Keep y9 (y1.index + 1) (mDecode t).1.client (mDecode t).1.seq (mDo ((lk y1.locks y3).xs.map CLock.abs) y1.pairs.xs (mDecode t).1.client (mDecode t).1.op).2.2 w (hS.res _ (.tail _ (.tail _ (.head _)))) (by unfold inR; omega) (by unfold inR; omega) (by first | assumption | omega | (simp only [emp_size]; omega))) (J := ?_)
 rintro fp12 y12 hF12 hok12
 refine Mi (pR (y1.index + 1)) (J := ?_)
 refine Mda 5 [] [1, 2] [subR fp12 y12, lkR y10.1, lkR y10.2, subR fp9 y9, lkR y3, subR fp2 y2, subR fp1 y1] Tryz_mixed (J := ?_)
 refine Mz (J := ?_)
 refine Mt [.agg #[.int .i64 (y1.index + 1), .slice (lk (lk y1.locks y3) y10.1).A (lk (lk y1.locks y3) y10.1).n (lk (lk y1.locks y3) y10.1).c, .slice (lk y1.pairs y10.2).A (lk y1.pairs y10.2).n (lk y1.pairs y10.2).c, .slice y12.A y12.n y12.c], .agg #[.int .i64 ((mDo ((lk y1.locks y3).xs.map CLock.abs) y1.pairs.xs (mDecode t).1.client (mDecode t).1.op).2.2).code, .int .i64 ((mDo ((lk y1.locks y3).xs.map CLock.abs) y1.pairs.xs (mDecode t).1.client (mDecode t).1.op).2.2).n, .string ((mDo ((lk y1.locks y3).xs.map CLock.abs) y1.pairs.xs (mDecode t).1.client (mDecode t).1.op).2.2).text], .int .i64 0] fun bs w hS => ?_
 have e3 : aFresh y1.abs = y2.xs.map CSession.abs := hF2.symm
 have e4 : aLocks y1.abs = (lk y1.locks y3).xs.map CLock.abs := by unfold aLocks; rw [e3]; exact hF3.symm
 have hs : mStep x.abs (mDecode t).1 = _ := (congrArg (fun q => mStep q (mDecode t).1) hF1).symm.trans (step_do e3 e4 h4 h5 h6)
 have hm := apply_ok h1 (by show ¬ _ ≤ x.index; omega) h3 hs
 refine ⟨(⟨y1.index + 1, (lk (lk y1.locks y3) y10.1), (lk y1.pairs y10.2), y12⟩ : CState), ?_, ?_, hS.outS (y := (⟨y1.index + 1, (lk (lk y1.locks y3) y10.1), (lk y1.pairs y10.2), y12⟩ : CState)) ⟨(lk_out (lk_out (And.left (allR_sub (y := y1) (.tail _ (.tail _ (.tail _ (.tail _ (.tail _ (.tail _ (.head _))))))) (hS.res _ (.tail _ (.tail _ (.tail _ (.tail _ (.tail _ (.tail _ (.head _)))))))))) (.tail _ (.tail _ (.tail _ (.tail _ (.head _))))) hS.res) (.tail _ (.head _)) hS.res), (lk_out (And.left (And.right (allR_sub (y := y1) (.tail _ (.tail _ (.tail _ (.tail _ (.tail _ (.tail _ (.head _))))))) (hS.res _ (.tail _ (.tail _ (.tail _ (.tail _ (.tail _ (.tail _ (.head _))))))))))) (.tail _ (.tail _ (.head _))) hS.res), (allR_sub (y := y12) (.head _) (hS.res _ (.head _)))⟩⟩
 · rw [hm] <;> rfl
 · rw [hm]
   show (⟨_, (lk (lk y1.locks y3) y10.1).xs.map CLock.abs, (lk y1.pairs y10.2).xs, y12.xs.map CSession.abs⟩ : DState) = _
   rw [hF10.1, hF10.2, hF12, hF9] <;> rfl

theorem ref_released {B1 B2 B3 : Nat → Prop} (s : Sl CLock) (a b : Sl CSession) (w : World) (hs : s.rd B1 w) (ha : a.rd B2 w) (hb : b.rd B3 w) : Calls Tryz.prog 33 #[.slice s.A s.n s.c, .slice a.A a.n a.c, .slice b.A b.n b.c] w fun e w' => ∃ y : Option (List Nat × Sl CLock), e = .returned (lk s y).val ∧ (lk s y).xs.map CLock.abs = mRel (s.xs.map CLock.abs) (a.xs.map CSession.abs) (b.xs.map CSession.abs) ∧ Kp [] w w' ∧ Fresh w w' (lkR y) := by
 have oka := Sl.rd.ok ha
 have nca := Sl.ok.nc oka
 have hna : a.n = a.xs.length := rfl
 have okb := Sl.rd.ok hb
 have ncb := Sl.ok.nc okb
 have oks := Sl.rd.ok hs
 have ncs := Sl.ok.nc oks
 refine M0 Tryz.func33 (J := ?_)
 refine m_nores (lkR (none : Option (List Nat × Sl CLock))) rfl (fun w => trivial) ?_
 refine Ml (σ := Nat × Option (List Nat × Sl CLock)) (fun ⟨i, o⟩ => i ≤ a.n ∧ (lk s o).xs.map CLock.abs = mRel (s.xs.map CLock.abs) ((a.xs.map CSession.abs).take i) (b.xs.map CSession.abs)) (fun ⟨i, o⟩ => a.n - i) (fun ⟨i, o⟩ => [lkR o]) [7, 0, 1, 2] (fun ⟨i, o⟩ => [(7, vI (i : Int)), (0, .v (.slice (lk s o).A (lk s o).n (lk s o).c))]) (fun _ => []) (⟨0, none⟩) ⟨Nat.zero_le _, rfl⟩ (B := ?_)
 rintro ⟨i, o⟩ ⟨hi, hI⟩ _ on1
 refine Md ((i : Int) < (a.n : Int)) (T := fun h1 => ?_) (F := fun h1 => ?_)
 rotate_left
 · refine Mt [.slice (lk s o).A (lk s o).n (lk s o).c] fun bs w hS => ?_
   have hte : (a.xs.map CSession.abs).take i = a.xs.map CSession.abs := List.take_of_length_le (by rw [List.length_map]; omega)
   rw [hte] at hI
   exact ⟨o, rfl, hI, hS.kp, hS.out1⟩
 refine Mi (pc (pI 17 (i : Int) i (rdk ha)) (pF 19 i 0 1 (rdk ha))) (J := ?_)
 refine Mp Tryz.call98 (fun bs w hS => tackroomref_sessionAt b (a.at i).client w (Sl.rd.kp hb hS.kp)) (J := ?_)
 refine Md (mIdx (fun x : CSession => decide (x.client = (a.at i).client)) b.xs < 0) (T := fun h2 => ?_) (F := fun h2 => ?_)
 rotate_left
 · refine Mi (pR ((i : Int) + 1)) (J := ?_)
   have hsx : sIdx (b.xs.map CSession.abs) (a.at i).abs.client = mIdx (fun x : CSession => decide (x.client = (a.at i).client)) b.xs := (mIdx_map CSession.abs (fun x : DSession => decide (x.client = (a.at i).client)) b.xs).symm
   have hgo : (lk s (o)).xs.map CLock.abs = if sIdx (b.xs.map CSession.abs) (a.at i).abs.client < 0 then (mGone ((lk s o).xs.map CLock.abs) (a.at i).abs.client).1 else (lk s o).xs.map CLock.abs := by rw [hsx, if_neg h2]
   exact on1 (⟨i + 1, o⟩ : Nat × Option (List Nat × Sl CLock)) ⟨by omega, rel_next (by rw [List.length_map]; omega) (sabs_at i) hI hgo⟩ (by show a.n - (i + 1) < a.n - i; omega)
 refine Mi (pc (pI 26 (i : Int) i (rdk ha)) (pF 28 i 0 1 (rdk ha))) (J := ?_)
 refine Mu Tryz.call99 (fun bs w hS => ref_GoneOf (lk s o) (a.at i).client w (lk_rd (Sl.rd.kp hs hS.kp) (hS.res _ (.head _)))) (J := ?_)
 rintro fp1 y1 hF1 hok1
 refine Mi (pR ((i : Int) + 1)) (J := ?_)
 have hsx : sIdx (b.xs.map CSession.abs) (a.at i).abs.client = mIdx (fun x : CSession => decide (x.client = (a.at i).client)) b.xs := (mIdx_map CSession.abs (fun x : DSession => decide (x.client = (a.at i).client)) b.xs).symm
 refine m_f1 ?_
 refine m_weak noR (List.nil_sublist _) (fun _ _ => trivial) ?_
 refine m_f1 ?_
 refine m_join (lkR (some (fp1, y1))) (by show List.Perm fp1 (fp1 ++ []); rw [List.append_nil]) (fun w h1 h2 => h1) ?_
 have hgo : (lk s (some (fp1, y1))).xs.map CLock.abs = if sIdx (b.xs.map CSession.abs) (a.at i).abs.client < 0 then (mGone ((lk s o).xs.map CLock.abs) (a.at i).abs.client).1 else (lk s o).xs.map CLock.abs := by rw [hsx, if_pos h2]; exact hF1
 exact on1 (⟨i + 1, some (fp1, y1)⟩ : Nat × Option (List Nat × Sl CLock)) ⟨by omega, rel_next (by rw [List.length_map]; omega) (sabs_at i) hI hgo⟩ (by show a.n - (i + 1) < a.n - i; omega)

theorem ref_AppliedOf {B : Nat → Prop} (x : CState) (t : ByteArray) (w : World) (hx : Rds.sub B w x) (ht : t.size ≤ 9223372036854775807) : Calls Tryz.prog 8 #[.agg #[.int .i64 x.index, .slice x.locks.A x.locks.n x.locks.c, .slice x.pairs.A x.pairs.n x.pairs.c, .slice x.sessions.A x.sessions.n x.sessions.c], .string t] w fun e w' => ∃ y : CState, e = .returned (.tuple #[.agg #[.int .i64 y.index, .slice y.locks.A y.locks.n y.locks.c, .slice y.pairs.A y.pairs.n y.pairs.c, .slice y.sessions.A y.sessions.n y.sessions.c], .agg #[.int .i64 ((mApply x.abs t).2.1).code, .int .i64 ((mApply x.abs t).2.1).n, .string ((mApply x.abs t).2.1).text], .int .i64 (mApply x.abs t).2.2]) ∧ y.abs = (mApply x.abs t).1 ∧ FreshS w w' y := by
 have okx := Rds.okof hx
 refine M0 Tryz.func8 (J := ?_)
 refine Mp Tryz.call30 (fun bs w hS => ref_StateFault x w (Rds.kp hx hS.kp)) (J := ?_)
 refine Md (mState x.abs = 0) (T := fun h1 => ?_) (F := fun h1 => ?_)
 rotate_left
 · refine Mdn (mState x.abs = 0) (T := fun h15 => ?_) (F := fun h15 => ?_)
   · exact absurd h15 h1
   refine Mt [.agg #[.int .i64 0, .slice none 0 0, .slice none 0 0, .slice none 0 0], .agg #[.int .i64 0, .int .i64 0, .string emp], .int .i64 (mState x.abs)] fun bs w hS => ?_
   have hm := apply_bad (t := t) h15
   refine ⟨(⟨0, Sl.nil, Sl.nil, Sl.nil⟩ : CState), ?_, ?_, hS.outS (y := (⟨0, Sl.nil, Sl.nil, Sl.nil⟩ : CState)) ⟨Sl.rd_nil _ _, Sl.rd_nil _ _, Sl.rd_nil _ _⟩⟩
   · rw [hm] <;> rfl
   · rw [hm] <;> rfl
 have hsi := state_idx h1
 have hsi1 : 0 ≤ x.index := hsi.1
 have hsi2 : x.index ≤ 1073741824 := hsi.2
 refine Md ((1073741824 : Int) ≤ x.index) (T := fun h2 => ?_) (F := fun h2 => ?_)
 · refine Mq 34 true rfl (J := ?_)
   refine Mt [.agg #[.int .i64 0, .slice none 0 0, .slice none 0 0, .slice none 0 0], .agg #[.int .i64 0, .int .i64 0, .string emp], .int .i64 2] fun bs w hS => ?_
   have hm := apply_end (t := t) h1 (by show _ ≤ x.index; omega)
   refine ⟨(⟨0, Sl.nil, Sl.nil, Sl.nil⟩ : CState), ?_, ?_, hS.outS (y := (⟨0, Sl.nil, Sl.nil, Sl.nil⟩ : CState)) ⟨Sl.rd_nil _ _, Sl.rd_nil _ _, Sl.rd_nil _ _⟩⟩
   · rw [hm] <;> rfl
   · rw [hm] <;> rfl
 refine Mdn (mState x.abs = 0) (T := fun h3 => ?_) (F := fun h3 => ?_)
 rotate_left
 · exact absurd h1 h3
 have hsi := state_idx h3
 have hsi1 : 0 ≤ x.index := hsi.1
 have hsi2 : x.index ≤ 1073741824 := hsi.2
 refine Mp Tryz.call31 (fun bs w hS => ref_CommandOf t w ht) (J := ?_)
 refine Mdn ((mDecode t).2 = 0) (T := fun h4 => ?_) (F := fun h4 => ?_)
 rotate_left
 · refine Mt [.agg #[.int .i64 0, .slice none 0 0, .slice none 0 0, .slice none 0 0], .agg #[.int .i64 0, .int .i64 0, .string emp], .int .i64 (mDecode t).2] fun bs w hS => ?_
   have hm := apply_dec h3 (by show ¬ _ ≤ x.index; omega) h4
   refine ⟨(⟨0, Sl.nil, Sl.nil, Sl.nil⟩ : CState), ?_, ?_, hS.outS (y := (⟨0, Sl.nil, Sl.nil, Sl.nil⟩ : CState)) ⟨Sl.rd_nil _ _, Sl.rd_nil _ _, Sl.rd_nil _ _⟩⟩
   · rw [hm] <;> rfl
   · rw [hm] <;> rfl
 obtain ⟨hcb1, hcb2, hcb3, hcb4, hcb5, hcb6⟩ := cmd_bd (mDecode_ok h4).1
 refine Mu (σ := CState) (v := fun y1 => .agg #[.int .i64 y1.index, .slice y1.locks.A y1.locks.n y1.locks.c, .slice y1.pairs.A y1.pairs.n y1.pairs.c, .slice y1.sessions.A y1.sessions.n y1.sessions.c]) (F := fun y1 => y1.abs = x.abs) Tryz.call6 (fun bs w hS => ref_StateCopy x w (Rds.kp hx hS.kp) (small_state (by assumption))) (J := ?_)
 rintro fp1 y1 hF1 hok1
 refine Mu Tryz.call32 (fun bs w hS => ref_FreshOf y1.sessions x.index w (And.right (And.right (hS.res _ (.head _))))) (J := ?_)
 rintro fp2 y2 hF2 hok2
 refine Mf Tryz.call33 (fun bs w hS => ref_released y1.locks y1.sessions y2 w (And.left (hS.res _ (.tail _ (.head _)))) (And.right (And.right (hS.res _ (.tail _ (.head _))))) (hS.res _ (.head _))) (J := ?_)
 rintro y3 hF3
 refine Md ((mDecode t).1.kind = 1) (T := fun h5 => ?_) (F := fun h5 => ?_)
 · have hix : y1.index = x.index := congrArg DState.index hF1
   refine Mu (σ := Sl CSession) (v := fun y5 => .tuple #[.slice y5.A y5.n y5.c, .agg #[.int .i64 ((mJoin (y2.xs.map CSession.abs) x.index (mDecode t).1.client).2.1).code, .int .i64 ((mJoin (y2.xs.map CSession.abs) x.index (mDecode t).1.client).2.1).n, .string ((mJoin (y2.xs.map CSession.abs) x.index (mDecode t).1.client).2.1).text], .int .i64 (mJoin (y2.xs.map CSession.abs) x.index (mDecode t).1.client).2.2]) (F := fun y5 => y5.xs.map CSession.abs = (mJoin (y2.xs.map CSession.abs) x.index (mDecode t).1.client).1) Tryz.call34 (fun bs w hS => ref_JoinedOf y2 x.index (mDecode t).1.client w (hS.res _ (.tail _ (.head _))) (by unfold inR; omega)) (J := ?_)
   rintro fp5 y5 hF5 hok5
   refine Mi (pR (x.index + 1)) (J := ?_)
   refine Mda 5 [] [1, 2] [subR fp5 y5, lkR y3, subR fp2 y2, subR fp1 y1] Tryz_mixed (J := ?_)
   refine Mz (J := ?_)
   refine Mt [.agg #[.int .i64 (x.index + 1), .slice (lk y1.locks y3).A (lk y1.locks y3).n (lk y1.locks y3).c, .slice y1.pairs.A y1.pairs.n y1.pairs.c, .slice y5.A y5.n y5.c], .agg #[.int .i64 ((mJoin (y2.xs.map CSession.abs) x.index (mDecode t).1.client).2.1).code, .int .i64 ((mJoin (y2.xs.map CSession.abs) x.index (mDecode t).1.client).2.1).n, .string ((mJoin (y2.xs.map CSession.abs) x.index (mDecode t).1.client).2.1).text], .int .i64 0] fun bs w hS => ?_
   have e3 : aFresh y1.abs = y2.xs.map CSession.abs := by unfold aFresh; rw [show y1.abs.index = x.index from hix]; exact hF2.symm
   have e4 : aLocks y1.abs = (lk y1.locks y3).xs.map CLock.abs := by unfold aLocks; rw [e3]; exact hF3.symm
   have hs : mStep x.abs (mDecode t).1 = _ := (congrArg (fun q => mStep q (mDecode t).1) hF1).symm.trans (step_join e3 e4 h5)
   rw [show y1.abs.index = x.index from hix] at hs
   have hm := apply_ok h3 (by show ¬ _ ≤ x.index; omega) h4 hs
   refine ⟨(⟨x.index + 1, (lk y1.locks y3), y1.pairs, y5⟩ : CState), ?_, ?_, hS.outS (y := (⟨x.index + 1, (lk y1.locks y3), y1.pairs, y5⟩ : CState)) ⟨(lk_out (And.left (allR_sub (y := y1) (.tail _ (.tail _ (.tail _ (.head _)))) (hS.res _ (.tail _ (.tail _ (.tail _ (.head _))))))) (.tail _ (.head _)) hS.res), (And.left (And.right (allR_sub (y := y1) (.tail _ (.tail _ (.tail _ (.head _)))) (hS.res _ (.tail _ (.tail _ (.tail _ (.head _)))))))), (allR_sub (y := y5) (.head _) (hS.res _ (.head _)))⟩⟩
   · rw [hm] <;> rfl
   · rw [hm]
     show (⟨_, (lk y1.locks y3).xs.map CLock.abs, y1.pairs.xs, y5.xs.map CSession.abs⟩ : DState) = _
     rw [hF5] <;> rfl
 have hix : y1.index = x.index := congrArg DState.index hF1
 refine Md ((mDecode t).1.kind = 3) (T := fun h6 => ?_) (F := fun h6 => ?_)
 · refine Mu (σ := Sl CSession) (v := fun y6 => .tuple #[.slice y6.A y6.n y6.c, .agg #[.int .i64 ((mLeave (y2.xs.map CSession.abs) x.index (mDecode t).1.client).2.1).code, .int .i64 ((mLeave (y2.xs.map CSession.abs) x.index (mDecode t).1.client).2.1).n, .string ((mLeave (y2.xs.map CSession.abs) x.index (mDecode t).1.client).2.1).text], .int .i64 (mLeave (y2.xs.map CSession.abs) x.index (mDecode t).1.client).2.2]) (F := fun y6 => y6.xs.map CSession.abs = (mLeave (y2.xs.map CSession.abs) x.index (mDecode t).1.client).1) Tryz.call35 (fun bs w hS => ref_LeftOf y2 x.index (mDecode t).1.client w (hS.res _ (.tail _ (.head _))) (by unfold inR; omega)) (J := ?_)
   rintro fp6 y6 hF6 hok6
   refine Mf Tryz.call33 (fun bs w hS => ref_released (lk y1.locks y3) y2 y6 w (lk_rd (And.left (hS.res _ (.tail _ (.tail _ (.tail _ (.head _)))))) (hS.res _ (.tail _ (.head _)))) (hS.res _ (.tail _ (.tail _ (.head _)))) (hS.res _ (.head _))) (J := ?_)
   rintro y7 hF7
   refine Mi (pR (x.index + 1)) (J := ?_)
   refine Mda 5 [] [1, 2] [lkR y7, subR fp6 y6, lkR y3, subR fp2 y2, subR fp1 y1] Tryz_mixed (J := ?_)
   refine Mz (J := ?_)
   refine Mt [.agg #[.int .i64 (x.index + 1), .slice (lk (lk y1.locks y3) y7).A (lk (lk y1.locks y3) y7).n (lk (lk y1.locks y3) y7).c, .slice y1.pairs.A y1.pairs.n y1.pairs.c, .slice y6.A y6.n y6.c], .agg #[.int .i64 ((mLeave (y2.xs.map CSession.abs) x.index (mDecode t).1.client).2.1).code, .int .i64 ((mLeave (y2.xs.map CSession.abs) x.index (mDecode t).1.client).2.1).n, .string ((mLeave (y2.xs.map CSession.abs) x.index (mDecode t).1.client).2.1).text], .int .i64 0] fun bs w hS => ?_
   have e3 : aFresh y1.abs = y2.xs.map CSession.abs := by unfold aFresh; rw [show y1.abs.index = x.index from hix]; exact hF2.symm
   have e4 : aLocks y1.abs = (lk y1.locks y3).xs.map CLock.abs := by unfold aLocks; rw [e3]; exact hF3.symm
   have hs : mStep x.abs (mDecode t).1 = _ := (congrArg (fun q => mStep q (mDecode t).1) hF1).symm.trans (step_leave e3 e4 h5 h6)
   rw [show y1.abs.index = x.index from hix] at hs
   have hm := apply_ok h3 (by show ¬ _ ≤ x.index; omega) h4 hs
   refine ⟨(⟨x.index + 1, (lk (lk y1.locks y3) y7), y1.pairs, y6⟩ : CState), ?_, ?_, hS.outS (y := (⟨x.index + 1, (lk (lk y1.locks y3) y7), y1.pairs, y6⟩ : CState)) ⟨(lk_out (lk_out (And.left (allR_sub (y := y1) (.tail _ (.tail _ (.tail _ (.tail _ (.head _))))) (hS.res _ (.tail _ (.tail _ (.tail _ (.tail _ (.head _)))))))) (.tail _ (.tail _ (.head _))) hS.res) (.head _) hS.res), (And.left (And.right (allR_sub (y := y1) (.tail _ (.tail _ (.tail _ (.tail _ (.head _))))) (hS.res _ (.tail _ (.tail _ (.tail _ (.tail _ (.head _))))))))), (allR_sub (y := y6) (.tail _ (.head _)) (hS.res _ (.tail _ (.head _))))⟩⟩
   · rw [hm] <;> rfl
   · rw [hm]
     show (⟨_, (lk (lk y1.locks y3) y7).xs.map CLock.abs, y1.pairs.xs, y6.xs.map CSession.abs⟩ : DState) = _
     rw [hF7, hF6] <;> rfl
 refine Mu (σ := Sl CSession) (v := fun y9 => .tuple #[.slice y9.A y9.n y9.c, .agg #[.int .i64 ((mReady (y2.xs.map CSession.abs) x.index (mDecode t).1).2.1).code, .int .i64 ((mReady (y2.xs.map CSession.abs) x.index (mDecode t).1).2.1).n, .string ((mReady (y2.xs.map CSession.abs) x.index (mDecode t).1).2.1).text], .bool (mReady (y2.xs.map CSession.abs) x.index (mDecode t).1).2.2.1, .int .i64 (mReady (y2.xs.map CSession.abs) x.index (mDecode t).1).2.2.2]) (F := fun y9 => y9.xs.map CSession.abs = (mReady (y2.xs.map CSession.abs) x.index (mDecode t).1).1) Tryz.call36 (fun bs w hS => ref_ReadyOf y2 x.index (mDecode t).1 w (hS.res _ (.tail _ (.head _))) (by unfold inR; omega) ⟨hcb5, hcb6⟩) (J := ?_)
 rintro fp9 y9 hF9 hok9
 refine Mb ((mReady (y2.xs.map CSession.abs) x.index (mDecode t).1).2.2.1) (T := fun h7 => ?_) (F := fun h7 => ?_)
 rotate_left
 · refine Mi (pR (x.index + 1)) (J := ?_)
   refine Mda 5 [] [1, 2] [subR fp9 y9, lkR y3, subR fp2 y2, subR fp1 y1] Tryz_mixed (J := ?_)
   refine Mz (J := ?_)
   refine Mt [.agg #[.int .i64 (x.index + 1), .slice (lk y1.locks y3).A (lk y1.locks y3).n (lk y1.locks y3).c, .slice y1.pairs.A y1.pairs.n y1.pairs.c, .slice y9.A y9.n y9.c], .agg #[.int .i64 ((mReady (y2.xs.map CSession.abs) x.index (mDecode t).1).2.1).code, .int .i64 ((mReady (y2.xs.map CSession.abs) x.index (mDecode t).1).2.1).n, .string ((mReady (y2.xs.map CSession.abs) x.index (mDecode t).1).2.1).text], .int .i64 0] fun bs w hS => ?_
   have e3 : aFresh y1.abs = y2.xs.map CSession.abs := by unfold aFresh; rw [show y1.abs.index = x.index from hix]; exact hF2.symm
   have e4 : aLocks y1.abs = (lk y1.locks y3).xs.map CLock.abs := by unfold aLocks; rw [e3]; exact hF3.symm
   have hs : mStep x.abs (mDecode t).1 = _ := (congrArg (fun q => mStep q (mDecode t).1) hF1).symm.trans (step_not e3 e4 h5 h6 (by rw [show y1.abs.index = x.index from hix]; exact h7))
   rw [show y1.abs.index = x.index from hix] at hs
   have hm := apply_ok h3 (by show ¬ _ ≤ x.index; omega) h4 hs
   refine ⟨(⟨x.index + 1, (lk y1.locks y3), y1.pairs, y9⟩ : CState), ?_, ?_, hS.outS (y := (⟨x.index + 1, (lk y1.locks y3), y1.pairs, y9⟩ : CState)) ⟨(lk_out (And.left (allR_sub (y := y1) (.tail _ (.tail _ (.tail _ (.head _)))) (hS.res _ (.tail _ (.tail _ (.tail _ (.head _))))))) (.tail _ (.head _)) hS.res), (And.left (And.right (allR_sub (y := y1) (.tail _ (.tail _ (.tail _ (.head _)))) (hS.res _ (.tail _ (.tail _ (.tail _ (.head _)))))))), (allR_sub (y := y9) (.head _) (hS.res _ (.head _)))⟩⟩
   · rw [hm] <;> rfl
   · rw [hm]
     show (⟨_, (lk y1.locks y3).xs.map CLock.abs, y1.pairs.xs, y9.xs.map CSession.abs⟩ : DState) = _
     rw [hF9] <;> rfl
 refine Mp Tryz.call37 (fun bs w hS => ref_HolderOf (lk y1.locks y3) (mDecode t).1.op.a w (lk_rd (And.left (hS.res _ (.tail _ (.tail _ (.tail _ (.head _)))))) (hS.res _ (.tail _ (.head _))))) (J := ?_)
 refine Md ((mDecode t).1.op.kind = 1) (T := fun h8 => ?_) (F := fun h8 => ?_)
 · refine Mu Tryz.call38 (fun bs w hS => ref_TakenOf (lk y1.locks y3) (mDecode t).1.op.a (mDecode t).1.client false w (lk_rd (And.left (hS.res _ (.tail _ (.tail _ (.tail _ (.head _)))))) (hS.res _ (.tail _ (.head _)))) hcb5) (J := ?_)
   rintro fp10 y10 hF10 hok10
   refine Mi (pR (x.index + 1)) (J := ?_)
   refine Mu (σ := Sl CSession) (v := fun y11 => .tuple #[.slice y11.A y11.n y11.c, .int .i64 (mKeep (y9.xs.map CSession.abs) (x.index + 1) (mDecode t).1.client (mDecode t).1.seq (mTake ((lk y1.locks y3).xs.map CLock.abs) (mDecode t).1.op.a (mDecode t).1.client false).2.1).2]) (F := fun y11 => y11.xs.map CSession.abs = (mKeep (y9.xs.map CSession.abs) (x.index + 1) (mDecode t).1.client (mDecode t).1.seq (mTake ((lk y1.locks y3).xs.map CLock.abs) (mDecode t).1.op.a (mDecode t).1.client false).2.1).1) (vs := fun bs => [.slice y9.A y9.n y9.c, .int .i64 (x.index + 1), .int .i64 (mDecode t).1.client, .int .i64 (mDecode t).1.seq, .agg #[.int .i64 ((mTake ((lk y1.locks y3).xs.map CLock.abs) (mDecode t).1.op.a (mDecode t).1.client false).2.1).code, .int .i64 ((mTake ((lk y1.locks y3).xs.map CLock.abs) (mDecode t).1.op.a (mDecode t).1.client false).2.1).n, .string ((mTake ((lk y1.locks y3).xs.map CLock.abs) (mDecode t).1.op.a (mDecode t).1.client false).2.1).text]]) Tryz.call42 (fun bs w hS => ref_KeptOf y9 (x.index + 1) (mDecode t).1.client (mDecode t).1.seq (mTake ((lk y1.locks y3).xs.map CLock.abs) (mDecode t).1.op.a (mDecode t).1.client false).2.1 w (hS.res _ (.tail _ (.head _))) (by unfold inR; omega) (by unfold inR; omega) (by rw [mTake_text]; exact Nat.zero_le _)) (J := ?_)
   rintro fp11 y11 hF11 hok11
   refine Mi (pR (x.index + 1)) (J := ?_)
   refine Mda 5 [] [1, 2] [subR fp11 y11, subR fp10 y10, subR fp9 y9, lkR y3, subR fp2 y2, subR fp1 y1] Tryz_mixed (J := ?_)
   refine Mz (J := ?_)
   refine Mt [.agg #[.int .i64 (x.index + 1), .slice y10.A y10.n y10.c, .slice y1.pairs.A y1.pairs.n y1.pairs.c, .slice y11.A y11.n y11.c], .agg #[.int .i64 ((mTake ((lk y1.locks y3).xs.map CLock.abs) (mDecode t).1.op.a (mDecode t).1.client false).2.1).code, .int .i64 ((mTake ((lk y1.locks y3).xs.map CLock.abs) (mDecode t).1.op.a (mDecode t).1.client false).2.1).n, .string ((mTake ((lk y1.locks y3).xs.map CLock.abs) (mDecode t).1.op.a (mDecode t).1.client false).2.1).text], .int .i64 0] fun bs w hS => ?_
   have e3 : aFresh y1.abs = y2.xs.map CSession.abs := by unfold aFresh; rw [show y1.abs.index = x.index from hix]; exact hF2.symm
   have e4 : aLocks y1.abs = (lk y1.locks y3).xs.map CLock.abs := by unfold aLocks; rw [e3]; exact hF3.symm
   have hs : mStep x.abs (mDecode t).1 = _ := (congrArg (fun q => mStep q (mDecode t).1) hF1).symm.trans (step_do e3 e4 h5 h6 (by rw [show y1.abs.index = x.index from hix]; exact h7))
   rw [show y1.abs.index = x.index from hix] at hs
   have hmD : mDo ((lk y1.locks y3).xs.map CLock.abs) y1.pairs.xs (mDecode t).1.client (mDecode t).1.op = ((mTake ((lk y1.locks y3).xs.map CLock.abs) (mDecode t).1.op.a (mDecode t).1.client false).1, y1.pairs.xs, (mTake ((lk y1.locks y3).xs.map CLock.abs) (mDecode t).1.op.a (mDecode t).1.client false).2.1) := by unfold mDo; rw [if_pos (.inl h8), show decide ((mDecode t).1.op.kind = 2) = false from decide_eq_false (by omega)]
   rw [show y1.abs.pairs = y1.pairs.xs from rfl, hmD] at hs
   have hm := apply_ok h3 (by show ¬ _ ≤ x.index; omega) h4 hs
   refine ⟨(⟨x.index + 1, y10, y1.pairs, y11⟩ : CState), ?_, ?_, hS.outS (y := (⟨x.index + 1, y10, y1.pairs, y11⟩ : CState)) ⟨(allR_sub (y := y10) (.tail _ (.head _)) (hS.res _ (.tail _ (.head _)))), (And.left (And.right (allR_sub (y := y1) (.tail _ (.tail _ (.tail _ (.tail _ (.tail _ (.head _)))))) (hS.res _ (.tail _ (.tail _ (.tail _ (.tail _ (.tail _ (.head _)))))))))), (allR_sub (y := y11) (.head _) (hS.res _ (.head _)))⟩⟩
   · rw [hm] <;> rfl
   · rw [hm]
     show (⟨_, y10.xs.map CLock.abs, y1.pairs.xs, y11.xs.map CSession.abs⟩ : DState) = _
     rw [hF10, hF11, hF9] <;> rfl
 refine Md ((mDecode t).1.op.kind = 2) (T := fun h9 => ?_) (F := fun h9 => ?_)
 · refine Mu Tryz.call38 (fun bs w hS => ref_TakenOf (lk y1.locks y3) (mDecode t).1.op.a (mDecode t).1.client true w (lk_rd (And.left (hS.res _ (.tail _ (.tail _ (.tail _ (.head _)))))) (hS.res _ (.tail _ (.head _)))) hcb5) (J := ?_)
   rintro fp12 y12 hF12 hok12
   refine Mi (pR (x.index + 1)) (J := ?_)
   refine Mu (σ := Sl CSession) (v := fun y13 => .tuple #[.slice y13.A y13.n y13.c, .int .i64 (mKeep (y9.xs.map CSession.abs) (x.index + 1) (mDecode t).1.client (mDecode t).1.seq (mTake ((lk y1.locks y3).xs.map CLock.abs) (mDecode t).1.op.a (mDecode t).1.client true).2.1).2]) (F := fun y13 => y13.xs.map CSession.abs = (mKeep (y9.xs.map CSession.abs) (x.index + 1) (mDecode t).1.client (mDecode t).1.seq (mTake ((lk y1.locks y3).xs.map CLock.abs) (mDecode t).1.op.a (mDecode t).1.client true).2.1).1) (vs := fun bs => [.slice y9.A y9.n y9.c, .int .i64 (x.index + 1), .int .i64 (mDecode t).1.client, .int .i64 (mDecode t).1.seq, .agg #[.int .i64 ((mTake ((lk y1.locks y3).xs.map CLock.abs) (mDecode t).1.op.a (mDecode t).1.client true).2.1).code, .int .i64 ((mTake ((lk y1.locks y3).xs.map CLock.abs) (mDecode t).1.op.a (mDecode t).1.client true).2.1).n, .string ((mTake ((lk y1.locks y3).xs.map CLock.abs) (mDecode t).1.op.a (mDecode t).1.client true).2.1).text]]) Tryz.call42 (fun bs w hS => ref_KeptOf y9 (x.index + 1) (mDecode t).1.client (mDecode t).1.seq (mTake ((lk y1.locks y3).xs.map CLock.abs) (mDecode t).1.op.a (mDecode t).1.client true).2.1 w (hS.res _ (.tail _ (.head _))) (by unfold inR; omega) (by unfold inR; omega) (by rw [mTake_text]; exact Nat.zero_le _)) (J := ?_)
   rintro fp13 y13 hF13 hok13
   refine Mi (pR (x.index + 1)) (J := ?_)
   refine Mda 5 [] [1, 2] [subR fp13 y13, subR fp12 y12, subR fp9 y9, lkR y3, subR fp2 y2, subR fp1 y1] Tryz_mixed (J := ?_)
   refine Mz (J := ?_)
   refine Mt [.agg #[.int .i64 (x.index + 1), .slice y12.A y12.n y12.c, .slice y1.pairs.A y1.pairs.n y1.pairs.c, .slice y13.A y13.n y13.c], .agg #[.int .i64 ((mTake ((lk y1.locks y3).xs.map CLock.abs) (mDecode t).1.op.a (mDecode t).1.client true).2.1).code, .int .i64 ((mTake ((lk y1.locks y3).xs.map CLock.abs) (mDecode t).1.op.a (mDecode t).1.client true).2.1).n, .string ((mTake ((lk y1.locks y3).xs.map CLock.abs) (mDecode t).1.op.a (mDecode t).1.client true).2.1).text], .int .i64 0] fun bs w hS => ?_
   have e3 : aFresh y1.abs = y2.xs.map CSession.abs := by unfold aFresh; rw [show y1.abs.index = x.index from hix]; exact hF2.symm
   have e4 : aLocks y1.abs = (lk y1.locks y3).xs.map CLock.abs := by unfold aLocks; rw [e3]; exact hF3.symm
   have hs : mStep x.abs (mDecode t).1 = _ := (congrArg (fun q => mStep q (mDecode t).1) hF1).symm.trans (step_do e3 e4 h5 h6 (by rw [show y1.abs.index = x.index from hix]; exact h7))
   rw [show y1.abs.index = x.index from hix] at hs
   have hmD : mDo ((lk y1.locks y3).xs.map CLock.abs) y1.pairs.xs (mDecode t).1.client (mDecode t).1.op = ((mTake ((lk y1.locks y3).xs.map CLock.abs) (mDecode t).1.op.a (mDecode t).1.client true).1, y1.pairs.xs, (mTake ((lk y1.locks y3).xs.map CLock.abs) (mDecode t).1.op.a (mDecode t).1.client true).2.1) := by unfold mDo; rw [if_pos (.inr h9), show decide ((mDecode t).1.op.kind = 2) = true from decide_eq_true h9]
   rw [show y1.abs.pairs = y1.pairs.xs from rfl, hmD] at hs
   have hm := apply_ok h3 (by show ¬ _ ≤ x.index; omega) h4 hs
   refine ⟨(⟨x.index + 1, y12, y1.pairs, y13⟩ : CState), ?_, ?_, hS.outS (y := (⟨x.index + 1, y12, y1.pairs, y13⟩ : CState)) ⟨(allR_sub (y := y12) (.tail _ (.head _)) (hS.res _ (.tail _ (.head _)))), (And.left (And.right (allR_sub (y := y1) (.tail _ (.tail _ (.tail _ (.tail _ (.tail _ (.head _)))))) (hS.res _ (.tail _ (.tail _ (.tail _ (.tail _ (.tail _ (.head _)))))))))), (allR_sub (y := y13) (.head _) (hS.res _ (.head _)))⟩⟩
   · rw [hm] <;> rfl
   · rw [hm]
     show (⟨_, y12.xs.map CLock.abs, y1.pairs.xs, y13.xs.map CSession.abs⟩ : DState) = _
     rw [hF12, hF13, hF9] <;> rfl
 refine Md ((mDecode t).1.op.kind = 3) (T := fun h10 => ?_) (F := fun h10 => ?_)
 · refine Mu Tryz.call39 (fun bs w hS => ref_FreedOf (lk y1.locks y3) (mDecode t).1.op.a (mDecode t).1.client w (lk_rd (And.left (hS.res _ (.tail _ (.tail _ (.tail _ (.head _)))))) (hS.res _ (.tail _ (.head _)))) hcb5) (J := ?_)
   rintro fp14 y14 hF14 hok14
   refine Mi (pR (x.index + 1)) (J := ?_)
   refine Mu (σ := Sl CSession) (v := fun y15 => .tuple #[.slice y15.A y15.n y15.c, .int .i64 (mKeep (y9.xs.map CSession.abs) (x.index + 1) (mDecode t).1.client (mDecode t).1.seq (mFree ((lk y1.locks y3).xs.map CLock.abs) (mDecode t).1.op.a (mDecode t).1.client).2.1).2]) (F := fun y15 => y15.xs.map CSession.abs = (mKeep (y9.xs.map CSession.abs) (x.index + 1) (mDecode t).1.client (mDecode t).1.seq (mFree ((lk y1.locks y3).xs.map CLock.abs) (mDecode t).1.op.a (mDecode t).1.client).2.1).1) (vs := fun bs => [.slice y9.A y9.n y9.c, .int .i64 (x.index + 1), .int .i64 (mDecode t).1.client, .int .i64 (mDecode t).1.seq, .agg #[.int .i64 ((mFree ((lk y1.locks y3).xs.map CLock.abs) (mDecode t).1.op.a (mDecode t).1.client).2.1).code, .int .i64 ((mFree ((lk y1.locks y3).xs.map CLock.abs) (mDecode t).1.op.a (mDecode t).1.client).2.1).n, .string ((mFree ((lk y1.locks y3).xs.map CLock.abs) (mDecode t).1.op.a (mDecode t).1.client).2.1).text]]) Tryz.call42 (fun bs w hS => ref_KeptOf y9 (x.index + 1) (mDecode t).1.client (mDecode t).1.seq (mFree ((lk y1.locks y3).xs.map CLock.abs) (mDecode t).1.op.a (mDecode t).1.client).2.1 w (hS.res _ (.tail _ (.head _))) (by unfold inR; omega) (by unfold inR; omega) (by rw [mFree_text]; exact Nat.zero_le _)) (J := ?_)
   rintro fp15 y15 hF15 hok15
   refine Mi (pR (x.index + 1)) (J := ?_)
   refine Mda 5 [] [1, 2] [subR fp15 y15, subR fp14 y14, subR fp9 y9, lkR y3, subR fp2 y2, subR fp1 y1] Tryz_mixed (J := ?_)
   refine Mz (J := ?_)
   refine Mt [.agg #[.int .i64 (x.index + 1), .slice y14.A y14.n y14.c, .slice y1.pairs.A y1.pairs.n y1.pairs.c, .slice y15.A y15.n y15.c], .agg #[.int .i64 ((mFree ((lk y1.locks y3).xs.map CLock.abs) (mDecode t).1.op.a (mDecode t).1.client).2.1).code, .int .i64 ((mFree ((lk y1.locks y3).xs.map CLock.abs) (mDecode t).1.op.a (mDecode t).1.client).2.1).n, .string ((mFree ((lk y1.locks y3).xs.map CLock.abs) (mDecode t).1.op.a (mDecode t).1.client).2.1).text], .int .i64 0] fun bs w hS => ?_
   have e3 : aFresh y1.abs = y2.xs.map CSession.abs := by unfold aFresh; rw [show y1.abs.index = x.index from hix]; exact hF2.symm
   have e4 : aLocks y1.abs = (lk y1.locks y3).xs.map CLock.abs := by unfold aLocks; rw [e3]; exact hF3.symm
   have hs : mStep x.abs (mDecode t).1 = _ := (congrArg (fun q => mStep q (mDecode t).1) hF1).symm.trans (step_do e3 e4 h5 h6 (by rw [show y1.abs.index = x.index from hix]; exact h7))
   rw [show y1.abs.index = x.index from hix] at hs
   have hmD : mDo ((lk y1.locks y3).xs.map CLock.abs) y1.pairs.xs (mDecode t).1.client (mDecode t).1.op = ((mFree ((lk y1.locks y3).xs.map CLock.abs) (mDecode t).1.op.a (mDecode t).1.client).1, y1.pairs.xs, (mFree ((lk y1.locks y3).xs.map CLock.abs) (mDecode t).1.op.a (mDecode t).1.client).2.1) := by unfold mDo; rw [if_neg (by omega), if_pos h10]
   rw [show y1.abs.pairs = y1.pairs.xs from rfl, hmD] at hs
   have hm := apply_ok h3 (by show ¬ _ ≤ x.index; omega) h4 hs
   refine ⟨(⟨x.index + 1, y14, y1.pairs, y15⟩ : CState), ?_, ?_, hS.outS (y := (⟨x.index + 1, y14, y1.pairs, y15⟩ : CState)) ⟨(allR_sub (y := y14) (.tail _ (.head _)) (hS.res _ (.tail _ (.head _)))), (And.left (And.right (allR_sub (y := y1) (.tail _ (.tail _ (.tail _ (.tail _ (.tail _ (.head _)))))) (hS.res _ (.tail _ (.tail _ (.tail _ (.tail _ (.tail _ (.head _)))))))))), (allR_sub (y := y15) (.head _) (hS.res _ (.head _)))⟩⟩
   · rw [hm] <;> rfl
   · rw [hm]
     show (⟨_, y14.xs.map CLock.abs, y1.pairs.xs, y15.xs.map CSession.abs⟩ : DState) = _
     rw [hF14, hF15, hF9] <;> rfl
 refine Md ((mDecode t).1.op.kind = 4) (T := fun h11 => ?_) (F := fun h11 => ?_)
 · refine Mi (pR (x.index + 1)) (J := ?_)
   refine Mu (σ := Sl CSession) (v := fun y16 => .tuple #[.slice y16.A y16.n y16.c, .int .i64 (mKeep (y9.xs.map CSession.abs) (x.index + 1) (mDecode t).1.client (mDecode t).1.seq (⟨0, (mWho ((lk y1.locks y3).xs.map CLock.abs) (mDecode t).1.op.a).1, emp⟩ : DReply)).2]) (F := fun y16 => y16.xs.map CSession.abs = (mKeep (y9.xs.map CSession.abs) (x.index + 1) (mDecode t).1.client (mDecode t).1.seq (⟨0, (mWho ((lk y1.locks y3).xs.map CLock.abs) (mDecode t).1.op.a).1, emp⟩ : DReply)).1) Tryz.call42 (fun bs w hS => ref_KeptOf y9 (x.index + 1) (mDecode t).1.client (mDecode t).1.seq (⟨0, (mWho ((lk y1.locks y3).xs.map CLock.abs) (mDecode t).1.op.a).1, emp⟩ : DReply) w (hS.res _ (.head _)) (by unfold inR; omega) (by unfold inR; omega) (by first | assumption | omega | (simp only [emp_size]; omega))) (J := ?_)
   rintro fp16 y16 hF16 hok16
   refine Mi (pR (x.index + 1)) (J := ?_)
   refine Mda 5 [] [1, 2] [subR fp16 y16, subR fp9 y9, lkR y3, subR fp2 y2, subR fp1 y1] Tryz_mixed (J := ?_)
   refine Mz (J := ?_)
   refine Mt [.agg #[.int .i64 (x.index + 1), .slice (lk y1.locks y3).A (lk y1.locks y3).n (lk y1.locks y3).c, .slice y1.pairs.A y1.pairs.n y1.pairs.c, .slice y16.A y16.n y16.c], .agg #[.int .i64 0, .int .i64 (mWho ((lk y1.locks y3).xs.map CLock.abs) (mDecode t).1.op.a).1, .string emp], .int .i64 0] fun bs w hS => ?_
   have e3 : aFresh y1.abs = y2.xs.map CSession.abs := by unfold aFresh; rw [show y1.abs.index = x.index from hix]; exact hF2.symm
   have e4 : aLocks y1.abs = (lk y1.locks y3).xs.map CLock.abs := by unfold aLocks; rw [e3]; exact hF3.symm
   have hs : mStep x.abs (mDecode t).1 = _ := (congrArg (fun q => mStep q (mDecode t).1) hF1).symm.trans (step_do e3 e4 h5 h6 (by rw [show y1.abs.index = x.index from hix]; exact h7))
   rw [show y1.abs.index = x.index from hix] at hs
   have hmD : mDo ((lk y1.locks y3).xs.map CLock.abs) y1.pairs.xs (mDecode t).1.client (mDecode t).1.op = ((lk y1.locks y3).xs.map CLock.abs, y1.pairs.xs, ⟨0, (mWho ((lk y1.locks y3).xs.map CLock.abs) (mDecode t).1.op.a).1, emp⟩) := by unfold mDo; rw [if_neg (by omega), if_neg (by omega), if_pos h11]
   rw [show y1.abs.pairs = y1.pairs.xs from rfl, hmD] at hs
   have hm := apply_ok h3 (by show ¬ _ ≤ x.index; omega) h4 hs
   refine ⟨(⟨x.index + 1, (lk y1.locks y3), y1.pairs, y16⟩ : CState), ?_, ?_, hS.outS (y := (⟨x.index + 1, (lk y1.locks y3), y1.pairs, y16⟩ : CState)) ⟨(lk_out (And.left (allR_sub (y := y1) (.tail _ (.tail _ (.tail _ (.tail _ (.head _))))) (hS.res _ (.tail _ (.tail _ (.tail _ (.tail _ (.head _)))))))) (.tail _ (.tail _ (.head _))) hS.res), (And.left (And.right (allR_sub (y := y1) (.tail _ (.tail _ (.tail _ (.tail _ (.head _))))) (hS.res _ (.tail _ (.tail _ (.tail _ (.tail _ (.head _))))))))), (allR_sub (y := y16) (.head _) (hS.res _ (.head _)))⟩⟩
   · rw [hm] <;> rfl
   · rw [hm]
     show (⟨_, (lk y1.locks y3).xs.map CLock.abs, y1.pairs.xs, y16.xs.map CSession.abs⟩ : DState) = _
     rw [hF16, hF9] <;> rfl
 refine Md ((mDecode t).1.op.kind = 6) (T := fun h12 => ?_) (F := fun h12 => ?_)
 · refine Mp Tryz.call40 (fun bs w hS => ref_GotOf y1.pairs (mDecode t).1.op.a w (And.left (And.right (hS.res _ (.tail _ (.tail _ (.tail _ (.head _)))))))) (J := ?_)
   refine Mi (pR (x.index + 1)) (J := ?_)
   refine Mu (σ := Sl CSession) (v := fun y17 => .tuple #[.slice y17.A y17.n y17.c, .int .i64 (mKeep (y9.xs.map CSession.abs) (x.index + 1) (mDecode t).1.client (mDecode t).1.seq (mGot y1.pairs.xs (mDecode t).1.op.a).1).2]) (F := fun y17 => y17.xs.map CSession.abs = (mKeep (y9.xs.map CSession.abs) (x.index + 1) (mDecode t).1.client (mDecode t).1.seq (mGot y1.pairs.xs (mDecode t).1.op.a).1).1) (vs := fun bs => [.slice y9.A y9.n y9.c, .int .i64 (x.index + 1), .int .i64 (mDecode t).1.client, .int .i64 (mDecode t).1.seq, .agg #[.int .i64 (mGot y1.pairs.xs (mDecode t).1.op.a).1.code, .int .i64 (mGot y1.pairs.xs (mDecode t).1.op.a).1.n, .string (mGot y1.pairs.xs (mDecode t).1.op.a).1.text]]) Tryz.call42 (fun bs w hS => ref_KeptOf y9 (x.index + 1) (mDecode t).1.client (mDecode t).1.seq (mGot y1.pairs.xs (mDecode t).1.op.a).1 w (hS.res _ (.head _)) (by unfold inR; omega) (by unfold inR; omega) (mGot_text (fun p hp => mem_getD (P := fun p : DPair => p.value.size ≤ 9223372036854775807) (fun j hj => ((hok1.2.1).2.2 j hj).2.2) p hp) _)) (J := ?_)
   rintro fp17 y17 hF17 hok17
   refine Mi (pR (x.index + 1)) (J := ?_)
   refine Mda 5 [] [1, 2] [subR fp17 y17, subR fp9 y9, lkR y3, subR fp2 y2, subR fp1 y1] Tryz_mixed (J := ?_)
   refine Mz (J := ?_)
   refine Mt [.agg #[.int .i64 (x.index + 1), .slice (lk y1.locks y3).A (lk y1.locks y3).n (lk y1.locks y3).c, .slice y1.pairs.A y1.pairs.n y1.pairs.c, .slice y17.A y17.n y17.c], .agg #[.int .i64 (mGot y1.pairs.xs (mDecode t).1.op.a).1.code, .int .i64 (mGot y1.pairs.xs (mDecode t).1.op.a).1.n, .string (mGot y1.pairs.xs (mDecode t).1.op.a).1.text], .int .i64 0] fun bs w hS => ?_
   have e3 : aFresh y1.abs = y2.xs.map CSession.abs := by unfold aFresh; rw [show y1.abs.index = x.index from hix]; exact hF2.symm
   have e4 : aLocks y1.abs = (lk y1.locks y3).xs.map CLock.abs := by unfold aLocks; rw [e3]; exact hF3.symm
   have hs : mStep x.abs (mDecode t).1 = _ := (congrArg (fun q => mStep q (mDecode t).1) hF1).symm.trans (step_do e3 e4 h5 h6 (by rw [show y1.abs.index = x.index from hix]; exact h7))
   rw [show y1.abs.index = x.index from hix] at hs
   have hmD : mDo ((lk y1.locks y3).xs.map CLock.abs) y1.pairs.xs (mDecode t).1.client (mDecode t).1.op = ((lk y1.locks y3).xs.map CLock.abs, y1.pairs.xs, (mGot y1.pairs.xs (mDecode t).1.op.a).1) := by unfold mDo; rw [if_neg (by omega), if_neg (by omega), if_neg (by omega), if_pos h12]
   rw [show y1.abs.pairs = y1.pairs.xs from rfl, hmD] at hs
   have hm := apply_ok h3 (by show ¬ _ ≤ x.index; omega) h4 hs
   refine ⟨(⟨x.index + 1, (lk y1.locks y3), y1.pairs, y17⟩ : CState), ?_, ?_, hS.outS (y := (⟨x.index + 1, (lk y1.locks y3), y1.pairs, y17⟩ : CState)) ⟨(lk_out (And.left (allR_sub (y := y1) (.tail _ (.tail _ (.tail _ (.tail _ (.head _))))) (hS.res _ (.tail _ (.tail _ (.tail _ (.tail _ (.head _)))))))) (.tail _ (.tail _ (.head _))) hS.res), (And.left (And.right (allR_sub (y := y1) (.tail _ (.tail _ (.tail _ (.tail _ (.head _))))) (hS.res _ (.tail _ (.tail _ (.tail _ (.tail _ (.head _))))))))), (allR_sub (y := y17) (.head _) (hS.res _ (.head _)))⟩⟩
   · rw [hm] <;> rfl
   · rw [hm]
     show (⟨_, (lk y1.locks y3).xs.map CLock.abs, y1.pairs.xs, y17.xs.map CSession.abs⟩ : DState) = _
     rw [hF17, hF9] <;> rfl
 refine Md ((mWho ((lk y1.locks y3).xs.map CLock.abs) (mDecode t).1.op.a).1 = (mDecode t).1.client) (T := fun h13 => ?_) (F := fun h13 => ?_)
 rotate_left
 · refine Mi (pR (x.index + 1)) (J := ?_)
   refine Mu (σ := Sl CSession) (v := fun y21 => .tuple #[.slice y21.A y21.n y21.c, .int .i64 (mKeep (y9.xs.map CSession.abs) (x.index + 1) (mDecode t).1.client (mDecode t).1.seq (⟨10, (mWho ((lk y1.locks y3).xs.map CLock.abs) (mDecode t).1.op.a).1, emp⟩ : DReply)).2]) (F := fun y21 => y21.xs.map CSession.abs = (mKeep (y9.xs.map CSession.abs) (x.index + 1) (mDecode t).1.client (mDecode t).1.seq (⟨10, (mWho ((lk y1.locks y3).xs.map CLock.abs) (mDecode t).1.op.a).1, emp⟩ : DReply)).1) Tryz.call42 (fun bs w hS => ref_KeptOf y9 (x.index + 1) (mDecode t).1.client (mDecode t).1.seq (⟨10, (mWho ((lk y1.locks y3).xs.map CLock.abs) (mDecode t).1.op.a).1, emp⟩ : DReply) w (hS.res _ (.head _)) (by unfold inR; omega) (by unfold inR; omega) (by first | assumption | omega | (simp only [emp_size]; omega))) (J := ?_)
   rintro fp21 y21 hF21 hok21
   refine Mi (pR (x.index + 1)) (J := ?_)
   refine Mda 5 [] [1, 2] [subR fp21 y21, subR fp9 y9, lkR y3, subR fp2 y2, subR fp1 y1] Tryz_mixed (J := ?_)
   refine Mz (J := ?_)
   refine Mt [.agg #[.int .i64 (x.index + 1), .slice (lk y1.locks y3).A (lk y1.locks y3).n (lk y1.locks y3).c, .slice y1.pairs.A y1.pairs.n y1.pairs.c, .slice y21.A y21.n y21.c], .agg #[.int .i64 10, .int .i64 (mWho ((lk y1.locks y3).xs.map CLock.abs) (mDecode t).1.op.a).1, .string emp], .int .i64 0] fun bs w hS => ?_
   have e3 : aFresh y1.abs = y2.xs.map CSession.abs := by unfold aFresh; rw [show y1.abs.index = x.index from hix]; exact hF2.symm
   have e4 : aLocks y1.abs = (lk y1.locks y3).xs.map CLock.abs := by unfold aLocks; rw [e3]; exact hF3.symm
   have hs : mStep x.abs (mDecode t).1 = _ := (congrArg (fun q => mStep q (mDecode t).1) hF1).symm.trans (step_do e3 e4 h5 h6 (by rw [show y1.abs.index = x.index from hix]; exact h7))
   rw [show y1.abs.index = x.index from hix] at hs
   have hmD : mDo ((lk y1.locks y3).xs.map CLock.abs) y1.pairs.xs (mDecode t).1.client (mDecode t).1.op = ((lk y1.locks y3).xs.map CLock.abs, y1.pairs.xs, ⟨10, (mWho ((lk y1.locks y3).xs.map CLock.abs) (mDecode t).1.op.a).1, emp⟩) := by unfold mDo; rw [if_neg (by omega), if_neg (by omega), if_neg (by omega), if_neg (by omega), if_pos (.inl h13)]
   rw [show y1.abs.pairs = y1.pairs.xs from rfl, hmD] at hs
   have hm := apply_ok h3 (by show ¬ _ ≤ x.index; omega) h4 hs
   refine ⟨(⟨x.index + 1, (lk y1.locks y3), y1.pairs, y21⟩ : CState), ?_, ?_, hS.outS (y := (⟨x.index + 1, (lk y1.locks y3), y1.pairs, y21⟩ : CState)) ⟨(lk_out (And.left (allR_sub (y := y1) (.tail _ (.tail _ (.tail _ (.tail _ (.head _))))) (hS.res _ (.tail _ (.tail _ (.tail _ (.tail _ (.head _)))))))) (.tail _ (.tail _ (.head _))) hS.res), (And.left (And.right (allR_sub (y := y1) (.tail _ (.tail _ (.tail _ (.tail _ (.head _))))) (hS.res _ (.tail _ (.tail _ (.tail _ (.tail _ (.head _))))))))), (allR_sub (y := y21) (.head _) (hS.res _ (.head _)))⟩⟩
   · rw [hm] <;> rfl
   · rw [hm]
     show (⟨_, (lk y1.locks y3).xs.map CLock.abs, y1.pairs.xs, y21.xs.map CSession.abs⟩ : DState) = _
     rw [hF21, hF9] <;> rfl
 refine Md ((mWho ((lk y1.locks y3).xs.map CLock.abs) (mDecode t).1.op.a).2.1 = (mDecode t).1.op.n) (T := fun h14 => ?_) (F := fun h14 => ?_)
 rotate_left
 · refine Mi (pR (x.index + 1)) (J := ?_)
   refine Mu (σ := Sl CSession) (v := fun y20 => .tuple #[.slice y20.A y20.n y20.c, .int .i64 (mKeep (y9.xs.map CSession.abs) (x.index + 1) (mDecode t).1.client (mDecode t).1.seq (⟨10, (mWho ((lk y1.locks y3).xs.map CLock.abs) (mDecode t).1.op.a).1, emp⟩ : DReply)).2]) (F := fun y20 => y20.xs.map CSession.abs = (mKeep (y9.xs.map CSession.abs) (x.index + 1) (mDecode t).1.client (mDecode t).1.seq (⟨10, (mWho ((lk y1.locks y3).xs.map CLock.abs) (mDecode t).1.op.a).1, emp⟩ : DReply)).1) Tryz.call42 (fun bs w hS => ref_KeptOf y9 (x.index + 1) (mDecode t).1.client (mDecode t).1.seq (⟨10, (mWho ((lk y1.locks y3).xs.map CLock.abs) (mDecode t).1.op.a).1, emp⟩ : DReply) w (hS.res _ (.head _)) (by unfold inR; omega) (by unfold inR; omega) (by first | assumption | omega | (simp only [emp_size]; omega))) (J := ?_)
   rintro fp20 y20 hF20 hok20
   refine Mi (pR (x.index + 1)) (J := ?_)
   refine Mda 5 [] [1, 2] [subR fp20 y20, subR fp9 y9, lkR y3, subR fp2 y2, subR fp1 y1] Tryz_mixed (J := ?_)
   refine Mz (J := ?_)
   refine Mt [.agg #[.int .i64 (x.index + 1), .slice (lk y1.locks y3).A (lk y1.locks y3).n (lk y1.locks y3).c, .slice y1.pairs.A y1.pairs.n y1.pairs.c, .slice y20.A y20.n y20.c], .agg #[.int .i64 10, .int .i64 (mWho ((lk y1.locks y3).xs.map CLock.abs) (mDecode t).1.op.a).1, .string emp], .int .i64 0] fun bs w hS => ?_
   have e3 : aFresh y1.abs = y2.xs.map CSession.abs := by unfold aFresh; rw [show y1.abs.index = x.index from hix]; exact hF2.symm
   have e4 : aLocks y1.abs = (lk y1.locks y3).xs.map CLock.abs := by unfold aLocks; rw [e3]; exact hF3.symm
   have hs : mStep x.abs (mDecode t).1 = _ := (congrArg (fun q => mStep q (mDecode t).1) hF1).symm.trans (step_do e3 e4 h5 h6 (by rw [show y1.abs.index = x.index from hix]; exact h7))
   rw [show y1.abs.index = x.index from hix] at hs
   have hmD : mDo ((lk y1.locks y3).xs.map CLock.abs) y1.pairs.xs (mDecode t).1.client (mDecode t).1.op = ((lk y1.locks y3).xs.map CLock.abs, y1.pairs.xs, ⟨10, (mWho ((lk y1.locks y3).xs.map CLock.abs) (mDecode t).1.op.a).1, emp⟩) := by unfold mDo; rw [if_neg (by omega), if_neg (by omega), if_neg (by omega), if_neg (by omega), if_pos (.inr h14)]
   rw [show y1.abs.pairs = y1.pairs.xs from rfl, hmD] at hs
   have hm := apply_ok h3 (by show ¬ _ ≤ x.index; omega) h4 hs
   refine ⟨(⟨x.index + 1, (lk y1.locks y3), y1.pairs, y20⟩ : CState), ?_, ?_, hS.outS (y := (⟨x.index + 1, (lk y1.locks y3), y1.pairs, y20⟩ : CState)) ⟨(lk_out (And.left (allR_sub (y := y1) (.tail _ (.tail _ (.tail _ (.tail _ (.head _))))) (hS.res _ (.tail _ (.tail _ (.tail _ (.tail _ (.head _)))))))) (.tail _ (.tail _ (.head _))) hS.res), (And.left (And.right (allR_sub (y := y1) (.tail _ (.tail _ (.tail _ (.tail _ (.head _))))) (hS.res _ (.tail _ (.tail _ (.tail _ (.tail _ (.head _))))))))), (allR_sub (y := y20) (.head _) (hS.res _ (.head _)))⟩⟩
   · rw [hm] <;> rfl
   · rw [hm]
     show (⟨_, (lk y1.locks y3).xs.map CLock.abs, y1.pairs.xs, y20.xs.map CSession.abs⟩ : DState) = _
     rw [hF20, hF9] <;> rfl
 refine Mu Tryz.call41 (fun bs w hS => ref_SetOf y1.pairs (mDecode t).1.op.a (mDecode t).1.op.b w (And.left (And.right (hS.res _ (.tail _ (.tail _ (.tail _ (.head _))))))) hcb5 hcb6) (J := ?_)
 rintro fp18 y18 hF18 hok18
 refine Mi (pR (x.index + 1)) (J := ?_)
 refine Mu (σ := Sl CSession) (v := fun y19 => .tuple #[.slice y19.A y19.n y19.c, .int .i64 (mKeep (y9.xs.map CSession.abs) (x.index + 1) (mDecode t).1.client (mDecode t).1.seq (mPSet y1.pairs.xs (mDecode t).1.op.a (mDecode t).1.op.b).2.1).2]) (F := fun y19 => y19.xs.map CSession.abs = (mKeep (y9.xs.map CSession.abs) (x.index + 1) (mDecode t).1.client (mDecode t).1.seq (mPSet y1.pairs.xs (mDecode t).1.op.a (mDecode t).1.op.b).2.1).1) (vs := fun bs => [.slice y9.A y9.n y9.c, .int .i64 (x.index + 1), .int .i64 (mDecode t).1.client, .int .i64 (mDecode t).1.seq, .agg #[.int .i64 ((mPSet y1.pairs.xs (mDecode t).1.op.a (mDecode t).1.op.b).2.1).code, .int .i64 ((mPSet y1.pairs.xs (mDecode t).1.op.a (mDecode t).1.op.b).2.1).n, .string ((mPSet y1.pairs.xs (mDecode t).1.op.a (mDecode t).1.op.b).2.1).text]]) Tryz.call42 (fun bs w hS => ref_KeptOf y9 (x.index + 1) (mDecode t).1.client (mDecode t).1.seq (mPSet y1.pairs.xs (mDecode t).1.op.a (mDecode t).1.op.b).2.1 w (hS.res _ (.tail _ (.head _))) (by unfold inR; omega) (by unfold inR; omega) (by rw [mPSet_text]; exact Nat.zero_le _)) (J := ?_)
 rintro fp19 y19 hF19 hok19
 refine Mi (pR (x.index + 1)) (J := ?_)
 refine Mda 5 [] [1, 2] [subR fp19 y19, subR fp18 y18, subR fp9 y9, lkR y3, subR fp2 y2, subR fp1 y1] Tryz_mixed (J := ?_)
 refine Mz (J := ?_)
 refine Mt [.agg #[.int .i64 (x.index + 1), .slice (lk y1.locks y3).A (lk y1.locks y3).n (lk y1.locks y3).c, .slice y18.A y18.n y18.c, .slice y19.A y19.n y19.c], .agg #[.int .i64 ((mPSet y1.pairs.xs (mDecode t).1.op.a (mDecode t).1.op.b).2.1).code, .int .i64 ((mPSet y1.pairs.xs (mDecode t).1.op.a (mDecode t).1.op.b).2.1).n, .string ((mPSet y1.pairs.xs (mDecode t).1.op.a (mDecode t).1.op.b).2.1).text], .int .i64 0] fun bs w hS => ?_
 have e3 : aFresh y1.abs = y2.xs.map CSession.abs := by unfold aFresh; rw [show y1.abs.index = x.index from hix]; exact hF2.symm
 have e4 : aLocks y1.abs = (lk y1.locks y3).xs.map CLock.abs := by unfold aLocks; rw [e3]; exact hF3.symm
 have hs : mStep x.abs (mDecode t).1 = _ := (congrArg (fun q => mStep q (mDecode t).1) hF1).symm.trans (step_do e3 e4 h5 h6 (by rw [show y1.abs.index = x.index from hix]; exact h7))
 rw [show y1.abs.index = x.index from hix] at hs
 have hmD : mDo ((lk y1.locks y3).xs.map CLock.abs) y1.pairs.xs (mDecode t).1.client (mDecode t).1.op = ((lk y1.locks y3).xs.map CLock.abs, (mPSet y1.pairs.xs (mDecode t).1.op.a (mDecode t).1.op.b).1, (mPSet y1.pairs.xs (mDecode t).1.op.a (mDecode t).1.op.b).2.1) := by unfold mDo; rw [if_neg (by omega), if_neg (by omega), if_neg (by omega), if_neg (by omega), if_neg (by rintro (h | h); exact h h13; exact h h14)]
 rw [show y1.abs.pairs = y1.pairs.xs from rfl, hmD] at hs
 have hm := apply_ok h3 (by show ¬ _ ≤ x.index; omega) h4 hs
 refine ⟨(⟨x.index + 1, (lk y1.locks y3), y18, y19⟩ : CState), ?_, ?_, hS.outS (y := (⟨x.index + 1, (lk y1.locks y3), y18, y19⟩ : CState)) ⟨(lk_out (And.left (allR_sub (y := y1) (.tail _ (.tail _ (.tail _ (.tail _ (.tail _ (.head _)))))) (hS.res _ (.tail _ (.tail _ (.tail _ (.tail _ (.tail _ (.head _))))))))) (.tail _ (.tail _ (.tail _ (.head _)))) hS.res), (allR_sub (y := y18) (.tail _ (.head _)) (hS.res _ (.tail _ (.head _)))), (allR_sub (y := y19) (.head _) (hS.res _ (.head _)))⟩⟩
 · rw [hm] <;> rfl
 · rw [hm]
   show (⟨_, (lk y1.locks y3).xs.map CLock.abs, y18.xs, y19.xs.map CSession.abs⟩ : DState) = _
   rw [hF18, hF19, hF9] <;> rfl

theorem replica_Apply {B : Nat → Prop} (x : CReplica) (u : Int) (w : World) (hx : Rds.sub B w x) : Calls Tryz.prog 11 #[.agg #[.int .i64 x.log.base, .slice x.log.entries.A x.log.entries.n x.log.entries.c, .string x.snap, .int .i64 x.state.index, .slice x.state.locks.A x.state.locks.n x.state.locks.c, .slice x.state.pairs.A x.state.pairs.n x.state.pairs.c, .slice x.state.sessions.A x.state.sessions.n x.state.sessions.c], .int .i64 u] w fun e w' => ∃ y : CRan, e = .returned (.tuple #[.agg #[.int .i64 y.repl.log.base, .slice y.repl.log.entries.A y.repl.log.entries.n y.repl.log.entries.c, .string y.repl.snap, .int .i64 y.repl.state.index, .slice y.repl.state.locks.A y.repl.state.locks.n y.repl.state.locks.c, .slice y.repl.state.pairs.A y.repl.state.pairs.n y.repl.state.pairs.c, .slice y.repl.state.sessions.A y.repl.state.sessions.n y.repl.state.sessions.c], .slice y.out.A y.out.n y.out.c, .int .i64 (mRApply x.abs u).2.2]) ∧ y.abs = (⟨(mRApply x.abs u).1, (mRApply x.abs u).2.1⟩ : DRan) ∧ FreshS w w' y := by
 have qL : x.abs.log = x.log.abs := rfl
 have qS : x.abs.state = x.state.abs := rfl
 have qN : x.abs.snap = x.snap := rfl
 have qB : x.abs.log.base = x.log.base := rfl
 have qI : x.abs.state.index = x.state.index := rfl
 have qM : mLast x.abs.log = x.log.base + (x.log.entries.n : Int) := rfl
 have okx := Rds.okof hx
 have okl := okx.2.1
 have ncx := Sl.ok.nc okl
 have hnx : x.log.entries.n = x.log.entries.xs.length := rfl
 refine M0 Tryz.func11 (J := ?_)
 refine Mp Tryz.call47 (fun bs w hS => replica_Check x w (Rds.kp hx hS.kp)) (J := ?_)
 refine Mdn (mReplica x.abs = 0) (T := fun h1 => ?_) (F := fun h1 => ?_)
 rotate_left
 · refine Mt [.agg #[.int .i64 0, .slice none 0 0, .string emp, .int .i64 0, .slice none 0 0, .slice none 0 0, .slice none 0 0], .slice none 0 0, .int .i64 (mReplica x.abs)] fun bs w hS => ?_
   have hm := rapp_bad (u := u) h1
   refine ⟨(⟨(⟨⟨0, Sl.nil⟩, emp, 0, Sl.nil, Sl.nil, Sl.nil⟩ : CReplica), Sl.nil⟩ : CRan), ?_, ?_, hS.outS (y := (⟨(⟨⟨0, Sl.nil⟩, emp, 0, Sl.nil, Sl.nil, Sl.nil⟩ : CReplica), Sl.nil⟩ : CRan)) ⟨(by show emp.size ≤ _; rw [emp_size]; omega), Sl.rd_nil _ _, Sl.rd_nil _ _, Sl.rd_nil _ _, Sl.rd_nil _ _, Sl.rd_nil _ _⟩⟩
   · rw [hm] <;> rfl
   · rw [hm] <;> rfl
 obtain ⟨hp1, hp2, hp3, hp4, hp5⟩ := mReplica_parts h1
 obtain ⟨hb1, hb2, hb3, hb4⟩ := mLog_bd hp1
 have hb6 : x.abs.log.entries = x.log.entries.xs := rfl
 rw [qB] at hb1 hb2 hp3
 rw [qI] at hp3 hp4
 rw [qM] at hp4
 rw [hb6] at hb3
 refine Md (u < 0) (T := fun h2 => ?_) (F := fun h2 => ?_)
 · refine Mt [.agg #[.int .i64 0, .slice none 0 0, .string emp, .int .i64 0, .slice none 0 0, .slice none 0 0, .slice none 0 0], .slice none 0 0, .int .i64 2] fun bs w hS => ?_
   have hm := rapp_out (u := u) h1 (by omega)
   refine ⟨(⟨(⟨⟨0, Sl.nil⟩, emp, 0, Sl.nil, Sl.nil, Sl.nil⟩ : CReplica), Sl.nil⟩ : CRan), ?_, ?_, hS.outS (y := (⟨(⟨⟨0, Sl.nil⟩, emp, 0, Sl.nil, Sl.nil, Sl.nil⟩ : CReplica), Sl.nil⟩ : CRan)) ⟨(by show emp.size ≤ _; rw [emp_size]; omega), Sl.rd_nil _ _, Sl.rd_nil _ _, Sl.rd_nil _ _, Sl.rd_nil _ _, Sl.rd_nil _ _⟩⟩
   · rw [hm] <;> rfl
   · rw [hm] <;> rfl
 refine Md ((1073741824 : Int) < u) (T := fun h3 => ?_) (F := fun h3 => ?_)
 · refine Mt [.agg #[.int .i64 0, .slice none 0 0, .string emp, .int .i64 0, .slice none 0 0, .slice none 0 0, .slice none 0 0], .slice none 0 0, .int .i64 2] fun bs w hS => ?_
   have hm := rapp_out (u := u) h1 (by omega)
   refine ⟨(⟨(⟨⟨0, Sl.nil⟩, emp, 0, Sl.nil, Sl.nil, Sl.nil⟩ : CReplica), Sl.nil⟩ : CRan), ?_, ?_, hS.outS (y := (⟨(⟨⟨0, Sl.nil⟩, emp, 0, Sl.nil, Sl.nil, Sl.nil⟩ : CReplica), Sl.nil⟩ : CRan)) ⟨(by show emp.size ≤ _; rw [emp_size]; omega), Sl.rd_nil _ _, Sl.rd_nil _ _, Sl.rd_nil _ _, Sl.rd_nil _ _, Sl.rd_nil _ _⟩⟩
   · rw [hm] <;> rfl
   · rw [hm] <;> rfl
 refine Mu (σ := CReplica) (v := fun y1 => .agg #[.int .i64 y1.log.base, .slice y1.log.entries.A y1.log.entries.n y1.log.entries.c, .string y1.snap, .int .i64 y1.state.index, .slice y1.state.locks.A y1.state.locks.n y1.state.locks.c, .slice y1.state.pairs.A y1.state.pairs.n y1.state.pairs.c, .slice y1.state.sessions.A y1.state.sessions.n y1.state.sessions.c]) (F := fun y1 => y1.abs = x.abs) Tryz.call48 (fun bs w hS => replica_Copy x w (Rds.kp hx hS.kp) (small_repl (by assumption))) (J := ?_)
 rintro fp1 y1 hF1 hok1
 have e1 : y1.log.base = x.log.base := congrArg (fun r : DReplica => r.log.base) hF1
 have e2 : y1.state.index = x.state.index := congrArg (fun r : DReplica => r.state.index) hF1
 have e3 : y1.log.entries.xs = x.log.entries.xs := congrArg (fun r : DReplica => r.log.entries) hF1
 have e4 : y1.log.entries.n = x.log.entries.n := congrArg List.length e3
 obtain ⟨N, hN⟩ : ∃ N, ((if u < (y1.log.base + (y1.log.entries.n : Int)) then u else (y1.log.base + (y1.log.entries.n : Int))) - y1.state.index).toNat = N := ⟨_, rfl⟩
 obtain ⟨k0, hk0⟩ : ∃ k, (y1.state.index - y1.log.base).toNat = k := ⟨_, rfl⟩
 refine m_nores (stR (none : Option (List Nat × CState))) rfl (fun w => trivial) ?_
 refine m_rowA (α := DMail) 93 ?_
 refine Ml (σ := Nat × Option Addr × Nat × List DMail × Option (List Nat × CState)) (fun ⟨k, A0, c0, L0, o⟩ => k ≤ N ∧ RunI y1.log.entries.xs N k0 y1.state.abs k (stk y1.state o).abs L0 ∧ Rds.ok (stk y1.state o)) (fun ⟨k, A0, c0, L0, o⟩ => N - k) (fun ⟨k, A0, c0, L0, o⟩ => [rowA 93 A0 c0 (L0 : List DMail), stR o, subR fp1 y1]) [8, 4, 2, 1] (fun ⟨k, A0, c0, L0, o⟩ => [(8, .v (.slice A0 L0.length c0))]) (fun ⟨k, A0, c0, L0, o⟩ => [(0, [vI y1.log.base, .v (.slice y1.log.entries.A y1.log.entries.n y1.log.entries.c), vS y1.snap, vI (stk y1.state o).index, .v (.slice (stk y1.state o).locks.A (stk y1.state o).locks.n (stk y1.state o).locks.c), .v (.slice (stk y1.state o).pairs.A (stk y1.state o).pairs.n (stk y1.state o).pairs.c), .v (.slice (stk y1.state o).sessions.A (stk y1.state o).sessions.n (stk y1.state o).sessions.c)])]) (⟨0, none, 0, [], none⟩) ⟨Nat.zero_le _, runI_0 _ _ _ _, (show Rds.ok y1.state from hok1.2.2)⟩ (B := ?_)
 rintro ⟨k, A0, c0, L0, o⟩ ⟨hk, hI, hokz⟩ _ on1
 have hI2 : (stk y1.state o).index = y1.state.index + (k : Int) := hI.2.1
 have hI3 := hI.2.2.1
 refine Mda 9 [] [] [rowA 93 A0 c0 (L0 : List DMail), stR o, subR fp1 y1] Tryz_mixed (J := ?_)
 refine Mp Tryz.call49 (fun bs w hS => log_Last y1.log w (And.left (And.right (hS.res _ (.tail _ (.tail _ (.head _)))))) (by first | exact ⟨by omega, by omega, by omega⟩ | omega)) (J := ?_)
 refine Mz (J := ?_)
 refine Md ((stk y1.state o).index < (if y1.log.base + (y1.log.entries.n : Int) < u then y1.log.base + (y1.log.entries.n : Int) else u)) (T := fun h4 => ?_) (F := fun h4 => ?_)
 rotate_left
 · refine Mt [.agg #[.int .i64 y1.log.base, .slice y1.log.entries.A y1.log.entries.n y1.log.entries.c, .string y1.snap, .int .i64 (stk y1.state o).index, .slice (stk y1.state o).locks.A (stk y1.state o).locks.n (stk y1.state o).locks.c, .slice (stk y1.state o).pairs.A (stk y1.state o).pairs.n (stk y1.state o).pairs.c, .slice (stk y1.state o).sessions.A (stk y1.state o).sessions.n (stk y1.state o).sessions.c], .slice A0 L0.length c0, .int .i64 0] fun bs w hS => ?_
   have hr1 : mReplica y1.abs = 0 := by rw [hF1]; exact h1
   have hm := rapp_ok (r := y1.abs) (u := u) hr1 (by omega) rfl rfl hN hk0 (runI_end hI (by omega))
   rw [hF1] at hm
   have hp1 := (show Rds.sub (· ∈ (allR [rowA 93 A0 c0 (L0 : List DMail), stR o, subR fp1 y1]).fp) w y1 from allR_sub (y := y1) (.tail _ (.tail _ (.head _))) (hS.res _ (.tail _ (.tail _ (.head _)))))
   have hp2 := stk_out (z := y1.state) hp1.2.2 (.tail _ (.head _)) hS.res
   refine ⟨(⟨⟨y1.log, y1.snap, (stk y1.state o)⟩, ⟨A0, c0, L0⟩⟩ : CRan), ?_, ?_, hS.outS (y := (⟨⟨y1.log, y1.snap, (stk y1.state o)⟩, ⟨A0, c0, L0⟩⟩ : CRan)) ⟨hp1.1, hp1.2.1, hp2.1, hp2.2.1, hp2.2.2, (allR_row (.head _) (hS.res _ (.head _)) (fun z hz => hI.2.2.2 z hz))⟩⟩
   · rw [hm]; rfl
   · rw [hm]; show (⟨⟨y1.log.abs, y1.snap, (stk y1.state o).abs⟩, _⟩ : DRan) = _; rw [← hF1]; rfl
 refine Mi (pc (pR ((stk y1.state o).index - y1.log.base)) (pA 49 50 ((stk y1.state o).index - y1.log.base) ((stk y1.state o).index - y1.log.base).toNat (s := y1.log.entries) (fun w hk hr => (And.left (And.right (hr _ (.tail _ (.tail _ (.head _))))))))) (J := ?_)
 refine Mu (σ := CState) (v := fun y2 => .tuple #[.agg #[.int .i64 y2.index, .slice y2.locks.A y2.locks.n y2.locks.c, .slice y2.pairs.A y2.pairs.n y2.pairs.c, .slice y2.sessions.A y2.sessions.n y2.sessions.c], .agg #[.int .i64 ((mApply (stk y1.state o).abs (y1.log.entries.at ((stk y1.state o).index - y1.log.base).toNat)).2.1).code, .int .i64 ((mApply (stk y1.state o).abs (y1.log.entries.at ((stk y1.state o).index - y1.log.base).toNat)).2.1).n, .string ((mApply (stk y1.state o).abs (y1.log.entries.at ((stk y1.state o).index - y1.log.base).toNat)).2.1).text], .int .i64 (mApply (stk y1.state o).abs (y1.log.entries.at ((stk y1.state o).index - y1.log.base).toNat)).2.2]) (F := fun y2 => y2.abs = (mApply (stk y1.state o).abs (y1.log.entries.at ((stk y1.state o).index - y1.log.base).toNat)).1) Tryz.call7 (fun bs w hS => machine_Apply (stk y1.state o) (y1.log.entries.at ((stk y1.state o).index - y1.log.base).toNat) w (stk_rd (And.right (And.right (hS.res _ (.tail _ (.tail _ (.head _)))))) (hS.res _ (.tail _ (.head _)))) (Sl.ok.at (s := y1.log.entries) (i := ((stk y1.state o).index - y1.log.base).toNat) (And.left (And.right hok1)) (by omega))) (J := ?_)
 rintro fp2 y2 hF2 hok2
 refine Mdn ((mApply (stk y1.state o).abs (y1.log.entries.at ((stk y1.state o).index - y1.log.base).toNat)).2.2 = 0) (T := fun h5 => ?_) (F := fun h5 => ?_)
 rotate_left
 · refine Mt [.agg #[.int .i64 0, .slice none 0 0, .string emp, .int .i64 0, .slice none 0 0, .slice none 0 0, .slice none 0 0], .slice none 0 0, .int .i64 (mApply (stk y1.state o).abs (y1.log.entries.at ((stk y1.state o).index - y1.log.base).toNat)).2.2] fun bs w hS => ?_
   have hr1 : mReplica y1.abs = 0 := by rw [hF1]; exact h1
   have hj : k0 + k = ((stk y1.state o).index - y1.log.base).toNat := by omega
   have hm := rapp_err (r := y1.abs) (u := u) hr1 (by omega) rfl rfl hN hk0 (runI_bad hI (by omega) (show y1.log.entries.xs.getD (k0 + k) default = y1.log.entries.at ((stk y1.state o).index - y1.log.base).toNat by rw [hj]; rfl) h5) h5
   rw [hF1] at hm
   refine ⟨(⟨(⟨⟨0, Sl.nil⟩, emp, 0, Sl.nil, Sl.nil, Sl.nil⟩ : CReplica), Sl.nil⟩ : CRan), ?_, ?_, hS.outS (y := (⟨(⟨⟨0, Sl.nil⟩, emp, 0, Sl.nil, Sl.nil, Sl.nil⟩ : CReplica), Sl.nil⟩ : CRan)) ⟨(by show emp.size ≤ _; rw [emp_size]; omega), Sl.rd_nil _ _, Sl.rd_nil _ _, Sl.rd_nil _ _, Sl.rd_nil _ _, Sl.rd_nil _ _⟩⟩
   · rw [hm] <;> rfl
   · rw [hm] <;> rfl
 refine Mp Tryz.call21 (fun bs w hS => command_Decode (y1.log.entries.at ((stk y1.state o).index - y1.log.base).toNat) w (Sl.ok.at (s := y1.log.entries) (i := ((stk y1.state o).index - y1.log.base).toNat) (And.left (And.right hok1)) (by omega))) (J := ?_)
 refine M1 (J := ?_)
 refine m_f1 ?_
 refine Mal (α := DMail) 48 ([(⟨(mDecode (y1.log.entries.at ((stk y1.state o).index - y1.log.base).toNat)).1.client, (mDecode (y1.log.entries.at ((stk y1.state o).index - y1.log.base).toNat)).1.seq, ⟨((mApply (stk y1.state o).abs (y1.log.entries.at ((stk y1.state o).index - y1.log.base).toNat)).2.1).code, ((mApply (stk y1.state o).abs (y1.log.entries.at ((stk y1.state o).index - y1.log.base).toNat)).2.1).n, ((mApply (stk y1.state o).abs (y1.log.entries.at ((stk y1.state o).index - y1.log.base).toNat)).2.1).text⟩⟩ : DMail)]) (h63 := (by first | omega | (simp only [List.length_append, List.length_nil, List.length_cons]; omega))) (hb := (by first | omega | (simp only [List.length_append, List.length_nil, List.length_cons]; omega))) (J := ?_)
 intro A3 c3
 refine m_f2 ?_
 refine m_weak noR (List.nil_sublist _) (fun _ _ => trivial) ?_
 refine m_f2 ?_
 refine m_join (stR (some (fp2, y2))) (by show List.Perm fp2 (fp2 ++ []); rw [List.append_nil]) (fun w h1 h2 => h1) ?_
 refine m_f2 (m_f1 (m_f2 ?_))
 have hj : k0 + k = ((stk y1.state o).index - y1.log.base).toNat := by omega
 have hI9 := runI_next hI (by omega) (show y1.log.entries.xs.getD (k0 + k) default = y1.log.entries.at ((stk y1.state o).index - y1.log.base).toNat by rw [hj]; rfl) h5 (texts_ok hokz) hF2
 have hok9 := hok2
 exact on1 (⟨k + 1, A3, c3, L0 ++ [(⟨(mDecode (y1.log.entries.at ((stk y1.state o).index - y1.log.base).toNat)).1.client, (mDecode (y1.log.entries.at ((stk y1.state o).index - y1.log.base).toNat)).1.seq, ⟨((mApply (stk y1.state o).abs (y1.log.entries.at ((stk y1.state o).index - y1.log.base).toNat)).2.1).code, ((mApply (stk y1.state o).abs (y1.log.entries.at ((stk y1.state o).index - y1.log.base).toNat)).2.1).n, ((mApply (stk y1.state o).abs (y1.log.entries.at ((stk y1.state o).index - y1.log.base).toNat)).2.1).text⟩⟩ : DMail)], some (fp2, y2)⟩ : Nat × Option Addr × Nat × List DMail × Option (List Nat × CState)) ⟨by omega, hI9, hok9⟩ (by show N - (k + 1) < N - k; omega)

theorem ref_RanOf {B : Nat → Prop} (x : CReplica) (u : Int) (w : World) (hx : Rds.sub B w x) : Calls Tryz.prog 12 #[.agg #[.int .i64 x.log.base, .slice x.log.entries.A x.log.entries.n x.log.entries.c, .string x.snap, .int .i64 x.state.index, .slice x.state.locks.A x.state.locks.n x.state.locks.c, .slice x.state.pairs.A x.state.pairs.n x.state.pairs.c, .slice x.state.sessions.A x.state.sessions.n x.state.sessions.c], .int .i64 u] w fun e w' => ∃ y : CRan, e = .returned (.tuple #[.agg #[.int .i64 y.repl.log.base, .slice y.repl.log.entries.A y.repl.log.entries.n y.repl.log.entries.c, .string y.repl.snap, .int .i64 y.repl.state.index, .slice y.repl.state.locks.A y.repl.state.locks.n y.repl.state.locks.c, .slice y.repl.state.pairs.A y.repl.state.pairs.n y.repl.state.pairs.c, .slice y.repl.state.sessions.A y.repl.state.sessions.n y.repl.state.sessions.c], .slice y.out.A y.out.n y.out.c, .int .i64 (mRApply x.abs u).2.2]) ∧ y.abs = (⟨(mRApply x.abs u).1, (mRApply x.abs u).2.1⟩ : DRan) ∧ FreshS w w' y := by
 have qL : x.abs.log = x.log.abs := rfl
 have qS : x.abs.state = x.state.abs := rfl
 have qN : x.abs.snap = x.snap := rfl
 have qB : x.abs.log.base = x.log.base := rfl
 have qI : x.abs.state.index = x.state.index := rfl
 have qM : mLast x.abs.log = x.log.base + (x.log.entries.n : Int) := rfl
 have okx := Rds.okof hx
 have okl := okx.2.1
 have ncx := Sl.ok.nc okl
 have hnx : x.log.entries.n = x.log.entries.xs.length := rfl
 refine M0 Tryz.func12 (J := ?_)
 refine Mp Tryz.call50 (fun bs w hS => ref_ReplicaFault x w (Rds.kp hx hS.kp)) (J := ?_)
 refine Md (mReplica x.abs = 0) (T := fun h1 => ?_) (F := fun h1 => ?_)
 rotate_left
 · refine Mdn (mReplica x.abs = 0) (T := fun h7 => ?_) (F := fun h7 => ?_)
   · exact absurd h7 h1
   refine Mt [.agg #[.int .i64 0, .slice none 0 0, .string emp, .int .i64 0, .slice none 0 0, .slice none 0 0, .slice none 0 0], .slice none 0 0, .int .i64 (mReplica x.abs)] fun bs w hS => ?_
   have hm := rapp_bad (u := u) h7
   refine ⟨(⟨(⟨⟨0, Sl.nil⟩, emp, 0, Sl.nil, Sl.nil, Sl.nil⟩ : CReplica), Sl.nil⟩ : CRan), ?_, ?_, hS.outS (y := (⟨(⟨⟨0, Sl.nil⟩, emp, 0, Sl.nil, Sl.nil, Sl.nil⟩ : CReplica), Sl.nil⟩ : CRan)) ⟨(by show emp.size ≤ _; rw [emp_size]; omega), Sl.rd_nil _ _, Sl.rd_nil _ _, Sl.rd_nil _ _, Sl.rd_nil _ _, Sl.rd_nil _ _⟩⟩
   · rw [hm] <;> rfl
   · rw [hm] <;> rfl
 obtain ⟨hp1, hp2, hp3, hp4, hp5⟩ := mReplica_parts h1
 obtain ⟨hb1, hb2, hb3, hb4⟩ := mLog_bd hp1
 have hb6 : x.abs.log.entries = x.log.entries.xs := rfl
 rw [qB] at hb1 hb2 hp3
 rw [qI] at hp3 hp4
 rw [qM] at hp4
 rw [hb6] at hb3
 refine Mp Tryz.call51 (fun bs w hS => ref_In u 0 1073741824 w) (J := ?_)
 refine Mbn (inB u 0 1073741824) (T := fun h2 => ?_) (F := fun h2 => ?_)
 rotate_left
 · simp only [inB, Bool.and_eq_true, Bool.and_eq_false_iff, decide_eq_true_eq, decide_eq_false_iff_not] at h2
   refine Mq 27 true rfl (J := ?_)
   refine Mt [.agg #[.int .i64 0, .slice none 0 0, .string emp, .int .i64 0, .slice none 0 0, .slice none 0 0, .slice none 0 0], .slice none 0 0, .int .i64 2] fun bs w hS => ?_
   have hm := rapp_out (u := u) h1 (by (try simp only [inB, Bool.and_eq_false_iff, decide_eq_false_iff_not] at h2); omega)
   refine ⟨(⟨(⟨⟨0, Sl.nil⟩, emp, 0, Sl.nil, Sl.nil, Sl.nil⟩ : CReplica), Sl.nil⟩ : CRan), ?_, ?_, hS.outS (y := (⟨(⟨⟨0, Sl.nil⟩, emp, 0, Sl.nil, Sl.nil, Sl.nil⟩ : CReplica), Sl.nil⟩ : CRan)) ⟨(by show emp.size ≤ _; rw [emp_size]; omega), Sl.rd_nil _ _, Sl.rd_nil _ _, Sl.rd_nil _ _, Sl.rd_nil _ _, Sl.rd_nil _ _⟩⟩
   · rw [hm] <;> rfl
   · rw [hm] <;> rfl
 simp only [inB, Bool.and_eq_true, Bool.and_eq_false_iff, decide_eq_true_eq, decide_eq_false_iff_not] at h2
 refine Mdn (mReplica x.abs = 0) (T := fun h3 => ?_) (F := fun h3 => ?_)
 rotate_left
 · exact absurd h1 h3
 obtain ⟨hp1, hp2, hp3, hp4, hp5⟩ := mReplica_parts h3
 obtain ⟨hb1, hb2, hb3, hb4⟩ := mLog_bd hp1
 have hb6 : x.abs.log.entries = x.log.entries.xs := rfl
 rw [qB] at hb1 hb2 hp3
 rw [qI] at hp3 hp4
 rw [qM] at hp4
 rw [hb6] at hb3
 refine Mu (σ := CReplica) (v := fun y1 => .agg #[.int .i64 y1.log.base, .slice y1.log.entries.A y1.log.entries.n y1.log.entries.c, .string y1.snap, .int .i64 y1.state.index, .slice y1.state.locks.A y1.state.locks.n y1.state.locks.c, .slice y1.state.pairs.A y1.state.pairs.n y1.state.pairs.c, .slice y1.state.sessions.A y1.state.sessions.n y1.state.sessions.c]) (F := fun y1 => y1.abs = x.abs) Tryz.call10 (fun bs w hS => ref_ReplicaCopy x w (Rds.kp hx hS.kp) (small_repl (by assumption))) (J := ?_)
 rintro fp1 y1 hF1 hok1
 refine Mi (pR (x.state.index + 1)) (J := ?_)
 have e1 : y1.log.base = x.log.base := congrArg (fun r : DReplica => r.log.base) hF1
 have e2 : y1.state.index = x.state.index := congrArg (fun r : DReplica => r.state.index) hF1
 have e3 : y1.log.entries.xs = x.log.entries.xs := congrArg (fun r : DReplica => r.log.entries) hF1
 have e4 : y1.log.entries.n = x.log.entries.n := congrArg List.length e3
 obtain ⟨N, hN⟩ : ∃ N, ((if u < (y1.log.base + (y1.log.entries.n : Int)) then u else (y1.log.base + (y1.log.entries.n : Int))) - y1.state.index).toNat = N := ⟨_, rfl⟩
 obtain ⟨k0, hk0⟩ : ∃ k, (y1.state.index - y1.log.base).toNat = k := ⟨_, rfl⟩
 refine m_nores (stR (none : Option (List Nat × CState))) rfl (fun w => trivial) ?_
 refine m_rowA (α := DMail) 93 ?_
 refine Ml (σ := Nat × Option Addr × Nat × List DMail × Option (List Nat × CState)) (fun ⟨k, A0, c0, L0, o⟩ => k ≤ N ∧ RunI y1.log.entries.xs N k0 y1.state.abs k (stk y1.state o).abs L0 ∧ Rds.ok (stk y1.state o)) (fun ⟨k, A0, c0, L0, o⟩ => N - k) (fun ⟨k, A0, c0, L0, o⟩ => [rowA 93 A0 c0 (L0 : List DMail), stR o, subR fp1 y1]) [10, 9, 8, 4, 2, 1] (fun ⟨k, A0, c0, L0, o⟩ => [(10, vI (x.state.index + 1 + (k : Int))), (9, .v (.slice A0 L0.length c0))]) (fun ⟨k, A0, c0, L0, o⟩ => [(2, [vI y1.log.base, .v (.slice y1.log.entries.A y1.log.entries.n y1.log.entries.c), vS y1.snap, vI (stk y1.state o).index, .v (.slice (stk y1.state o).locks.A (stk y1.state o).locks.n (stk y1.state o).locks.c), .v (.slice (stk y1.state o).pairs.A (stk y1.state o).pairs.n (stk y1.state o).pairs.c), .v (.slice (stk y1.state o).sessions.A (stk y1.state o).sessions.n (stk y1.state o).sessions.c)])]) (⟨0, none, 0, [], none⟩) ⟨Nat.zero_le _, runI_0 _ _ _ _, (show Rds.ok y1.state from hok1.2.2)⟩ (hp := (by try simp only [Int.add_zero, Int.natCast_zero]; kernel_rfl)) (B := ?_)
 rintro ⟨k, A0, c0, L0, o⟩ ⟨hk, hI, hokz⟩ _ on1
 have hI2 : (stk y1.state o).index = y1.state.index + (k : Int) := hI.2.1
 have hI3 := hI.2.2.1
 refine Md (x.state.index + 1 + (k : Int) ≤ u) (T := fun h4 => ?_) (F := fun h4 => ?_)
 rotate_left
 · refine Mt [.agg #[.int .i64 y1.log.base, .slice y1.log.entries.A y1.log.entries.n y1.log.entries.c, .string y1.snap, .int .i64 (stk y1.state o).index, .slice (stk y1.state o).locks.A (stk y1.state o).locks.n (stk y1.state o).locks.c, .slice (stk y1.state o).pairs.A (stk y1.state o).pairs.n (stk y1.state o).pairs.c, .slice (stk y1.state o).sessions.A (stk y1.state o).sessions.n (stk y1.state o).sessions.c], .slice A0 L0.length c0, .int .i64 0] fun bs w hS => ?_
   have hr1 : mReplica y1.abs = 0 := by rw [hF1]; exact h3
   have hm := rapp_ok (r := y1.abs) (u := u) hr1 (by (try simp only [inB, Bool.and_eq_true, decide_eq_true_eq] at h2); omega) rfl rfl hN hk0 (runI_end hI (by omega))
   rw [hF1] at hm
   have hp1 := (show Rds.sub (· ∈ (allR [rowA 93 A0 c0 (L0 : List DMail), stR o, subR fp1 y1]).fp) w y1 from allR_sub (y := y1) (.tail _ (.tail _ (.head _))) (hS.res _ (.tail _ (.tail _ (.head _)))))
   have hp2 := stk_out (z := y1.state) hp1.2.2 (.tail _ (.head _)) hS.res
   refine ⟨(⟨⟨y1.log, y1.snap, (stk y1.state o)⟩, ⟨A0, c0, L0⟩⟩ : CRan), ?_, ?_, hS.outS (y := (⟨⟨y1.log, y1.snap, (stk y1.state o)⟩, ⟨A0, c0, L0⟩⟩ : CRan)) ⟨hp1.1, hp1.2.1, hp2.1, hp2.2.1, hp2.2.2, (allR_row (.head _) (hS.res _ (.head _)) (fun z hz => hI.2.2.2 z hz))⟩⟩
   · rw [hm]; rfl
   · rw [hm]; show (⟨⟨y1.log.abs, y1.snap, (stk y1.state o).abs⟩, _⟩ : DRan) = _; rw [← hF1]; rfl
 refine Mp Tryz.call52 (fun bs w hS => ref_LastOf x.log w (And.left (And.right (Rds.kp hx hS.kp))) (by first | exact ⟨by omega, by omega, by omega⟩ | omega)) (J := ?_)
 refine Md (x.state.index + 1 + (k : Int) ≤ x.log.base + (x.log.entries.n : Int)) (T := fun h5 => ?_) (F := fun h5 => ?_)
 rotate_left
 · refine Mt [.agg #[.int .i64 y1.log.base, .slice y1.log.entries.A y1.log.entries.n y1.log.entries.c, .string y1.snap, .int .i64 (stk y1.state o).index, .slice (stk y1.state o).locks.A (stk y1.state o).locks.n (stk y1.state o).locks.c, .slice (stk y1.state o).pairs.A (stk y1.state o).pairs.n (stk y1.state o).pairs.c, .slice (stk y1.state o).sessions.A (stk y1.state o).sessions.n (stk y1.state o).sessions.c], .slice A0 L0.length c0, .int .i64 0] fun bs w hS => ?_
   have hr1 : mReplica y1.abs = 0 := by rw [hF1]; exact h3
   have hm := rapp_ok (r := y1.abs) (u := u) hr1 (by (try simp only [inB, Bool.and_eq_true, decide_eq_true_eq] at h2); omega) rfl rfl hN hk0 (runI_end hI (by omega))
   rw [hF1] at hm
   have hp1 := (show Rds.sub (· ∈ (allR [rowA 93 A0 c0 (L0 : List DMail), stR o, subR fp1 y1]).fp) w y1 from allR_sub (y := y1) (.tail _ (.tail _ (.head _))) (hS.res _ (.tail _ (.tail _ (.head _)))))
   have hp2 := stk_out (z := y1.state) hp1.2.2 (.tail _ (.head _)) hS.res
   refine ⟨(⟨⟨y1.log, y1.snap, (stk y1.state o)⟩, ⟨A0, c0, L0⟩⟩ : CRan), ?_, ?_, hS.outS (y := (⟨⟨y1.log, y1.snap, (stk y1.state o)⟩, ⟨A0, c0, L0⟩⟩ : CRan)) ⟨hp1.1, hp1.2.1, hp2.1, hp2.2.1, hp2.2.2, (allR_row (.head _) (hS.res _ (.head _)) (fun z hz => hI.2.2.2 z hz))⟩⟩
   · rw [hm]; rfl
   · rw [hm]; show (⟨⟨y1.log.abs, y1.snap, (stk y1.state o).abs⟩, _⟩ : DRan) = _; rw [← hF1]; rfl
 refine Mi (pc (pR ((x.state.index + 1 + (k : Int)) - x.log.base)) (pc (pR (((x.state.index + 1 + (k : Int)) - x.log.base) - 1)) (pA 57 58 (((x.state.index + 1 + (k : Int)) - x.log.base) - 1) (((x.state.index + 1 + (k : Int)) - x.log.base) - 1).toNat (s := x.log.entries) (fun w hk hr => (And.left (And.right (Rds.kp hx hk))))))) (J := ?_)
 refine Mu (σ := CState) (v := fun y2 => .tuple #[.agg #[.int .i64 y2.index, .slice y2.locks.A y2.locks.n y2.locks.c, .slice y2.pairs.A y2.pairs.n y2.pairs.c, .slice y2.sessions.A y2.sessions.n y2.sessions.c], .agg #[.int .i64 ((mApply (stk y1.state o).abs (x.log.entries.at (((x.state.index + 1 + (k : Int)) - x.log.base) - 1).toNat)).2.1).code, .int .i64 ((mApply (stk y1.state o).abs (x.log.entries.at (((x.state.index + 1 + (k : Int)) - x.log.base) - 1).toNat)).2.1).n, .string ((mApply (stk y1.state o).abs (x.log.entries.at (((x.state.index + 1 + (k : Int)) - x.log.base) - 1).toNat)).2.1).text], .int .i64 (mApply (stk y1.state o).abs (x.log.entries.at (((x.state.index + 1 + (k : Int)) - x.log.base) - 1).toNat)).2.2]) (F := fun y2 => y2.abs = (mApply (stk y1.state o).abs (x.log.entries.at (((x.state.index + 1 + (k : Int)) - x.log.base) - 1).toNat)).1) Tryz.call8 (fun bs w hS => ref_AppliedOf (stk y1.state o) (x.log.entries.at (((x.state.index + 1 + (k : Int)) - x.log.base) - 1).toNat) w (stk_rd (And.right (And.right (hS.res _ (.tail _ (.tail _ (.head _)))))) (hS.res _ (.tail _ (.head _)))) (Sl.ok.at (s := x.log.entries) (i := (((x.state.index + 1 + (k : Int)) - x.log.base) - 1).toNat) (And.left (And.right okx)) (by omega))) (J := ?_)
 rintro fp2 y2 hF2 hok2
 refine Mdn ((mApply (stk y1.state o).abs (x.log.entries.at (((x.state.index + 1 + (k : Int)) - x.log.base) - 1).toNat)).2.2 = 0) (T := fun h6 => ?_) (F := fun h6 => ?_)
 rotate_left
 · refine Mt [.agg #[.int .i64 0, .slice none 0 0, .string emp, .int .i64 0, .slice none 0 0, .slice none 0 0, .slice none 0 0], .slice none 0 0, .int .i64 (mApply (stk y1.state o).abs (x.log.entries.at (((x.state.index + 1 + (k : Int)) - x.log.base) - 1).toNat)).2.2] fun bs w hS => ?_
   have hr1 : mReplica y1.abs = 0 := by rw [hF1]; exact h3
   have hj : k0 + k = (x.state.index + 1 + (k : Int) - x.log.base - 1).toNat := by omega
   have hm := rapp_err (r := y1.abs) (u := u) hr1 (by (try simp only [inB, Bool.and_eq_true, decide_eq_true_eq] at h2); omega) rfl rfl hN hk0 (runI_bad hI (by omega) (show y1.log.entries.xs.getD (k0 + k) default = x.log.entries.at (x.state.index + 1 + (k : Int) - x.log.base - 1).toNat by rw [hj, e3]; rfl) h6) h6
   rw [hF1] at hm
   refine ⟨(⟨(⟨⟨0, Sl.nil⟩, emp, 0, Sl.nil, Sl.nil, Sl.nil⟩ : CReplica), Sl.nil⟩ : CRan), ?_, ?_, hS.outS (y := (⟨(⟨⟨0, Sl.nil⟩, emp, 0, Sl.nil, Sl.nil, Sl.nil⟩ : CReplica), Sl.nil⟩ : CRan)) ⟨(by show emp.size ≤ _; rw [emp_size]; omega), Sl.rd_nil _ _, Sl.rd_nil _ _, Sl.rd_nil _ _, Sl.rd_nil _ _, Sl.rd_nil _ _⟩⟩
   · rw [hm] <;> rfl
   · rw [hm] <;> rfl
 refine Mp Tryz.call31 (fun bs w hS => ref_CommandOf (x.log.entries.at (((x.state.index + 1 + (k : Int)) - x.log.base) - 1).toNat) w (Sl.ok.at (s := x.log.entries) (i := (((x.state.index + 1 + (k : Int)) - x.log.base) - 1).toNat) (And.left (And.right okx)) (by omega))) (J := ?_)
 refine M1 (J := ?_)
 refine m_f1 ?_
 refine Mal (α := DMail) 48 ([(⟨(mDecode (x.log.entries.at (((x.state.index + 1 + (k : Int)) - x.log.base) - 1).toNat)).1.client, (mDecode (x.log.entries.at (((x.state.index + 1 + (k : Int)) - x.log.base) - 1).toNat)).1.seq, ⟨((mApply (stk y1.state o).abs (x.log.entries.at (((x.state.index + 1 + (k : Int)) - x.log.base) - 1).toNat)).2.1).code, ((mApply (stk y1.state o).abs (x.log.entries.at (((x.state.index + 1 + (k : Int)) - x.log.base) - 1).toNat)).2.1).n, ((mApply (stk y1.state o).abs (x.log.entries.at (((x.state.index + 1 + (k : Int)) - x.log.base) - 1).toNat)).2.1).text⟩⟩ : DMail)]) (h63 := (by first | omega | (simp only [List.length_append, List.length_nil, List.length_cons]; omega))) (hb := (by first | omega | (simp only [List.length_append, List.length_nil, List.length_cons]; omega))) (J := ?_)
 intro A3 c3
 refine Mi (pR ((x.state.index + 1 + (k : Int)) + 1)) (J := ?_)
 refine m_f2 ?_
 refine m_weak noR (List.nil_sublist _) (fun _ _ => trivial) ?_
 refine m_f2 ?_
 refine m_join (stR (some (fp2, y2))) (by show List.Perm fp2 (fp2 ++ []); rw [List.append_nil]) (fun w h1 h2 => h1) ?_
 refine m_f2 (m_f1 (m_f2 ?_))
 have hj : k0 + k = (x.state.index + 1 + (k : Int) - x.log.base - 1).toNat := by omega
 have hI9 := runI_next hI (by omega) (show y1.log.entries.xs.getD (k0 + k) default = x.log.entries.at (x.state.index + 1 + (k : Int) - x.log.base - 1).toNat by rw [hj]; rw [e3]; rfl) h6 (texts_ok hokz) hF2
 have hok9 := hok2
 exact on1 (⟨k + 1, A3, c3, L0 ++ [(⟨(mDecode (x.log.entries.at (((x.state.index + 1 + (k : Int)) - x.log.base) - 1).toNat)).1.client, (mDecode (x.log.entries.at (((x.state.index + 1 + (k : Int)) - x.log.base) - 1).toNat)).1.seq, ⟨((mApply (stk y1.state o).abs (x.log.entries.at (((x.state.index + 1 + (k : Int)) - x.log.base) - 1).toNat)).2.1).code, ((mApply (stk y1.state o).abs (x.log.entries.at (((x.state.index + 1 + (k : Int)) - x.log.base) - 1).toNat)).2.1).n, ((mApply (stk y1.state o).abs (x.log.entries.at (((x.state.index + 1 + (k : Int)) - x.log.base) - 1).toNat)).2.1).text⟩⟩ : DMail)], some (fp2, y2)⟩ : Nat × Option Addr × Nat × List DMail × Option (List Nat × CState)) ⟨by omega, hI9, hok9⟩ (by show N - (k + 1) < N - k; omega) (hp := (by (try dsimp only); rw [show x.state.index + 1 + ((k + 1 : Nat) : Int) = x.state.index + 1 + (k : Int) + 1 by omega]; kernel_rfl))

theorem same_mails {B B' : Nat → Prop} (a b : Sl DMail) (w : World) (ha : a.rd B w) (hb : b.rd B' w) (he : a.xs = b.xs) : Calls Tryz.prog 14 #[.slice a.A a.n a.c, .slice b.A b.n b.c] w fun e w' => e = .returned (.bool true) ∧ Kp [] w w' := by
 have oka := Sl.rd.ok ha
 have okb := Sl.rd.ok hb
 have hn := xs_n he
 have nca := Sl.ok.nc oka
 refine M0 Tryz.func14 (J := ?_)
 refine Mdn ((a.n : Int) = (b.n : Int)) (T := fun h1 => ?_) (F := fun h1 => ?_)
 rotate_left
 · exfalso; first | omega | exact h1 (xs_at he i)
 refine Ml (σ := Nat) (fun i => True) (fun i => a.n - i) (fun _ => []) [5, 0, 1] (fun i => [(5, vI (i : Int))]) (fun _ => []) 0 trivial (B := ?_)
 rintro i _ _ on1
 have hat := xs_at he i
 refine Md ((i : Int) < (a.n : Int)) (T := fun h2 => ?_) (F := fun h2 => ?_)
 rotate_left
 · exact Mt [.bool true] fun bs w hS => ⟨rfl, hS.kp⟩
 refine Mda 9 [] [] [] Tryz_mixed (J := ?_)
 refine Mih (pc (pA 19 20 (i : Int) i (rdk ha)) (pc (pA 23 24 (i : Int) i (rdk hb)) (pG [(25, .val (.bool (!((decide ((a.at i).client = (b.at i).client)) && ((decide ((a.at i).seq = (b.at i).seq)) && (((decide ((a.at i).reply.code = (b.at i).reply.code)) && ((decide ((a.at i).reply.n = (b.at i).reply.n)) && ((decide ((a.at i).reply.text = (b.at i).reply.text)) && true))) && true))))))] (oc ((neq_agg (by kernel_rfl) (by kernel_rfl)) : ∀ w, (do eqGuard .neq 93 (.tmp 20) (.tmp 24) (.agg #[.int .i64 (a.at i).client, .int .i64 (a.at i).seq, .int .i64 (a.at i).reply.code, .int .i64 (a.at i).reply.n, .string (a.at i).reply.text]) (.agg #[.int .i64 (b.at i).client, .int .i64 (b.at i).seq, .int .i64 (b.at i).reply.code, .int .i64 (b.at i).reply.n, .string (b.at i).reply.text]); binOp .neq 93 (.agg #[.int .i64 (a.at i).client, .int .i64 (a.at i).seq, .int .i64 (a.at i).reply.code, .int .i64 (a.at i).reply.n, .string (a.at i).reply.text]) (.agg #[.int .i64 (b.at i).client, .int .i64 (b.at i).seq, .int .i64 (b.at i).reply.code, .int .i64 (b.at i).reply.n, .string (b.at i).reply.text]) : Sem Value).run Tryz.prog w = .ok (.bool (!((decide ((a.at i).client = (b.at i).client)) && ((decide ((a.at i).seq = (b.at i).seq)) && (((decide ((a.at i).reply.code = (b.at i).reply.code)) && ((decide ((a.at i).reply.n = (b.at i).reply.n)) && ((decide ((a.at i).reply.text = (b.at i).reply.text)) && true))) && true))))) w) on)))) (J := ?_)
 refine Mbn ((decide ((a.at i).client = (b.at i).client)) && ((decide ((a.at i).seq = (b.at i).seq)) && (((decide ((a.at i).reply.code = (b.at i).reply.code)) && ((decide ((a.at i).reply.n = (b.at i).reply.n)) && ((decide ((a.at i).reply.text = (b.at i).reply.text)) && true))) && true))) (T := fun h3 => ?_) (F := fun h3 => ?_)
 rotate_left
 · exfalso; simp [xs_at he i] at h3
 refine Mi (pR ((i : Int) + 1)) (J := ?_)
 exact on1 (i + 1) trivial (by omega)

theorem law_ReplicaApplies {B : Nat → Prop} (x : CReplica) (u : Int) (w : World) (hx : Rds.sub B w x) (hsm : Rds.small x) : Calls Tryz.prog 4 #[.agg #[.int .i64 x.log.base, .slice x.log.entries.A x.log.entries.n x.log.entries.c, .string x.snap, .int .i64 x.state.index, .slice x.state.locks.A x.state.locks.n x.state.locks.c, .slice x.state.pairs.A x.state.pairs.n x.state.pairs.c, .slice x.state.sessions.A x.state.sessions.n x.state.sessions.c], .int .i64 u] w fun e w' => e = .returned (.bool true) ∧ Kp [] w w' := by
 have okx := Rds.okof hx
 refine M0 Tryz.func4 (J := ?_)
 refine Mu Tryz.call10 (fun bs w hS => ref_ReplicaCopy x w (Rds.kp hx hS.kp) hsm) (J := ?_)
 rintro fp1 y1 hF1 hok1
 refine Mu Tryz.call11 (fun bs w hS => replica_Apply y1 u w (hS.res _ (.head _))) (J := ?_)
 rintro fp2 y2 hF2 hok2
 refine Mu Tryz.call12 (fun bs w hS => ref_RanOf x u w (Rds.kp hx hS.kp)) (J := ?_)
 rintro fp3 y3 hF3 hok3
 refine Md ((mRApply y1.abs u).2.2 = (mRApply x.abs u).2.2) (T := fun h1 => ?_) (F := fun h1 => ?_)
 rotate_left
 · exfalso; first | (simp at h1; done) | (rw [hF1] at h1; simp at h1; done)
 refine Mp Tryz.call13 (fun bs w hS => same_replica y2.repl y3.repl w ⟨(And.left hok2), (And.left (And.right (hS.res _ (.tail _ (.head _))))), (And.left (And.right (And.right (hS.res _ (.tail _ (.head _)))))), (And.left (And.right (And.right (And.right (hS.res _ (.tail _ (.head _))))))), (And.left (And.right (And.right (And.right (And.right (hS.res _ (.tail _ (.head _))))))))⟩ ⟨(And.left hok3), (And.left (And.right (hS.res _ (.head _)))), (And.left (And.right (And.right (hS.res _ (.head _))))), (And.left (And.right (And.right (And.right (hS.res _ (.head _)))))), (And.left (And.right (And.right (And.right (And.right (hS.res _ (.head _)))))))⟩ (by have h2 := congrArg DRan.repl hF2; have h3 := congrArg DRan.repl hF3; rw [hF1] at h2; exact h2.trans h3.symm)) (J := ?_)
 refine Mq 36 true rfl (J := ?_)
 refine Mp Tryz.call14 (fun bs w hS => same_mails y2.out y3.out w (And.right (And.right (And.right (And.right (And.right (hS.res _ (.tail _ (.head _)))))))) (And.right (And.right (And.right (And.right (And.right (hS.res _ (.head _))))))) (by have h2 := congrArg DRan.out hF2; have h3 := congrArg DRan.out hF3; rw [hF1] at h2; exact h2.trans h3.symm)) (J := ?_)
 refine Mq 41 true rfl (J := ?_)
 refine Mp Tryz.call13 (fun bs w hS => same_replica y1 x w (hS.res _ (.tail _ (.tail _ (.head _)))) (Rds.kp hx hS.kp) hF1) (J := ?_)
 refine Mt [.bool true] fun bs w hS => ?_
 refine ⟨?_, hS.kp⟩
 simp [retOf, den]

end Go.Proofs.YtbjakddkfgjkaaaGreat.W
