/-
  The functions that the law ReplicaApplies reaches, walked: each returns what its model says.
  Conditions: those that each theorem states.
-/
import Derived.Test.YtbjakddkfgjkaaaGreatWReplicaAppliesb
set_option linter.unusedVariables false
set_option linter.unusedSimpArgs false
set_option maxRecDepth 100000
set_option maxHeartbeats 2000000
namespace Go.Proofs.YtbjakddkfgjkaaaGreat.W
open Go.Proofs.YtbjakddkfgjkaaaGreat.Fw Go.RowKit
attribute [local irreducible] JM nx

theorem snap_session (q : RQ) (b : Nat) (w : World) (hb : (blkR b 238 [vs q.1, vi q.2]).p w) (hz : q.1.size ≤ 9223372036854775807) : Calls Tryz.prog 226 #[.pointer (some (⟨b, 0, none⟩ : Addr))] w fun e w' => ∃ y : CSession, e = .returned y.val ∧ (y.abs = (rSess q).1 ∧ ∀ k, k ∈ y.replies.xs → k.reply.text.size ≤ 9223372036854775807) ∧ TurnedN (blkR b 238 [vs q.1, vi q.2]) w w' (blkR b 238 [vs (rSess q).2.1, vi (rSess q).2.2]) (keptR 141 y) := by
 refine Mj ?_ Tryz.func226 (WS.start1 w _ hb (by simp [blkR]) (blkR_lt hb))
 refine Mtk ?_ Tryz.call222 (fun bs w hS => snap_number q b w (hS.res _ i0) hz)
 rintro y _
 refine Mtk ?_ Tryz.call222 (fun bs w hS => snap_number (rNum q).2 b w (hS.res _ i0) (rNum_bd q _ hz))
 rintro y _
 refine Mtk ?_ Tryz.call222 (fun bs w hS => snap_number (rNum (rNum q).2).2 b w (hS.res _ i0) (rNum_bd (rNum q).2 _ (rNum_bd q _ hz)))
 rintro y _
 refine Mtk ?_ Tryz.call222 (fun bs w hS => snap_number (rNum (rNum (rNum q).2).2).2 b w (hS.res _ i0) (rNum_bd (rNum (rNum q).2).2 _ (rNum_bd (rNum q).2 _ (rNum_bd q _ hz))))
 rintro y _
 refine Mtk ?_ Tryz.call223 (fun bs w hS => snap_count (rNum (rNum (rNum (rNum q).2).2).2).2 4 b w (hS.res _ i0) (rNum_bd (rNum (rNum (rNum q).2).2).2 _ (rNum_bd (rNum (rNum q).2).2 _ (rNum_bd (rNum q).2 _ (rNum_bd q _ hz)))))
 rintro y _
 have hmn6 := rMany_n 4 (by decide) (rNum (rNum (rNum (rNum q).2).2).2).2
 refine m_rowA (α := DKept) 141 ?_
 refine Ml (σ := Nat × Option Addr × Nat) (fun ⟨i0, A0x, c0x⟩ => i0 ≤ (rMany 4 (rNum (rNum (rNum (rNum q).2).2).2).2).1.toNat ∧ ∀ x, x ∈ (rIter rKept i0 (rMany 4 (rNum (rNum (rNum (rNum q).2).2).2).2).2).1 → x.reply.text.size ≤ 9223372036854775807) (fun ⟨i0, A0x, c0x⟩ => (rMany 4 (rNum (rNum (rNum (rNum q).2).2).2).2).1.toNat - i0) (fun ⟨i0, A0x, c0x⟩ => [rowA 141 A0x c0x ((rIter rKept i0 (rMany 4 (rNum (rNum (rNum (rNum q).2).2).2).2).2).1 : List DKept), blkR b 238 [vs (rIter rKept i0 (rMany 4 (rNum (rNum (rNum (rNum q).2).2).2).2).2).2.1, vi (rIter rKept i0 (rMany 4 (rNum (rNum (rNum (rNum q).2).2).2).2).2).2.2]]) [15, 14, 3, 2, 0] (fun ⟨i0, A0x, c0x⟩ => [(15, vI (i0 : Int))]) (fun ⟨i0, A0x, c0x⟩ => [(1, [vI (rNum q).1, vI (rNum (rNum q).2).1, vI (rNum (rNum (rNum q).2).2).1, vI (rNum (rNum (rNum (rNum q).2).2).2).1, .v (.slice A0x ((rIter rKept i0 (rMany 4 (rNum (rNum (rNum (rNum q).2).2).2).2).2).1).length c0x)])]) ?_ (⟨0, none, 0⟩) ⟨(Nat.zero_le _), (fun x hx => by cases hx)⟩
 rintro ⟨i0, A0x, c0x⟩ ⟨h0l, h0s⟩ _ on1
 have h0n : (rIter rKept i0 (rMany 4 (rNum (rNum (rNum (rNum q).2).2).2).2).2).1.length = i0 := by exact rIter_len _ _ _
 refine Md ((i0 : Int) < (rMany 4 (rNum (rNum (rNum (rNum q).2).2).2).2).1) (fun h1 => ?_) fun h1 => ?_
 rotate_left
 · have hx_i0 : i0 = (rMany 4 (rNum (rNum (rNum (rNum q).2).2).2).2).1.toNat := by omega
   subst hx_i0
   refine Mt [.agg #[vi (rNum q).1, vi (rNum (rNum q).2).1, vi (rNum (rNum (rNum q).2).2).1, vi (rNum (rNum (rNum (rNum q).2).2).2).1, .slice A0x ((rIter rKept (rMany 4 (rNum (rNum (rNum (rNum q).2).2).2).2).1.toNat (rMany 4 (rNum (rNum (rNum (rNum q).2).2).2).2).2).1).length c0x]] fun bs w hS => ?_
   have hS2 := hS.f1
   exact ⟨(⟨(rNum q).1, (rNum (rNum q).2).1, (rNum (rNum (rNum q).2).2).1, (rNum (rNum (rNum (rNum q).2).2).2).1, ⟨A0x, c0x, (rIter rKept (rMany 4 (rNum (rNum (rNum (rNum q).2).2).2).2).1.toNat (rMany 4 (rNum (rNum (rNum (rNum q).2).2).2).2).2).1⟩⟩ : CSession), rfl, ⟨rfl, h0s⟩, (hS2.turnedN (fun _ h => h)).as (allR_one _ _) (allR_one_fp _)⟩
 refine Mda 13 [] [] [rowA 141 A0x c0x ((rIter rKept i0 (rMany 4 (rNum (rNum (rNum (rNum q).2).2).2).2).2).1 : List DKept)] Tryz_mixed ?_ (hR := (.cons_cons _ (.cons _ .slnil)))
 refine m_f1 ?_
 refine Mtu ?_ (v := fun _ => vi (rNum (rIter rKept i0 (rMany 4 (rNum (rNum (rNum (rNum q).2).2).2).2).2).2).1) Tryz.call222 (fun bs w hS => (snap_number (rIter rKept i0 (rMany 4 (rNum (rNum (rNum (rNum q).2).2).2).2).2).2 b w (hS.res _ (.head _)) (rIter_bd (B := 9223372036854775807) (fun q h => rKept_bd q _ h) i0 (rMany 4 (rNum (rNum (rNum (rNum q).2).2).2).2).2 (rMany_bd 4 (rNum (rNum (rNum (rNum q).2).2).2).2 _ (rNum_bd (rNum (rNum (rNum q).2).2).2 _ (rNum_bd (rNum (rNum q).2).2 _ (rNum_bd (rNum q).2 _ (rNum_bd q _ hz))))))).mono (fun e w' ⟨y, h1, h2, h3, h4⟩ => ⟨y, h1, h2, h3, h4, (by simp [blkR]), fun x hx => .inl hx⟩))
 rintro y _
 refine Mtu ?_ (v := fun _ => vi (rNum (rNum (rIter rKept i0 (rMany 4 (rNum (rNum (rNum (rNum q).2).2).2).2).2).2).2).1) Tryz.call222 (fun bs w hS => (snap_number (rNum (rIter rKept i0 (rMany 4 (rNum (rNum (rNum (rNum q).2).2).2).2).2).2).2 b w (hS.res _ (.head _)) (rNum_bd (rIter rKept i0 (rMany 4 (rNum (rNum (rNum (rNum q).2).2).2).2).2).2 _ (rIter_bd (B := 9223372036854775807) (fun q h => rKept_bd q _ h) i0 (rMany 4 (rNum (rNum (rNum (rNum q).2).2).2).2).2 (rMany_bd 4 (rNum (rNum (rNum (rNum q).2).2).2).2 _ (rNum_bd (rNum (rNum (rNum q).2).2).2 _ (rNum_bd (rNum (rNum q).2).2 _ (rNum_bd (rNum q).2 _ (rNum_bd q _ hz)))))))).mono (fun e w' ⟨y, h1, h2, h3, h4⟩ => ⟨y, h1, h2, h3, h4, (by simp [blkR]), fun x hx => .inl hx⟩))
 rintro y _
 refine Mtu ?_ (v := fun _ => vi (rNum (rNum (rNum (rIter rKept i0 (rMany 4 (rNum (rNum (rNum (rNum q).2).2).2).2).2).2).2).2).1) Tryz.call222 (fun bs w hS => (snap_number (rNum (rNum (rIter rKept i0 (rMany 4 (rNum (rNum (rNum (rNum q).2).2).2).2).2).2).2).2 b w (hS.res _ (.head _)) (rNum_bd (rNum (rIter rKept i0 (rMany 4 (rNum (rNum (rNum (rNum q).2).2).2).2).2).2).2 _ (rNum_bd (rIter rKept i0 (rMany 4 (rNum (rNum (rNum (rNum q).2).2).2).2).2).2 _ (rIter_bd (B := 9223372036854775807) (fun q h => rKept_bd q _ h) i0 (rMany 4 (rNum (rNum (rNum (rNum q).2).2).2).2).2 (rMany_bd 4 (rNum (rNum (rNum (rNum q).2).2).2).2 _ (rNum_bd (rNum (rNum (rNum q).2).2).2 _ (rNum_bd (rNum (rNum q).2).2 _ (rNum_bd (rNum q).2 _ (rNum_bd q _ hz))))))))).mono (fun e w' ⟨y, h1, h2, h3, h4⟩ => ⟨y, h1, h2, h3, h4, (by simp [blkR]), fun x hx => .inl hx⟩))
 rintro y _
 refine Mtu ?_ (v := fun _ => vs (rTxt (rNum (rNum (rNum (rIter rKept i0 (rMany 4 (rNum (rNum (rNum (rNum q).2).2).2).2).2).2).2).2).2).1) Tryz.call225 (fun bs w hS => (snap_text_ (rNum (rNum (rNum (rIter rKept i0 (rMany 4 (rNum (rNum (rNum (rNum q).2).2).2).2).2).2).2).2).2 b w (hS.res _ (.head _)) (rNum_bd (rNum (rNum (rIter rKept i0 (rMany 4 (rNum (rNum (rNum (rNum q).2).2).2).2).2).2).2).2 _ (rNum_bd (rNum (rIter rKept i0 (rMany 4 (rNum (rNum (rNum (rNum q).2).2).2).2).2).2).2 _ (rNum_bd (rIter rKept i0 (rMany 4 (rNum (rNum (rNum (rNum q).2).2).2).2).2).2 _ (rIter_bd (B := 9223372036854775807) (fun q h => rKept_bd q _ h) i0 (rMany 4 (rNum (rNum (rNum (rNum q).2).2).2).2).2 (rMany_bd 4 (rNum (rNum (rNum (rNum q).2).2).2).2 _ (rNum_bd (rNum (rNum (rNum q).2).2).2 _ (rNum_bd (rNum (rNum q).2).2 _ (rNum_bd (rNum q).2 _ (rNum_bd q _ hz)))))))))).mono (fun e w' ⟨y, h1, h2, h3, h4⟩ => ⟨y, h1, h2, h3, h4, (by simp [blkR]), fun x hx => .inl hx⟩))
 rintro y _
 refine M1 ?_ (hR := (.cons _ (List.Sublist.refl _)))
 refine Mz ?_
 refine m_f1 ?_
 refine Mal (α := DKept) 40 ([(⟨(rNum (rIter rKept i0 (rMany 4 (rNum (rNum (rNum (rNum q).2).2).2).2).2).2).1, ⟨(rNum (rNum (rIter rKept i0 (rMany 4 (rNum (rNum (rNum (rNum q).2).2).2).2).2).2).2).1, (rNum (rNum (rNum (rIter rKept i0 (rMany 4 (rNum (rNum (rNum (rNum q).2).2).2).2).2).2).2).2).1, (rTxt (rNum (rNum (rNum (rIter rKept i0 (rMany 4 (rNum (rNum (rNum (rNum q).2).2).2).2).2).2).2).2).2).1⟩⟩ : DKept)]) ?_
 intro A11 c11
 refine Mi ?_ (pR ((i0 : Int) + 1))
 refine m_f1 (m_f1 ?_)
 exact on1 ⟨i0 + 1, A11, c11⟩ ⟨(by show i0 + 1 ≤ (rMany 4 (rNum (rNum (rNum (rNum q).2).2).2).2).1.toNat; omega), (fun x hx => by rcases List.mem_append.1 hx with hx | hx; exact h0s x hx; rw [List.mem_singleton] at hx; subst hx; exact (rTxt_bd (rNum (rNum (rNum (rIter rKept i0 (rMany 4 (rNum (rNum (rNum (rNum q).2).2).2).2).2).2).2).2).2 _ (rNum_bd (rNum (rNum (rIter rKept i0 (rMany 4 (rNum (rNum (rNum (rNum q).2).2).2).2).2).2).2).2 _ (rNum_bd (rNum (rIter rKept i0 (rMany 4 (rNum (rNum (rNum (rNum q).2).2).2).2).2).2).2 _ (rNum_bd (rIter rKept i0 (rMany 4 (rNum (rNum (rNum (rNum q).2).2).2).2).2).2 _ (rIter_bd (B := 9223372036854775807) (fun q h => rKept_bd q _ h) i0 (rMany 4 (rNum (rNum (rNum (rNum q).2).2).2).2).2 (rMany_bd 4 (rNum (rNum (rNum (rNum q).2).2).2).2 _ (rNum_bd (rNum (rNum (rNum q).2).2).2 _ (rNum_bd (rNum (rNum q).2).2 _ (rNum_bd (rNum q).2 _ (rNum_bd q _ hz)))))))))).2)⟩ (by show (rMany 4 (rNum (rNum (rNum (rNum q).2).2).2).2).1.toNat - (i0 + 1) < (rMany 4 (rNum (rNum (rNum (rNum q).2).2).2).2).1.toNat - i0; omega)

theorem snap_state (q : RQ) (b : Nat) (w : World) (hb : (blkR b 238 [vs q.1, vi q.2]).p w) (hz : q.1.size ≤ 9223372036854775807) : Calls Tryz.prog 199 #[.pointer (some (⟨b, 0, none⟩ : Addr))] w fun e w' => ∃ y : List Nat × CState, e = .returned y.2.val ∧ (y.2.abs = (rState q).1 ∧ (∀ x, x ∈ y.2.locks.xs → x.name.size ≤ 9223372036854775807) ∧ (∀ x, x ∈ y.2.pairs.xs → x.name.size ≤ 9223372036854775807 ∧ x.value.size ≤ 9223372036854775807) ∧ ∀ x, x ∈ y.2.sessions.xs → ∀ k, k ∈ x.replies.xs → k.reply.text.size ≤ 9223372036854775807) ∧ TurnedN (blkR b 238 [vs q.1, vi q.2]) w w' (blkR b 238 [vs (rState q).2.1, vi (rState q).2.2]) (subR y.1 y.2) := by
 refine Mj ?_ Tryz.func199 (WS.start1 w _ hb (by simp [blkR]) (blkR_lt hb))
 refine Mtk ?_ Tryz.call222 (fun bs w hS => snap_number q b w (hS.res _ i0) hz)
 rintro y _
 refine Mtk ?_ Tryz.call223 (fun bs w hS => snap_count (rNum q).2 5 b w (hS.res _ i0) (rNum_bd q _ hz))
 rintro y _
 have hmn3 := rMany_n 5 (by decide) (rNum q).2
 refine m_rowA (α := CLock) 115 ?_
 refine m_nores (ownL (lineR 3) []) rfl (fun w x hx => by cases hx) ?_
 refine Ml (σ := Nat × Option Addr × Nat × List CLock) (fun ⟨i0, A0x, c0x, M0⟩ => i0 ≤ (rMany 5 (rNum q).2).1.toNat ∧ M0.map CLock.abs = (rIter rLock i0 (rMany 5 (rNum q).2).2).1 ∧ ∀ x, x ∈ M0 → x.name.size ≤ 9223372036854775807) (fun ⟨i0, A0x, c0x, M0⟩ => (rMany 5 (rNum q).2).1.toNat - i0) (fun ⟨i0, A0x, c0x, M0⟩ => [ownL (lineR 3) M0, rowA 115 A0x c0x (M0 : List CLock), blkR b 238 [vs (rIter rLock i0 (rMany 5 (rNum q).2).2).2.1, vi (rIter rLock i0 (rMany 5 (rNum q).2).2).2.2]]) [9, 8, 3, 2, 0] (fun ⟨i0, A0x, c0x, M0⟩ => [(9, vI (i0 : Int))]) (fun ⟨i0, A0x, c0x, M0⟩ => [(1, [vI (rNum q).1, .v (.slice A0x M0.length c0x), .v vn, .v vn])]) ?_ (⟨0, none, 0, []⟩) ⟨(Nat.zero_le _), rfl, (fun x hx => by cases hx)⟩
 rintro ⟨i0, A0x, c0x, M0⟩ ⟨h0l, h0m, h0s⟩ _ on1
 have h0n : M0.length = i0 := by have h9 := congrArg List.length h0m; rw [List.length_map, rIter_len] at h9; exact h9
 refine Md ((i0 : Int) < (rMany 5 (rNum q).2).1) (fun h1 => ?_) fun h1 => ?_
 · refine Mda 5 [] [] [ownL (lineR 3) M0, rowA 115 A0x c0x (M0 : List CLock)] Tryz_mixed ?_ (hR := (.cons_cons _ (.cons_cons _ (.cons _ .slnil))))
   refine m_f2 ?_
   refine Mtn ?_ Tryz.call224 (fun bs w hS => snap_lock (rIter rLock i0 (rMany 5 (rNum q).2).2).2 b w (hS.res _ (.head _)) (rIter_bd (B := 9223372036854775807) (fun q h => rLock_bd q _ h) i0 (rMany 5 (rNum q).2).2 (rMany_bd 5 (rNum q).2 _ (rNum_bd q _ hz)))) (hR := fun _ => (.cons _ (.cons _ (List.Sublist.refl _))))
   rintro y4 hF4
   refine M1 ?_ (hR := (.cons _ (.cons _ (List.Sublist.refl _))))
   refine Mz ?_
   refine m_f3 ?_
   refine Mal (α := CLock) 56 ([(⟨y4.name, y4.holder, y4.fence, y4.line⟩ : CLock)]) ?_
   intro A5 c5
   refine Mi ?_ (pR ((i0 : Int) + 1))
   refine m_f3 ?_
   refine m_f2 ?_
   refine m_join (ownL (lineR 3) (M0 ++ [(⟨y4.name, y4.holder, y4.fence, y4.line⟩ : CLock)])) (ownL_app_fp (lineR 3) M0 (⟨y4.name, y4.holder, y4.fence, y4.line⟩ : CLock)) (fun w => ownL_app_p (lineR 3) M0 (⟨y4.name, y4.holder, y4.fence, y4.line⟩ : CLock) w) ?_
   refine m_f2 (m_f2 (m_f2 ?_))
   exact on1 ⟨i0 + 1, A5, c5, M0 ++ [(⟨y4.name, y4.holder, y4.fence, y4.line⟩ : CLock)]⟩ ⟨(by show i0 + 1 ≤ (rMany 5 (rNum q).2).1.toNat; omega), (by rw [List.map_append, h0m]; exact congrArg (fun z => (rIter rLock i0 (rMany 5 (rNum q).2).2).1 ++ [z]) (show CLock.abs (⟨y4.name, y4.holder, y4.fence, y4.line⟩ : CLock) = (rLock (rIter rLock i0 (rMany 5 (rNum q).2).2).2).1 from hF4.1)), (fun x hx => by rcases List.mem_append.1 hx with hx | hx; exact h0s x hx; rw [List.mem_singleton] at hx; subst hx; exact hF4.2)⟩ (by show (rMany 5 (rNum q).2).1.toNat - (i0 + 1) < (rMany 5 (rNum q).2).1.toNat - i0; omega)
 have hx_i0 : i0 = (rMany 5 (rNum q).2).1.toNat := by omega
 subst hx_i0
 have hzQ0 := (rIter_bd (B := 9223372036854775807) (fun q h => rLock_bd q _ h) (rMany 5 (rNum q).2).1.toNat (rMany 5 (rNum q).2).2 (rMany_bd 5 (rNum q).2 _ (rNum_bd q _ hz)))
 try dsimp only
 generalize hQ0 : (rIter rLock (rMany 5 (rNum q).2).1.toNat (rMany 5 (rNum q).2).2) = Q0 at *
 refine m_f2 ?_
 refine Mtk ?_ Tryz.call223 (fun bs w hS => snap_count Q0.2 5 b w (hS.res _ i0) hzQ0)
 rintro y _
 have hmn7 := rMany_n 5 (by decide) Q0.2
 refine m_rowA (α := DPair) 128 ?_
 refine Ml (σ := Nat × Option Addr × Nat) (fun ⟨i1, A1x, c1x⟩ => i1 ≤ (rMany 5 Q0.2).1.toNat ∧ ∀ x, x ∈ (rIter rPair i1 (rMany 5 Q0.2).2).1 → x.name.size ≤ 9223372036854775807 ∧ x.value.size ≤ 9223372036854775807) (fun ⟨i1, A1x, c1x⟩ => (rMany 5 Q0.2).1.toNat - i1) (fun ⟨i1, A1x, c1x⟩ => [rowA 128 A1x c1x ((rIter rPair i1 (rMany 5 Q0.2).2).1 : List DPair), blkR b 238 [vs (rIter rPair i1 (rMany 5 Q0.2).2).2.1, vi (rIter rPair i1 (rMany 5 Q0.2).2).2.2], ownL (lineR 3) M0, rowA 115 A0x c0x (M0 : List CLock)]) [21, 20, 3, 2, 0] (fun ⟨i1, A1x, c1x⟩ => [(21, vI (i1 : Int))]) (fun ⟨i1, A1x, c1x⟩ => [(1, [vI (rNum q).1, .v (.slice A0x M0.length c0x), .v (.slice A1x ((rIter rPair i1 (rMany 5 Q0.2).2).1).length c1x), .v vn])]) ?_ (⟨0, none, 0⟩) ⟨(Nat.zero_le _), (fun x hx => by cases hx)⟩
 rintro ⟨i1, A1x, c1x⟩ ⟨h1l, h1s⟩ _ on2
 have h1n : (rIter rPair i1 (rMany 5 Q0.2).2).1.length = i1 := by exact rIter_len _ _ _
 refine Md ((i1 : Int) < (rMany 5 Q0.2).1) (fun h2 => ?_) fun h2 => ?_
 · refine Mda 10 [] [] [rowA 128 A1x c1x ((rIter rPair i1 (rMany 5 Q0.2).2).1 : List DPair), ownL (lineR 3) M0, rowA 115 A0x c0x (M0 : List CLock)] Tryz_mixed ?_ (hR := (.cons_cons _ (.cons _ (List.Sublist.refl _))))
   refine m_f1 ?_
   refine Mtk ?_ Tryz.call225 (fun bs w hS => snap_text_ (rIter rPair i1 (rMany 5 Q0.2).2).2 b w (hS.res _ i0) (rIter_bd (B := 9223372036854775807) (fun q h => rPair_bd q _ h) i1 (rMany 5 Q0.2).2 (rMany_bd 5 Q0.2 _ hzQ0)))
   rintro y _
   refine Mtk ?_ Tryz.call225 (fun bs w hS => snap_text_ (rTxt (rIter rPair i1 (rMany 5 Q0.2).2).2).2 b w (hS.res _ i0) (rTxt_bd (rIter rPair i1 (rMany 5 Q0.2).2).2 _ (rIter_bd (B := 9223372036854775807) (fun q h => rPair_bd q _ h) i1 (rMany 5 Q0.2).2 (rMany_bd 5 Q0.2 _ hzQ0))).1)
   rintro y _
   refine Mtk ?_ Tryz.call222 (fun bs w hS => snap_number (rTxt (rTxt (rIter rPair i1 (rMany 5 Q0.2).2).2).2).2 b w (hS.res _ i0) (rTxt_bd (rTxt (rIter rPair i1 (rMany 5 Q0.2).2).2).2 _ (rTxt_bd (rIter rPair i1 (rMany 5 Q0.2).2).2 _ (rIter_bd (B := 9223372036854775807) (fun q h => rPair_bd q _ h) i1 (rMany 5 Q0.2).2 (rMany_bd 5 Q0.2 _ hzQ0))).1).1)
   rintro y _
   refine M1 ?_ (hR := (.cons _ (List.Sublist.refl _)))
   refine Mz ?_
   refine m_f1 ?_
   refine Mal (α := DPair) 40 ([(⟨(rTxt (rIter rPair i1 (rMany 5 Q0.2).2).2).1, (rTxt (rTxt (rIter rPair i1 (rMany 5 Q0.2).2).2).2).1, (rNum (rTxt (rTxt (rIter rPair i1 (rMany 5 Q0.2).2).2).2).2).1⟩ : DPair)]) ?_
   intro A11 c11
   refine Mi ?_ (pR ((i1 : Int) + 1))
   refine m_f3 (m_f3 (m_f3 (m_f3 ?_)))
   exact on2 ⟨i1 + 1, A11, c11⟩ ⟨(by show i1 + 1 ≤ (rMany 5 Q0.2).1.toNat; omega), (fun x hx => by rcases List.mem_append.1 hx with hx | hx; exact h1s x hx; rw [List.mem_singleton] at hx; subst hx; exact ⟨(rTxt_bd (rIter rPair i1 (rMany 5 Q0.2).2).2 _ (rIter_bd (B := 9223372036854775807) (fun q h => rPair_bd q _ h) i1 (rMany 5 Q0.2).2 (rMany_bd 5 Q0.2 _ hzQ0))).2, (rTxt_bd (rTxt (rIter rPair i1 (rMany 5 Q0.2).2).2).2 _ (rTxt_bd (rIter rPair i1 (rMany 5 Q0.2).2).2 _ (rIter_bd (B := 9223372036854775807) (fun q h => rPair_bd q _ h) i1 (rMany 5 Q0.2).2 (rMany_bd 5 Q0.2 _ hzQ0))).1).2⟩)⟩ (by show (rMany 5 Q0.2).1.toNat - (i1 + 1) < (rMany 5 Q0.2).1.toNat - i1; omega)
 have hx_i1 : i1 = (rMany 5 Q0.2).1.toNat := by omega
 subst hx_i1
 have hzQ1 := (rIter_bd (B := 9223372036854775807) (fun q h => rPair_bd q _ h) (rMany 5 Q0.2).1.toNat (rMany 5 Q0.2).2 (rMany_bd 5 Q0.2 _ hzQ0))
 try dsimp only
 generalize hQ1 : (rIter rPair (rMany 5 Q0.2).1.toNat (rMany 5 Q0.2).2) = Q1 at *
 refine m_f1 ?_
 refine Mtk ?_ Tryz.call223 (fun bs w hS => snap_count Q1.2 4 b w (hS.res _ i0) hzQ1)
 rintro y _
 have hmn13 := rMany_n 4 (by decide) Q1.2
 refine m_rowA (α := CSession) 118 ?_
 refine m_nores (ownL (keptR 141) []) rfl (fun w x hx => by cases hx) ?_
 refine Ml (σ := Nat × Option Addr × Nat × List CSession) (fun ⟨i2, A2x, c2x, M2⟩ => i2 ≤ (rMany 4 Q1.2).1.toNat ∧ M2.map CSession.abs = (rIter rSess i2 (rMany 4 Q1.2).2).1 ∧ ∀ x, x ∈ M2 → ∀ k, k ∈ x.replies.xs → k.reply.text.size ≤ 9223372036854775807) (fun ⟨i2, A2x, c2x, M2⟩ => (rMany 4 Q1.2).1.toNat - i2) (fun ⟨i2, A2x, c2x, M2⟩ => [ownL (keptR 141) M2, rowA 118 A2x c2x (M2 : List CSession), blkR b 238 [vs (rIter rSess i2 (rMany 4 Q1.2).2).2.1, vi (rIter rSess i2 (rMany 4 Q1.2).2).2.2], rowA 128 A1x c1x (Q1.1 : List DPair), ownL (lineR 3) M0, rowA 115 A0x c0x (M0 : List CLock)]) [38, 37, 3, 2, 0] (fun ⟨i2, A2x, c2x, M2⟩ => [(38, vI (i2 : Int))]) (fun ⟨i2, A2x, c2x, M2⟩ => [(1, [vI (rNum q).1, .v (.slice A0x M0.length c0x), .v (.slice A1x (Q1.1).length c1x), .v (.slice A2x M2.length c2x)])]) ?_ (⟨0, none, 0, []⟩) ⟨(Nat.zero_le _), rfl, (fun x hx => by cases hx)⟩
 rintro ⟨i2, A2x, c2x, M2⟩ ⟨h2l, h2m, h2s⟩ _ on3
 have h2n : M2.length = i2 := by have h9 := congrArg List.length h2m; rw [List.length_map, rIter_len] at h9; exact h9
 refine Md ((i2 : Int) < (rMany 4 Q1.2).1) (fun h3 => ?_) fun h3 => ?_
 rotate_left
 · have hx_i2 : i2 = (rMany 4 Q1.2).1.toNat := by omega
   subst hx_i2
   have hzQ2 := (rIter_bd (B := 9223372036854775807) (fun q h => rSess_bd q _ h) (rMany 4 Q1.2).1.toNat (rMany 4 Q1.2).2 (rMany_bd 4 Q1.2 _ hzQ1))
   try dsimp only
   generalize hQ2 : (rIter rSess (rMany 4 Q1.2).1.toNat (rMany 4 Q1.2).2) = Q2 at *
   refine Mt [.agg #[vi (rNum q).1, .slice A0x M0.length c0x, .slice A1x (Q1.1).length c1x, .slice A2x M2.length c2x]] fun bs w hS => ?_
   have hR := rState_of hQ0 hQ1 hQ2
   rw [hR]
   have hS2 := hS.f5.f5.f5.f4.f4.f5
   refine ⟨((allR [ownL (keptR 141) M2, rowA 118 A2x c2x (M2 : List CSession), rowA 128 A1x c1x (Q1.1 : List DPair), ownL (lineR 3) M0, rowA 115 A0x c0x (M0 : List CLock)]).fp, (⟨(rNum q).1, ⟨A0x, c0x, M0⟩, ⟨A1x, c1x, Q1.1⟩, ⟨A2x, c2x, M2⟩⟩ : CState)), rfl, ⟨?_, h0s, h1s, h2s⟩, (hS2.turnedN (fun _ h => h)).as (fun hp => ?_) rfl⟩
   · show CState.abs (⟨(rNum q).1, ⟨A0x, c0x, M0⟩, ⟨A1x, c1x, Q1.1⟩, ⟨A2x, c2x, M2⟩⟩ : CState) = _; simp only [CState.abs, h0m, h2m]
   · exact ⟨out_locks i4 i3 hp (fun x hx => hx) h0s, allR_row i2 (hp _ i2) h1s, out_sess i1 i0 hp (fun x hx => hx) h2s⟩
 refine Mda 5 [] [] [ownL (keptR 141) M2, rowA 118 A2x c2x (M2 : List CSession), rowA 128 A1x c1x (Q1.1 : List DPair), ownL (lineR 3) M0, rowA 115 A0x c0x (M0 : List CLock)] Tryz_mixed ?_ (hR := (.cons_cons _ (.cons_cons _ (.cons _ (List.Sublist.refl _)))))
 refine m_f2 ?_
 refine Mtn ?_ Tryz.call226 (fun bs w hS => snap_session (rIter rSess i2 (rMany 4 Q1.2).2).2 b w (hS.res _ i0) (rIter_bd (B := 9223372036854775807) (fun q h => rSess_bd q _ h) i2 (rMany 4 Q1.2).2 (rMany_bd 4 Q1.2 _ hzQ1))) (hR := fun _ => (.cons _ (.cons _ (List.Sublist.refl _))))
 rintro y14 hF14
 refine M1 ?_ (hR := (.cons _ (.cons _ (List.Sublist.refl _))))
 refine Mz ?_
 refine m_f3 ?_
 refine Mal (α := CSession) 56 ([(⟨y14.client, y14.id, y14.acked, y14.last, y14.replies⟩ : CSession)]) ?_
 intro A15 c15
 refine Mi ?_ (pR ((i2 : Int) + 1))
 refine m_f3 ?_
 refine m_f2 ?_
 refine m_join (ownL (keptR 141) (M2 ++ [(⟨y14.client, y14.id, y14.acked, y14.last, y14.replies⟩ : CSession)])) (ownL_app_fp (keptR 141) M2 (⟨y14.client, y14.id, y14.acked, y14.last, y14.replies⟩ : CSession)) (fun w => ownL_app_p (keptR 141) M2 (⟨y14.client, y14.id, y14.acked, y14.last, y14.replies⟩ : CSession) w) ?_
 refine m_f5 (m_f5 (m_f5 (m_f5 (m_f5 (m_f5 ?_)))))
 exact on3 ⟨i2 + 1, A15, c15, M2 ++ [(⟨y14.client, y14.id, y14.acked, y14.last, y14.replies⟩ : CSession)]⟩ ⟨(by show i2 + 1 ≤ (rMany 4 Q1.2).1.toNat; omega), (by rw [List.map_append, h2m]; exact congrArg (fun z => (rIter rSess i2 (rMany 4 Q1.2).2).1 ++ [z]) (show CSession.abs (⟨y14.client, y14.id, y14.acked, y14.last, y14.replies⟩ : CSession) = (rSess (rIter rSess i2 (rMany 4 Q1.2).2).2).1 from hF14.1)), (fun x hx => by rcases List.mem_append.1 hx with hx | hx; exact h2s x hx; rw [List.mem_singleton] at hx; subst hx; exact hF14.2)⟩ (by show (rMany 4 Q1.2).1.toNat - (i2 + 1) < (rMany 4 Q1.2).1.toNat - i2; omega)

theorem snap_Decode (s : ByteArray) (w : World) (hs : s.size ≤ 9223372036854775807) : Calls Tryz.prog 156 #[vs s] w fun e w' => ∃ y : CState, e = .returned (.tuple #[y.val, vi (mUnsnap s).2]) ∧ y.abs = (mUnsnap s).1 ∧ FreshS w w' y := by
 refine M0 ?_ Tryz.func156
 refine Md ((5000 : Int) < (s.size : Int)) (fun h1 => ?_) fun h1 => ?_
 · exact Me2 (unsnap_big (by assumption)) ⟨0, Sl.nil, Sl.nil, Sl.nil⟩ rfl fun bs w hS => hS.outS (y := (⟨0, Sl.nil, Sl.nil, Sl.nil⟩ : CState)) ⟨Sl.rd_nil _ _, Sl.rd_nil _ _, Sl.rd_nil _ _⟩
 refine Md ((s.size : Int) < 4) (fun h2 => ?_) fun h2 => ?_
 · exact Me2 (unsnap_small (by assumption) (by assumption)) ⟨0, Sl.nil, Sl.nil, Sl.nil⟩ rfl fun bs w hS => hS.outS (y := (⟨0, Sl.nil, Sl.nil, Sl.nil⟩ : CState)) ⟨Sl.rd_nil _ _, Sl.rd_nil _ _, Sl.rd_nil _ _⟩
 have hz0 : (s.extract 0 ((s.size : Int) - 4).toNat).size ≤ 9223372036854775807 := by rw [ByteArray.size_extract]; omega
 refine Mi ?_ (pR ((s.size : Int) - 4))
 refine Mda 8 [] [] [] Tryz_mixed ?_
 refine Mih ?_ (pc (pG [(21, .sl 0 ((s.size : Int) - 4).toNat)] (oc (rfl : 0 = 0) (oc ((by omega) : (s.size : Int) - 4 = ((((s.size : Int) - 4).toNat : Nat) : Int)) (oc ((by omega) : ((s.size : Int) - 4).toNat ≤ s.size) on)))) (pG [(25, .sl ((s.size : Int) - 4).toNat s.size)] (oc ((by omega) : (s.size : Int) - 4 = ((((s.size : Int) - 4).toNat : Nat) : Int)) (oc (rfl : s.size = s.size) (oc ((by omega) : ((s.size : Int) - 4).toNat ≤ s.size) on)))))
 refine Mp ?_ Tryz.call198 (fun bs w hS => codec_Seal _ w (by first | assumption | omega | (simp only [emp_size]; omega)))
 refine Mdn ((mSeal (s.extract 0 ((s.size : Int) - 4).toNat)) = (s.extract ((s.size : Int) - 4).toNat s.size)) (fun h3 => ?_) fun h3 => ?_
 rotate_left
 · exact Me2 (unsnap_seal h1 h2 h3) ⟨0, Sl.nil, Sl.nil, Sl.nil⟩ rfl fun bs w hS => hS.outS (y := (⟨0, Sl.nil, Sl.nil, Sl.nil⟩ : CState)) ⟨Sl.rd_nil _ _, Sl.rd_nil _ _, Sl.rd_nil _ _⟩
 refine Mi ?_ (pG [(30, .sl 0 ((s.size : Int) - 4).toNat)] (oc (rfl : 0 = 0) (oc ((by omega) : (s.size : Int) - 4 = ((((s.size : Int) - 4).toNat : Nat) : Int)) (oc ((by omega) : ((s.size : Int) - 4).toNat ≤ s.size) on))))
 refine Mon 1 ?_ Tryz.call199 (fun bs w hS hb => snap_state (rIn s) (bs.getD 1 0) w hb hz0)
 rintro y1 hF1
 refine m_know (F := Rds.ok y1.2) (fun bs w hS => Rds.okof (hS.res _ i0)) fun hok1 => ?_
 refine Md ((rState (rIn s)).2.2 = 0) (fun h4 => ?_) fun h4 => ?_
 rotate_left
 · refine My false true ?_ (df h4)
   refine Mda 7 [] [0] [subR y1.1 y1.2] Tryz_mixed ?_
   refine Mz ?_
   exact Me2 (unsnap_bad (q := (rIn s)) rfl rfl h1 h2 h3 h4) ⟨0, Sl.nil, Sl.nil, Sl.nil⟩ rfl fun bs w hS => hS.outS (y := (⟨0, Sl.nil, Sl.nil, Sl.nil⟩ : CState)) ⟨Sl.rd_nil _ _, Sl.rd_nil _ _, Sl.rd_nil _ _⟩
 refine Mdn ((rState (rIn s)).2.1 = emp) (fun h5 => ?_) fun h5 => ?_
 rotate_left
 · refine Mq 54 true ?_ rfl
   refine Mda 7 [] [0] [subR y1.1 y1.2] Tryz_mixed ?_
   refine Mz ?_
   exact Me2 (unsnap_more (q := (rIn s)) rfl rfl h1 h2 h3 h4 h5) ⟨0, Sl.nil, Sl.nil, Sl.nil⟩ rfl fun bs w hS => hS.outS (y := (⟨0, Sl.nil, Sl.nil, Sl.nil⟩ : CState)) ⟨Sl.rd_nil _ _, Sl.rd_nil _ _, Sl.rd_nil _ _⟩
 refine My true true ?_ (dt h4)
 refine Mp ?_ Tryz.call20 (fun bs w hS => machine_Check y1.2 w (hS.res _ i0))
 refine Mdn (mState y1.2.abs = 0) (fun h7 => ?_) fun h7 => ?_
 rotate_left
 · have hy : y1.2.abs = (rState (rIn s)).1 := hF1.1
   exact Me2 (unsnap_fault (y := y1.2.abs) (q := (rIn s)) rfl rfl h1 h2 h3 h4 h5 hy h7) ⟨0, Sl.nil, Sl.nil, Sl.nil⟩ rfl fun bs w hS => hS.outS (y := (⟨0, Sl.nil, Sl.nil, Sl.nil⟩ : CState)) ⟨Sl.rd_nil _ _, Sl.rd_nil _ _, Sl.rd_nil _ _⟩
 have hy : y1.2.abs = (rState (rIn s)).1 := hF1.1
 exact Me2 (unsnap_ok (y := y1.2.abs) (q := (rIn s)) rfl rfl h1 h2 h3 h4 h5 hy h7) y1.2 rfl fun bs w hS => hS.outS (y := y1.2) (allR_sub i0 (hS.res _ i0))

set_option maxHeartbeats 1600000 in
theorem ref_SnapOf (s : ByteArray) (w : World) (hs : s.size ≤ 9223372036854775807) : Calls Tryz.prog 114 #[vs s] w fun e w' => ∃ y : CState, e = .returned (.tuple #[y.val, vi (mUnsnap s).2]) ∧ y.abs = (mUnsnap s).1 ∧ FreshS w w' y := by
 refine M0 ?_ Tryz.func114
 refine Md ((5000 : Int) < (s.size : Int)) (fun h1 => ?_) fun h1 => ?_
 · exact Me2 (unsnap_big (by assumption)) ⟨0, Sl.nil, Sl.nil, Sl.nil⟩ rfl fun bs w hS => hS.outS (y := (⟨0, Sl.nil, Sl.nil, Sl.nil⟩ : CState)) ⟨Sl.rd_nil _ _, Sl.rd_nil _ _, Sl.rd_nil _ _⟩
 refine Md ((s.size : Int) < 4) (fun h2 => ?_) fun h2 => ?_
 · exact Me2 (unsnap_small (by assumption) (by assumption)) ⟨0, Sl.nil, Sl.nil, Sl.nil⟩ rfl fun bs w hS => hS.outS (y := (⟨0, Sl.nil, Sl.nil, Sl.nil⟩ : CState)) ⟨Sl.rd_nil _ _, Sl.rd_nil _ _, Sl.rd_nil _ _⟩
 have hz0 : (s.extract 0 ((s.size : Int) - 4).toNat).size ≤ 9223372036854775807 := by rw [ByteArray.size_extract]; omega
 refine Mda 12 [] [] [] Tryz_mixed ?_
 refine Mih ?_ (pc (pR ((s.size : Int) - 4)) (pc (pG [(30, .sl 0 ((s.size : Int) - 4).toNat)] (oc (rfl : 0 = 0) (oc ((by omega) : (s.size : Int) - 4 = ((((s.size : Int) - 4).toNat : Nat) : Int)) (oc ((by omega) : ((s.size : Int) - 4).toNat ≤ s.size) on)))) (pc (pR ((s.size : Int) - 4)) (pG [(36, .sl ((s.size : Int) - 4).toNat s.size)] (oc ((by omega) : (s.size : Int) - 4 = ((((s.size : Int) - 4).toNat : Nat) : Int)) (oc (rfl : s.size = s.size) (oc ((by omega) : ((s.size : Int) - 4).toNat ≤ s.size) on)))))))
 refine Mp ?_ Tryz.call158 (fun bs w hS => ref_SealOf _ w (by first | assumption | omega | (simp only [emp_size]; omega)))
 refine Mdn ((mSeal (s.extract 0 ((s.size : Int) - 4).toNat)) = (s.extract ((s.size : Int) - 4).toNat s.size)) (fun h3 => ?_) fun h3 => ?_
 rotate_left
 · exact Me2 (unsnap_seal h1 h2 h3) ⟨0, Sl.nil, Sl.nil, Sl.nil⟩ rfl fun bs w hS => hS.outS (y := (⟨0, Sl.nil, Sl.nil, Sl.nil⟩ : CState)) ⟨Sl.rd_nil _ _, Sl.rd_nil _ _, Sl.rd_nil _ _⟩
 refine Mi ?_ (pc (pR ((s.size : Int) - 4)) (pG [(43, .sl 0 ((s.size : Int) - 4).toNat)] (oc (rfl : 0 = 0) (oc ((by omega) : (s.size : Int) - 4 = ((((s.size : Int) - 4).toNat : Nat) : Int)) (oc ((by omega) : ((s.size : Int) - 4).toNat ≤ s.size) on)))))
 refine Mo 1 ?_ Tryz.call159 (fun bs w hS hb => ear_num (rIn s) (bs.getD 1 0) w hb hz0)
 rintro y _
 refine Mo 1 ?_ Tryz.call160 (fun bs w hS hb => ear_many (rNum (rIn s)).2 5 (bs.getD 1 0) w hb (rNum_bd (rIn s) _ hz0))
 rintro y _
 have hmn3 := rMany_n 5 (by decide) (rNum (rIn s)).2
 refine m_rowA (α := CLock) 115 ?_
 refine m_nores (ownL (lineR 3) []) rfl (fun w x hx => by cases hx) ?_
 refine Ml (σ := Nat × Option Addr × Nat × List CLock) (fun ⟨i0, A0x, c0x, M0⟩ => i0 ≤ (rMany 5 (rNum (rIn s)).2).1.toNat ∧ M0.map CLock.abs = (rIter rLock i0 (rMany 5 (rNum (rIn s)).2).2).1 ∧ ∀ x, x ∈ M0 → x.name.size ≤ 9223372036854775807) (fun ⟨i0, A0x, c0x, M0⟩ => (rMany 5 (rNum (rIn s)).2).1.toNat - i0) (fun ⟨i0, A0x, c0x, M0⟩ => [ownL (lineR 3) M0, rowA 115 A0x c0x (M0 : List CLock)]) [7, 6, 5, 4, 2] (fun ⟨i0, A0x, c0x, M0⟩ => [(7, vI (i0 : Int))]) (fun ⟨i0, A0x, c0x, M0⟩ => [(1, [vS (rIter rLock i0 (rMany 5 (rNum (rIn s)).2).2).2.1, vI (rIter rLock i0 (rMany 5 (rNum (rIn s)).2).2).2.2]), (2, [vI (rNum (rIn s)).1, .v (.slice A0x M0.length c0x), .v vn, .v vn])]) ?_ (⟨0, none, 0, []⟩) ⟨(Nat.zero_le _), rfl, (fun x hx => by cases hx)⟩
 rintro ⟨i0, A0x, c0x, M0⟩ ⟨h0l, h0m, h0s⟩ _ on1
 have h0n : M0.length = i0 := by have h9 := congrArg List.length h0m; rw [List.length_map, rIter_len] at h9; exact h9
 refine Md ((i0 : Int) < (rMany 5 (rNum (rIn s)).2).1) (fun h4 => ?_) fun h4 => ?_
 · refine Mo 1 ?_ Tryz.call161 (fun bs w hS hb => ear_str (rIter rLock i0 (rMany 5 (rNum (rIn s)).2).2).2 (bs.getD 1 0) w hb (rIter_bd (B := 9223372036854775807) (fun q h => rLock_bd q _ h) i0 (rMany 5 (rNum (rIn s)).2).2 (rMany_bd 5 (rNum (rIn s)).2 _ (rNum_bd (rIn s) _ hz0))))
   rintro y _
   refine Mo 1 ?_ Tryz.call159 (fun bs w hS hb => ear_num (rTxt (rIter rLock i0 (rMany 5 (rNum (rIn s)).2).2).2).2 (bs.getD 1 0) w hb (rTxt_bd (rIter rLock i0 (rMany 5 (rNum (rIn s)).2).2).2 _ (rIter_bd (B := 9223372036854775807) (fun q h => rLock_bd q _ h) i0 (rMany 5 (rNum (rIn s)).2).2 (rMany_bd 5 (rNum (rIn s)).2 _ (rNum_bd (rIn s) _ hz0)))).1)
   rintro y _
   refine Mo 1 ?_ Tryz.call159 (fun bs w hS hb => ear_num (rNum (rTxt (rIter rLock i0 (rMany 5 (rNum (rIn s)).2).2).2).2).2 (bs.getD 1 0) w hb (rNum_bd (rTxt (rIter rLock i0 (rMany 5 (rNum (rIn s)).2).2).2).2 _ (rTxt_bd (rIter rLock i0 (rMany 5 (rNum (rIn s)).2).2).2 _ (rIter_bd (B := 9223372036854775807) (fun q h => rLock_bd q _ h) i0 (rMany 5 (rNum (rIn s)).2).2 (rMany_bd 5 (rNum (rIn s)).2 _ (rNum_bd (rIn s) _ hz0)))).1))
   rintro y _
   refine Mo 1 ?_ Tryz.call160 (fun bs w hS hb => ear_many (rNum (rNum (rTxt (rIter rLock i0 (rMany 5 (rNum (rIn s)).2).2).2).2).2).2 3 (bs.getD 1 0) w hb (rNum_bd (rNum (rTxt (rIter rLock i0 (rMany 5 (rNum (rIn s)).2).2).2).2).2 _ (rNum_bd (rTxt (rIter rLock i0 (rMany 5 (rNum (rIn s)).2).2).2).2 _ (rTxt_bd (rIter rLock i0 (rMany 5 (rNum (rIn s)).2).2).2 _ (rIter_bd (B := 9223372036854775807) (fun q h => rLock_bd q _ h) i0 (rMany 5 (rNum (rIn s)).2).2 (rMany_bd 5 (rNum (rIn s)).2 _ (rNum_bd (rIn s) _ hz0)))).1)))
   rintro y _
   have hmn8 := rMany_n 3 (by decide) (rNum (rNum (rTxt (rIter rLock i0 (rMany 5 (rNum (rIn s)).2).2).2).2).2).2
   refine m_rowA (α := Int) 3 ?_
   refine Ml (σ := Nat × Option Addr × Nat) (fun ⟨i1, A1x, c1x⟩ => i1 ≤ (rMany 3 (rNum (rNum (rTxt (rIter rLock i0 (rMany 5 (rNum (rIn s)).2).2).2).2).2).2).1.toNat) (fun ⟨i1, A1x, c1x⟩ => (rMany 3 (rNum (rNum (rTxt (rIter rLock i0 (rMany 5 (rNum (rIn s)).2).2).2).2).2).2).1.toNat - i1) (fun ⟨i1, A1x, c1x⟩ => [rowA 3 A1x c1x ((rIter rNum i1 (rMany 3 (rNum (rNum (rTxt (rIter rLock i0 (rMany 5 (rNum (rIn s)).2).2).2).2).2).2).2).1 : List Int), ownL (lineR 3) M0, rowA 115 A0x c0x (M0 : List CLock)]) [10, 9, 8, 7, 6, 5, 4, 2] (fun ⟨i1, A1x, c1x⟩ => [(10, vI (i1 : Int))]) (fun ⟨i1, A1x, c1x⟩ => [(1, [vS (rIter rNum i1 (rMany 3 (rNum (rNum (rTxt (rIter rLock i0 (rMany 5 (rNum (rIn s)).2).2).2).2).2).2).2).2.1, vI (rIter rNum i1 (rMany 3 (rNum (rNum (rTxt (rIter rLock i0 (rMany 5 (rNum (rIn s)).2).2).2).2).2).2).2).2.2]), (3, [vS (rTxt (rIter rLock i0 (rMany 5 (rNum (rIn s)).2).2).2).1, vI (rNum (rTxt (rIter rLock i0 (rMany 5 (rNum (rIn s)).2).2).2).2).1, vI (rNum (rNum (rTxt (rIter rLock i0 (rMany 5 (rNum (rIn s)).2).2).2).2).2).1, .v (.slice A1x ((rIter rNum i1 (rMany 3 (rNum (rNum (rTxt (rIter rLock i0 (rMany 5 (rNum (rIn s)).2).2).2).2).2).2).2).1).length c1x)])]) ?_ (⟨0, none, 0⟩) (Nat.zero_le _)
   rintro ⟨i1, A1x, c1x⟩ h1l _ on2
   have h1n : (rIter rNum i1 (rMany 3 (rNum (rNum (rTxt (rIter rLock i0 (rMany 5 (rNum (rIn s)).2).2).2).2).2).2).2).1.length = i1 := by exact rIter_len _ _ _
   refine Md ((i1 : Int) < (rMany 3 (rNum (rNum (rTxt (rIter rLock i0 (rMany 5 (rNum (rIn s)).2).2).2).2).2).2).1) (fun h5 => ?_) fun h5 => ?_
   · refine Mda 5 [] [1] [rowA 3 A1x c1x ((rIter rNum i1 (rMany 3 (rNum (rNum (rTxt (rIter rLock i0 (rMany 5 (rNum (rIn s)).2).2).2).2).2).2).2).1 : List Int), ownL (lineR 3) M0, rowA 115 A0x c0x (M0 : List CLock)] Tryz_mixed ?_
     refine Mo 1 ?_ Tryz.call159 (fun bs w hS hb => ear_num (rIter rNum i1 (rMany 3 (rNum (rNum (rTxt (rIter rLock i0 (rMany 5 (rNum (rIn s)).2).2).2).2).2).2).2).2 (bs.getD 1 0) w hb (rIter_bd (B := 9223372036854775807) (fun q h => rNum_bd q _ h) i1 (rMany 3 (rNum (rNum (rTxt (rIter rLock i0 (rMany 5 (rNum (rIn s)).2).2).2).2).2).2).2 (rMany_bd 3 (rNum (rNum (rTxt (rIter rLock i0 (rMany 5 (rNum (rIn s)).2).2).2).2).2).2 _ (rNum_bd (rNum (rTxt (rIter rLock i0 (rMany 5 (rNum (rIn s)).2).2).2).2).2 _ (rNum_bd (rTxt (rIter rLock i0 (rMany 5 (rNum (rIn s)).2).2).2).2 _ (rTxt_bd (rIter rLock i0 (rMany 5 (rNum (rIn s)).2).2).2 _ (rIter_bd (B := 9223372036854775807) (fun q h => rLock_bd q _ h) i0 (rMany 5 (rNum (rIn s)).2).2 (rMany_bd 5 (rNum (rIn s)).2 _ (rNum_bd (rIn s) _ hz0)))).1)))))
     rintro y _
     refine M1 ?_
     refine Mz ?_
     refine Mal (α := Int) 8 ([(rNum (rIter rNum i1 (rMany 3 (rNum (rNum (rTxt (rIter rLock i0 (rMany 5 (rNum (rIn s)).2).2).2).2).2).2).2).2).1]) ?_
     intro A10 c10
     refine Mi ?_ (pR ((i1 : Int) + 1))
     refine m_f2 (m_f2 (m_f2 ?_))
     exact on2 ⟨i1 + 1, A10, c10⟩ (by show i1 + 1 ≤ (rMany 3 (rNum (rNum (rTxt (rIter rLock i0 (rMany 5 (rNum (rIn s)).2).2).2).2).2).2).1.toNat; omega) (by show (rMany 3 (rNum (rNum (rTxt (rIter rLock i0 (rMany 5 (rNum (rIn s)).2).2).2).2).2).2).1.toNat - (i1 + 1) < (rMany 3 (rNum (rNum (rTxt (rIter rLock i0 (rMany 5 (rNum (rIn s)).2).2).2).2).2).2).1.toNat - i1; omega)
   have hx_i1 : i1 = (rMany 3 (rNum (rNum (rTxt (rIter rLock i0 (rMany 5 (rNum (rIn s)).2).2).2).2).2).2).1.toNat := by omega
   subst hx_i1
   refine M1 ?_
   refine m_f2 ?_
   refine Mal (α := CLock) 56 ([(⟨(rTxt (rIter rLock i0 (rMany 5 (rNum (rIn s)).2).2).2).1, (rNum (rTxt (rIter rLock i0 (rMany 5 (rNum (rIn s)).2).2).2).2).1, (rNum (rNum (rTxt (rIter rLock i0 (rMany 5 (rNum (rIn s)).2).2).2).2).2).1, ⟨A1x, c1x, (rIter rNum (rMany 3 (rNum (rNum (rTxt (rIter rLock i0 (rMany 5 (rNum (rIn s)).2).2).2).2).2).2).1.toNat (rMany 3 (rNum (rNum (rTxt (rIter rLock i0 (rMany 5 (rNum (rIn s)).2).2).2).2).2).2).2).1⟩⟩ : CLock)]) ?_
   intro A11 c11
   refine Mi ?_ (pR ((i0 : Int) + 1))
   refine m_f2 ?_
   refine m_f2 ?_
   refine m_join (ownL (lineR 3) (M0 ++ [(⟨(rTxt (rIter rLock i0 (rMany 5 (rNum (rIn s)).2).2).2).1, (rNum (rTxt (rIter rLock i0 (rMany 5 (rNum (rIn s)).2).2).2).2).1, (rNum (rNum (rTxt (rIter rLock i0 (rMany 5 (rNum (rIn s)).2).2).2).2).2).1, ⟨A1x, c1x, (rIter rNum (rMany 3 (rNum (rNum (rTxt (rIter rLock i0 (rMany 5 (rNum (rIn s)).2).2).2).2).2).2).1.toNat (rMany 3 (rNum (rNum (rTxt (rIter rLock i0 (rMany 5 (rNum (rIn s)).2).2).2).2).2).2).2).1⟩⟩ : CLock)])) (ownL_app_fp (lineR 3) M0 (⟨(rTxt (rIter rLock i0 (rMany 5 (rNum (rIn s)).2).2).2).1, (rNum (rTxt (rIter rLock i0 (rMany 5 (rNum (rIn s)).2).2).2).2).1, (rNum (rNum (rTxt (rIter rLock i0 (rMany 5 (rNum (rIn s)).2).2).2).2).2).1, ⟨A1x, c1x, (rIter rNum (rMany 3 (rNum (rNum (rTxt (rIter rLock i0 (rMany 5 (rNum (rIn s)).2).2).2).2).2).2).1.toNat (rMany 3 (rNum (rNum (rTxt (rIter rLock i0 (rMany 5 (rNum (rIn s)).2).2).2).2).2).2).2).1⟩⟩ : CLock)) (fun w => ownL_app_p (lineR 3) M0 (⟨(rTxt (rIter rLock i0 (rMany 5 (rNum (rIn s)).2).2).2).1, (rNum (rTxt (rIter rLock i0 (rMany 5 (rNum (rIn s)).2).2).2).2).1, (rNum (rNum (rTxt (rIter rLock i0 (rMany 5 (rNum (rIn s)).2).2).2).2).2).1, ⟨A1x, c1x, (rIter rNum (rMany 3 (rNum (rNum (rTxt (rIter rLock i0 (rMany 5 (rNum (rIn s)).2).2).2).2).2).2).1.toNat (rMany 3 (rNum (rNum (rTxt (rIter rLock i0 (rMany 5 (rNum (rIn s)).2).2).2).2).2).2).2).1⟩⟩ : CLock) w) ?_
   refine m_f1 (m_f1 ?_)
   exact on1 ⟨i0 + 1, A11, c11, M0 ++ [(⟨(rTxt (rIter rLock i0 (rMany 5 (rNum (rIn s)).2).2).2).1, (rNum (rTxt (rIter rLock i0 (rMany 5 (rNum (rIn s)).2).2).2).2).1, (rNum (rNum (rTxt (rIter rLock i0 (rMany 5 (rNum (rIn s)).2).2).2).2).2).1, ⟨A1x, c1x, (rIter rNum (rMany 3 (rNum (rNum (rTxt (rIter rLock i0 (rMany 5 (rNum (rIn s)).2).2).2).2).2).2).1.toNat (rMany 3 (rNum (rNum (rTxt (rIter rLock i0 (rMany 5 (rNum (rIn s)).2).2).2).2).2).2).2).1⟩⟩ : CLock)]⟩ ⟨(by show i0 + 1 ≤ (rMany 5 (rNum (rIn s)).2).1.toNat; omega), (by rw [List.map_append, h0m]; exact congrArg (fun z => (rIter rLock i0 (rMany 5 (rNum (rIn s)).2).2).1 ++ [z]) (show CLock.abs (⟨(rTxt (rIter rLock i0 (rMany 5 (rNum (rIn s)).2).2).2).1, (rNum (rTxt (rIter rLock i0 (rMany 5 (rNum (rIn s)).2).2).2).2).1, (rNum (rNum (rTxt (rIter rLock i0 (rMany 5 (rNum (rIn s)).2).2).2).2).2).1, ⟨A1x, c1x, (rIter rNum (rMany 3 (rNum (rNum (rTxt (rIter rLock i0 (rMany 5 (rNum (rIn s)).2).2).2).2).2).2).1.toNat (rMany 3 (rNum (rNum (rTxt (rIter rLock i0 (rMany 5 (rNum (rIn s)).2).2).2).2).2).2).2).1⟩⟩ : CLock) = (rLock (rIter rLock i0 (rMany 5 (rNum (rIn s)).2).2).2).1 from rfl)), (fun x hx => by rcases List.mem_append.1 hx with hx | hx; exact h0s x hx; rw [List.mem_singleton] at hx; subst hx; exact (rTxt_bd (rIter rLock i0 (rMany 5 (rNum (rIn s)).2).2).2 _ (rIter_bd (B := 9223372036854775807) (fun q h => rLock_bd q _ h) i0 (rMany 5 (rNum (rIn s)).2).2 (rMany_bd 5 (rNum (rIn s)).2 _ (rNum_bd (rIn s) _ hz0)))).2)⟩ (by show (rMany 5 (rNum (rIn s)).2).1.toNat - (i0 + 1) < (rMany 5 (rNum (rIn s)).2).1.toNat - i0; omega)
 have hx_i0 : i0 = (rMany 5 (rNum (rIn s)).2).1.toNat := by omega
 subst hx_i0
 have hzQ0 := (rIter_bd (B := 9223372036854775807) (fun q h => rLock_bd q _ h) (rMany 5 (rNum (rIn s)).2).1.toNat (rMany 5 (rNum (rIn s)).2).2 (rMany_bd 5 (rNum (rIn s)).2 _ (rNum_bd (rIn s) _ hz0)))
 try dsimp only
 generalize hQ0 : (rIter rLock (rMany 5 (rNum (rIn s)).2).1.toNat (rMany 5 (rNum (rIn s)).2).2) = Q0 at *
 refine Mo 1 ?_ Tryz.call160 (fun bs w hS hb => ear_many Q0.2 5 (bs.getD 1 0) w hb hzQ0)
 rintro y _
 have hmn13 := rMany_n 5 (by decide) Q0.2
 refine m_rowA (α := DPair) 128 ?_
 refine Ml (σ := Nat × Option Addr × Nat) (fun ⟨i2, A2x, c2x⟩ => i2 ≤ (rMany 5 Q0.2).1.toNat ∧ ∀ x, x ∈ (rIter rPair i2 (rMany 5 Q0.2).2).1 → x.name.size ≤ 9223372036854775807 ∧ x.value.size ≤ 9223372036854775807) (fun ⟨i2, A2x, c2x⟩ => (rMany 5 Q0.2).1.toNat - i2) (fun ⟨i2, A2x, c2x⟩ => [rowA 128 A2x c2x ((rIter rPair i2 (rMany 5 Q0.2).2).1 : List DPair), ownL (lineR 3) M0, rowA 115 A0x c0x (M0 : List CLock)]) [11, 6, 5, 4, 2] (fun ⟨i2, A2x, c2x⟩ => [(11, vI (i2 : Int))]) (fun ⟨i2, A2x, c2x⟩ => [(1, [vS (rIter rPair i2 (rMany 5 Q0.2).2).2.1, vI (rIter rPair i2 (rMany 5 Q0.2).2).2.2]), (2, [vI (rNum (rIn s)).1, .v (.slice A0x M0.length c0x), .v (.slice A2x ((rIter rPair i2 (rMany 5 Q0.2).2).1).length c2x), .v vn])]) ?_ (⟨0, none, 0⟩) ⟨(Nat.zero_le _), (fun x hx => by cases hx)⟩
 rintro ⟨i2, A2x, c2x⟩ ⟨h2l, h2s⟩ _ on3
 have h2n : (rIter rPair i2 (rMany 5 Q0.2).2).1.length = i2 := by exact rIter_len _ _ _
 refine Md ((i2 : Int) < (rMany 5 Q0.2).1) (fun h6 => ?_) fun h6 => ?_
 · refine Mo 1 ?_ Tryz.call161 (fun bs w hS hb => ear_str (rIter rPair i2 (rMany 5 Q0.2).2).2 (bs.getD 1 0) w hb (rIter_bd (B := 9223372036854775807) (fun q h => rPair_bd q _ h) i2 (rMany 5 Q0.2).2 (rMany_bd 5 Q0.2 _ hzQ0)))
   rintro y _
   refine Mo 1 ?_ Tryz.call161 (fun bs w hS hb => ear_str (rTxt (rIter rPair i2 (rMany 5 Q0.2).2).2).2 (bs.getD 1 0) w hb (rTxt_bd (rIter rPair i2 (rMany 5 Q0.2).2).2 _ (rIter_bd (B := 9223372036854775807) (fun q h => rPair_bd q _ h) i2 (rMany 5 Q0.2).2 (rMany_bd 5 Q0.2 _ hzQ0))).1)
   rintro y _
   refine Mo 1 ?_ Tryz.call159 (fun bs w hS hb => ear_num (rTxt (rTxt (rIter rPair i2 (rMany 5 Q0.2).2).2).2).2 (bs.getD 1 0) w hb (rTxt_bd (rTxt (rIter rPair i2 (rMany 5 Q0.2).2).2).2 _ (rTxt_bd (rIter rPair i2 (rMany 5 Q0.2).2).2 _ (rIter_bd (B := 9223372036854775807) (fun q h => rPair_bd q _ h) i2 (rMany 5 Q0.2).2 (rMany_bd 5 Q0.2 _ hzQ0))).1).1)
   rintro y _
   refine M1 ?_
   refine Mal (α := DPair) 40 ([(⟨(rTxt (rIter rPair i2 (rMany 5 Q0.2).2).2).1, (rTxt (rTxt (rIter rPair i2 (rMany 5 Q0.2).2).2).2).1, (rNum (rTxt (rTxt (rIter rPair i2 (rMany 5 Q0.2).2).2).2).2).1⟩ : DPair)]) ?_
   intro A17 c17
   refine Mi ?_ (pR ((i2 : Int) + 1))
   refine m_f2 (m_f2 (m_f2 ?_))
   exact on3 ⟨i2 + 1, A17, c17⟩ ⟨(by show i2 + 1 ≤ (rMany 5 Q0.2).1.toNat; omega), (fun x hx => by rcases List.mem_append.1 hx with hx | hx; exact h2s x hx; rw [List.mem_singleton] at hx; subst hx; exact ⟨(rTxt_bd (rIter rPair i2 (rMany 5 Q0.2).2).2 _ (rIter_bd (B := 9223372036854775807) (fun q h => rPair_bd q _ h) i2 (rMany 5 Q0.2).2 (rMany_bd 5 Q0.2 _ hzQ0))).2, (rTxt_bd (rTxt (rIter rPair i2 (rMany 5 Q0.2).2).2).2 _ (rTxt_bd (rIter rPair i2 (rMany 5 Q0.2).2).2 _ (rIter_bd (B := 9223372036854775807) (fun q h => rPair_bd q _ h) i2 (rMany 5 Q0.2).2 (rMany_bd 5 Q0.2 _ hzQ0))).1).2⟩)⟩ (by show (rMany 5 Q0.2).1.toNat - (i2 + 1) < (rMany 5 Q0.2).1.toNat - i2; omega)
 have hx_i2 : i2 = (rMany 5 Q0.2).1.toNat := by omega
 subst hx_i2
 have hzQ2 := (rIter_bd (B := 9223372036854775807) (fun q h => rPair_bd q _ h) (rMany 5 Q0.2).1.toNat (rMany 5 Q0.2).2 (rMany_bd 5 Q0.2 _ hzQ0))
 try dsimp only
 generalize hQ2 : (rIter rPair (rMany 5 Q0.2).1.toNat (rMany 5 Q0.2).2) = Q2 at *
 refine Mo 1 ?_ Tryz.call160 (fun bs w hS hb => ear_many Q2.2 4 (bs.getD 1 0) w hb hzQ2)
 rintro y _
 have hmn19 := rMany_n 4 (by decide) Q2.2
 refine m_rowA (α := CSession) 118 ?_
 refine m_nores (ownL (keptR 141) []) rfl (fun w x hx => by cases hx) ?_
 refine Ml (σ := Nat × Option Addr × Nat × List CSession) (fun ⟨i3, A3x, c3x, M3⟩ => i3 ≤ (rMany 4 Q2.2).1.toNat ∧ M3.map CSession.abs = (rIter rSess i3 (rMany 4 Q2.2).2).1 ∧ ∀ x, x ∈ M3 → ∀ k, k ∈ x.replies.xs → k.reply.text.size ≤ 9223372036854775807) (fun ⟨i3, A3x, c3x, M3⟩ => (rMany 4 Q2.2).1.toNat - i3) (fun ⟨i3, A3x, c3x, M3⟩ => [ownL (keptR 141) M3, rowA 118 A3x c3x (M3 : List CSession), rowA 128 A2x c2x (Q2.1 : List DPair), ownL (lineR 3) M0, rowA 115 A0x c0x (M0 : List CLock)]) [13, 6, 5, 4, 2] (fun ⟨i3, A3x, c3x, M3⟩ => [(13, vI (i3 : Int))]) (fun ⟨i3, A3x, c3x, M3⟩ => [(1, [vS (rIter rSess i3 (rMany 4 Q2.2).2).2.1, vI (rIter rSess i3 (rMany 4 Q2.2).2).2.2]), (2, [vI (rNum (rIn s)).1, .v (.slice A0x M0.length c0x), .v (.slice A2x (Q2.1).length c2x), .v (.slice A3x M3.length c3x)])]) ?_ (⟨0, none, 0, []⟩) ⟨(Nat.zero_le _), rfl, (fun x hx => by cases hx)⟩
 rintro ⟨i3, A3x, c3x, M3⟩ ⟨h3l, h3m, h3s⟩ _ on4
 have h3n : M3.length = i3 := by have h9 := congrArg List.length h3m; rw [List.length_map, rIter_len] at h9; exact h9
 refine Md ((i3 : Int) < (rMany 4 Q2.2).1) (fun h7 => ?_) fun h7 => ?_
 rotate_left
 · have hx_i3 : i3 = (rMany 4 Q2.2).1.toNat := by omega
   subst hx_i3
   have hzQ3 := (rIter_bd (B := 9223372036854775807) (fun q h => rSess_bd q _ h) (rMany 4 Q2.2).1.toNat (rMany 4 Q2.2).2 (rMany_bd 4 Q2.2 _ hzQ2))
   try dsimp only
   generalize hQ3 : (rIter rSess (rMany 4 Q2.2).1.toNat (rMany 4 Q2.2).2) = Q3 at *
   refine Md (Q3.2.2 = 0) (fun h9 => ?_) fun h9 => ?_
   rotate_left
   · refine My false false ?_ (df h9)
     refine My false true ?_ (df h9)
     refine Mda 7 [] [0] [ownL (keptR 141) M3, rowA 118 A3x c3x (M3 : List CSession), rowA 128 A2x c2x (Q2.1 : List DPair), ownL (lineR 3) M0, rowA 115 A0x c0x (M0 : List CLock)] Tryz_mixed ?_
     refine Mz ?_
     have hR := rState_of hQ0 hQ2 hQ3
     exact Me2 (unsnap_bad (q := (rIn s)) rfl hR h1 h2 h3 h9) ⟨0, Sl.nil, Sl.nil, Sl.nil⟩ rfl fun bs w hS => hS.outS (y := (⟨0, Sl.nil, Sl.nil, Sl.nil⟩ : CState)) ⟨Sl.rd_nil _ _, Sl.rd_nil _ _, Sl.rd_nil _ _⟩
   refine Mdn (Q3.2.1 = emp) (fun h10 => ?_) fun h10 => ?_
   rotate_left
   · refine Mq 184 false ?_ rfl
     refine Mq 194 true ?_ rfl
     refine Mda 7 [] [0] [ownL (keptR 141) M3, rowA 118 A3x c3x (M3 : List CSession), rowA 128 A2x c2x (Q2.1 : List DPair), ownL (lineR 3) M0, rowA 115 A0x c0x (M0 : List CLock)] Tryz_mixed ?_
     refine Mz ?_
     have hR := rState_of hQ0 hQ2 hQ3
     exact Me2 (unsnap_more (q := (rIn s)) rfl hR h1 h2 h3 h9 h10) ⟨0, Sl.nil, Sl.nil, Sl.nil⟩ rfl fun bs w hS => hS.outS (y := (⟨0, Sl.nil, Sl.nil, Sl.nil⟩ : CState)) ⟨Sl.rd_nil _ _, Sl.rd_nil _ _, Sl.rd_nil _ _⟩
   refine My true false ?_ (dt h9)
   refine Mp ?_ Tryz.call30 (fun bs w hS => ref_StateFault (⟨(rNum (rIn s)).1, ⟨A0x, c0x, M0⟩, ⟨A2x, c2x, Q2.1⟩, ⟨A3x, c3x, M3⟩⟩ : CState) w ⟨out_locks i4 i3 hS.res (fun x hx => hx) h0s, allR_row i2 (hS.res _ i2) h2s, out_sess i1 i0 hS.res (fun x hx => hx) h3s⟩)
   refine Mdn (mState (CState.abs (⟨(rNum (rIn s)).1, ⟨A0x, c0x, M0⟩, ⟨A2x, c2x, Q2.1⟩, ⟨A3x, c3x, M3⟩⟩ : CState)) = 0) (fun h12 => ?_) fun h12 => ?_
   rotate_left
   · refine Mda 7 [] [0] [ownL (keptR 141) M3, rowA 118 A3x c3x (M3 : List CSession), rowA 128 A2x c2x (Q2.1 : List DPair), ownL (lineR 3) M0, rowA 115 A0x c0x (M0 : List CLock)] Tryz_mixed ?_
     refine Mz ?_
     have hR := rState_of hQ0 hQ2 hQ3
     have hy : (CState.abs (⟨(rNum (rIn s)).1, ⟨A0x, c0x, M0⟩, ⟨A2x, c2x, Q2.1⟩, ⟨A3x, c3x, M3⟩⟩ : CState)) = (⟨(rNum (rIn s)).1, Q0.1, Q2.1, Q3.1⟩ : DState) := by show CState.abs (⟨(rNum (rIn s)).1, ⟨A0x, c0x, M0⟩, ⟨A2x, c2x, Q2.1⟩, ⟨A3x, c3x, M3⟩⟩ : CState) = _; simp only [CState.abs, h0m, h3m]
     exact Me2 (unsnap_fault (y := (CState.abs (⟨(rNum (rIn s)).1, ⟨A0x, c0x, M0⟩, ⟨A2x, c2x, Q2.1⟩, ⟨A3x, c3x, M3⟩⟩ : CState))) (q := (rIn s)) rfl hR h1 h2 h3 h9 h10 hy h12) ⟨0, Sl.nil, Sl.nil, Sl.nil⟩ rfl fun bs w hS => hS.outS (y := (⟨0, Sl.nil, Sl.nil, Sl.nil⟩ : CState)) ⟨Sl.rd_nil _ _, Sl.rd_nil _ _, Sl.rd_nil _ _⟩
   have hR := rState_of hQ0 hQ2 hQ3
   have hy : (CState.abs (⟨(rNum (rIn s)).1, ⟨A0x, c0x, M0⟩, ⟨A2x, c2x, Q2.1⟩, ⟨A3x, c3x, M3⟩⟩ : CState)) = (⟨(rNum (rIn s)).1, Q0.1, Q2.1, Q3.1⟩ : DState) := by show CState.abs (⟨(rNum (rIn s)).1, ⟨A0x, c0x, M0⟩, ⟨A2x, c2x, Q2.1⟩, ⟨A3x, c3x, M3⟩⟩ : CState) = _; simp only [CState.abs, h0m, h3m]
   exact Me2 (unsnap_ok (y := (CState.abs (⟨(rNum (rIn s)).1, ⟨A0x, c0x, M0⟩, ⟨A2x, c2x, Q2.1⟩, ⟨A3x, c3x, M3⟩⟩ : CState))) (q := (rIn s)) rfl hR h1 h2 h3 h9 h10 hy h12) (⟨(rNum (rIn s)).1, ⟨A0x, c0x, M0⟩, ⟨A2x, c2x, Q2.1⟩, ⟨A3x, c3x, M3⟩⟩ : CState) rfl fun bs w hS => hS.outS (y := (⟨(rNum (rIn s)).1, ⟨A0x, c0x, M0⟩, ⟨A2x, c2x, Q2.1⟩, ⟨A3x, c3x, M3⟩⟩ : CState)) ⟨out_locks i4 i3 hS.res (fun x hx => hx) h0s, allR_row i2 (hS.res _ i2) h2s, out_sess i1 i0 hS.res (fun x hx => hx) h3s⟩
 refine Mo 1 ?_ Tryz.call159 (fun bs w hS hb => ear_num (rIter rSess i3 (rMany 4 Q2.2).2).2 (bs.getD 1 0) w hb (rIter_bd (B := 9223372036854775807) (fun q h => rSess_bd q _ h) i3 (rMany 4 Q2.2).2 (rMany_bd 4 Q2.2 _ hzQ2)))
 rintro y _
 refine Mo 1 ?_ Tryz.call159 (fun bs w hS hb => ear_num (rNum (rIter rSess i3 (rMany 4 Q2.2).2).2).2 (bs.getD 1 0) w hb (rNum_bd (rIter rSess i3 (rMany 4 Q2.2).2).2 _ (rIter_bd (B := 9223372036854775807) (fun q h => rSess_bd q _ h) i3 (rMany 4 Q2.2).2 (rMany_bd 4 Q2.2 _ hzQ2))))
 rintro y _
 refine Mo 1 ?_ Tryz.call159 (fun bs w hS hb => ear_num (rNum (rNum (rIter rSess i3 (rMany 4 Q2.2).2).2).2).2 (bs.getD 1 0) w hb (rNum_bd (rNum (rIter rSess i3 (rMany 4 Q2.2).2).2).2 _ (rNum_bd (rIter rSess i3 (rMany 4 Q2.2).2).2 _ (rIter_bd (B := 9223372036854775807) (fun q h => rSess_bd q _ h) i3 (rMany 4 Q2.2).2 (rMany_bd 4 Q2.2 _ hzQ2)))))
 rintro y _
 refine Mo 1 ?_ Tryz.call159 (fun bs w hS hb => ear_num (rNum (rNum (rNum (rIter rSess i3 (rMany 4 Q2.2).2).2).2).2).2 (bs.getD 1 0) w hb (rNum_bd (rNum (rNum (rIter rSess i3 (rMany 4 Q2.2).2).2).2).2 _ (rNum_bd (rNum (rIter rSess i3 (rMany 4 Q2.2).2).2).2 _ (rNum_bd (rIter rSess i3 (rMany 4 Q2.2).2).2 _ (rIter_bd (B := 9223372036854775807) (fun q h => rSess_bd q _ h) i3 (rMany 4 Q2.2).2 (rMany_bd 4 Q2.2 _ hzQ2))))))
 rintro y _
 refine Mo 1 ?_ Tryz.call160 (fun bs w hS hb => ear_many (rNum (rNum (rNum (rNum (rIter rSess i3 (rMany 4 Q2.2).2).2).2).2).2).2 4 (bs.getD 1 0) w hb (rNum_bd (rNum (rNum (rNum (rIter rSess i3 (rMany 4 Q2.2).2).2).2).2).2 _ (rNum_bd (rNum (rNum (rIter rSess i3 (rMany 4 Q2.2).2).2).2).2 _ (rNum_bd (rNum (rIter rSess i3 (rMany 4 Q2.2).2).2).2 _ (rNum_bd (rIter rSess i3 (rMany 4 Q2.2).2).2 _ (rIter_bd (B := 9223372036854775807) (fun q h => rSess_bd q _ h) i3 (rMany 4 Q2.2).2 (rMany_bd 4 Q2.2 _ hzQ2)))))))
 rintro y _
 have hmn25 := rMany_n 4 (by decide) (rNum (rNum (rNum (rNum (rIter rSess i3 (rMany 4 Q2.2).2).2).2).2).2).2
 refine m_rowA (α := DKept) 141 ?_
 refine Ml (σ := Nat × Option Addr × Nat) (fun ⟨i4, A4x, c4x⟩ => i4 ≤ (rMany 4 (rNum (rNum (rNum (rNum (rIter rSess i3 (rMany 4 Q2.2).2).2).2).2).2).2).1.toNat ∧ ∀ x, x ∈ (rIter rKept i4 (rMany 4 (rNum (rNum (rNum (rNum (rIter rSess i3 (rMany 4 Q2.2).2).2).2).2).2).2).2).1 → x.reply.text.size ≤ 9223372036854775807) (fun ⟨i4, A4x, c4x⟩ => (rMany 4 (rNum (rNum (rNum (rNum (rIter rSess i3 (rMany 4 Q2.2).2).2).2).2).2).2).1.toNat - i4) (fun ⟨i4, A4x, c4x⟩ => [rowA 141 A4x c4x ((rIter rKept i4 (rMany 4 (rNum (rNum (rNum (rNum (rIter rSess i3 (rMany 4 Q2.2).2).2).2).2).2).2).2).1 : List DKept), ownL (keptR 141) M3, rowA 118 A3x c3x (M3 : List CSession), rowA 128 A2x c2x (Q2.1 : List DPair), ownL (lineR 3) M0, rowA 115 A0x c0x (M0 : List CLock)]) [16, 15, 14, 13, 6, 5, 4, 2] (fun ⟨i4, A4x, c4x⟩ => [(16, vI (i4 : Int))]) (fun ⟨i4, A4x, c4x⟩ => [(1, [vS (rIter rKept i4 (rMany 4 (rNum (rNum (rNum (rNum (rIter rSess i3 (rMany 4 Q2.2).2).2).2).2).2).2).2).2.1, vI (rIter rKept i4 (rMany 4 (rNum (rNum (rNum (rNum (rIter rSess i3 (rMany 4 Q2.2).2).2).2).2).2).2).2).2.2]), (3, [vI (rNum (rIter rSess i3 (rMany 4 Q2.2).2).2).1, vI (rNum (rNum (rIter rSess i3 (rMany 4 Q2.2).2).2).2).1, vI (rNum (rNum (rNum (rIter rSess i3 (rMany 4 Q2.2).2).2).2).2).1, vI (rNum (rNum (rNum (rNum (rIter rSess i3 (rMany 4 Q2.2).2).2).2).2).2).1, .v (.slice A4x ((rIter rKept i4 (rMany 4 (rNum (rNum (rNum (rNum (rIter rSess i3 (rMany 4 Q2.2).2).2).2).2).2).2).2).1).length c4x)])]) ?_ (⟨0, none, 0⟩) ⟨(Nat.zero_le _), (fun x hx => by cases hx)⟩
 rintro ⟨i4, A4x, c4x⟩ ⟨h4l, h4s⟩ _ on5
 have h4n : (rIter rKept i4 (rMany 4 (rNum (rNum (rNum (rNum (rIter rSess i3 (rMany 4 Q2.2).2).2).2).2).2).2).2).1.length = i4 := by exact rIter_len _ _ _
 refine Md ((i4 : Int) < (rMany 4 (rNum (rNum (rNum (rNum (rIter rSess i3 (rMany 4 Q2.2).2).2).2).2).2).2).1) (fun h8 => ?_) fun h8 => ?_
 rotate_left
 · have hx_i4 : i4 = (rMany 4 (rNum (rNum (rNum (rNum (rIter rSess i3 (rMany 4 Q2.2).2).2).2).2).2).2).1.toNat := by omega
   subst hx_i4
   refine M1 ?_
   refine m_f2 ?_
   refine Mal (α := CSession) 56 ([(⟨(rNum (rIter rSess i3 (rMany 4 Q2.2).2).2).1, (rNum (rNum (rIter rSess i3 (rMany 4 Q2.2).2).2).2).1, (rNum (rNum (rNum (rIter rSess i3 (rMany 4 Q2.2).2).2).2).2).1, (rNum (rNum (rNum (rNum (rIter rSess i3 (rMany 4 Q2.2).2).2).2).2).2).1, ⟨A4x, c4x, (rIter rKept (rMany 4 (rNum (rNum (rNum (rNum (rIter rSess i3 (rMany 4 Q2.2).2).2).2).2).2).2).1.toNat (rMany 4 (rNum (rNum (rNum (rNum (rIter rSess i3 (rMany 4 Q2.2).2).2).2).2).2).2).2).1⟩⟩ : CSession)]) ?_
   intro A31 c31
   refine Mi ?_ (pR ((i3 : Int) + 1))
   refine m_f2 ?_
   refine m_f2 ?_
   refine m_join (ownL (keptR 141) (M3 ++ [(⟨(rNum (rIter rSess i3 (rMany 4 Q2.2).2).2).1, (rNum (rNum (rIter rSess i3 (rMany 4 Q2.2).2).2).2).1, (rNum (rNum (rNum (rIter rSess i3 (rMany 4 Q2.2).2).2).2).2).1, (rNum (rNum (rNum (rNum (rIter rSess i3 (rMany 4 Q2.2).2).2).2).2).2).1, ⟨A4x, c4x, (rIter rKept (rMany 4 (rNum (rNum (rNum (rNum (rIter rSess i3 (rMany 4 Q2.2).2).2).2).2).2).2).1.toNat (rMany 4 (rNum (rNum (rNum (rNum (rIter rSess i3 (rMany 4 Q2.2).2).2).2).2).2).2).2).1⟩⟩ : CSession)])) (ownL_app_fp (keptR 141) M3 (⟨(rNum (rIter rSess i3 (rMany 4 Q2.2).2).2).1, (rNum (rNum (rIter rSess i3 (rMany 4 Q2.2).2).2).2).1, (rNum (rNum (rNum (rIter rSess i3 (rMany 4 Q2.2).2).2).2).2).1, (rNum (rNum (rNum (rNum (rIter rSess i3 (rMany 4 Q2.2).2).2).2).2).2).1, ⟨A4x, c4x, (rIter rKept (rMany 4 (rNum (rNum (rNum (rNum (rIter rSess i3 (rMany 4 Q2.2).2).2).2).2).2).2).1.toNat (rMany 4 (rNum (rNum (rNum (rNum (rIter rSess i3 (rMany 4 Q2.2).2).2).2).2).2).2).2).1⟩⟩ : CSession)) (fun w => ownL_app_p (keptR 141) M3 (⟨(rNum (rIter rSess i3 (rMany 4 Q2.2).2).2).1, (rNum (rNum (rIter rSess i3 (rMany 4 Q2.2).2).2).2).1, (rNum (rNum (rNum (rIter rSess i3 (rMany 4 Q2.2).2).2).2).2).1, (rNum (rNum (rNum (rNum (rIter rSess i3 (rMany 4 Q2.2).2).2).2).2).2).1, ⟨A4x, c4x, (rIter rKept (rMany 4 (rNum (rNum (rNum (rNum (rIter rSess i3 (rMany 4 Q2.2).2).2).2).2).2).2).1.toNat (rMany 4 (rNum (rNum (rNum (rNum (rIter rSess i3 (rMany 4 Q2.2).2).2).2).2).2).2).2).1⟩⟩ : CSession) w) ?_
   refine m_f4 (m_f4 (m_f4 (m_f4 (m_f4 ?_))))
   exact on4 ⟨i3 + 1, A31, c31, M3 ++ [(⟨(rNum (rIter rSess i3 (rMany 4 Q2.2).2).2).1, (rNum (rNum (rIter rSess i3 (rMany 4 Q2.2).2).2).2).1, (rNum (rNum (rNum (rIter rSess i3 (rMany 4 Q2.2).2).2).2).2).1, (rNum (rNum (rNum (rNum (rIter rSess i3 (rMany 4 Q2.2).2).2).2).2).2).1, ⟨A4x, c4x, (rIter rKept (rMany 4 (rNum (rNum (rNum (rNum (rIter rSess i3 (rMany 4 Q2.2).2).2).2).2).2).2).1.toNat (rMany 4 (rNum (rNum (rNum (rNum (rIter rSess i3 (rMany 4 Q2.2).2).2).2).2).2).2).2).1⟩⟩ : CSession)]⟩ ⟨(by show i3 + 1 ≤ (rMany 4 Q2.2).1.toNat; omega), (by rw [List.map_append, h3m]; exact congrArg (fun z => (rIter rSess i3 (rMany 4 Q2.2).2).1 ++ [z]) (show CSession.abs (⟨(rNum (rIter rSess i3 (rMany 4 Q2.2).2).2).1, (rNum (rNum (rIter rSess i3 (rMany 4 Q2.2).2).2).2).1, (rNum (rNum (rNum (rIter rSess i3 (rMany 4 Q2.2).2).2).2).2).1, (rNum (rNum (rNum (rNum (rIter rSess i3 (rMany 4 Q2.2).2).2).2).2).2).1, ⟨A4x, c4x, (rIter rKept (rMany 4 (rNum (rNum (rNum (rNum (rIter rSess i3 (rMany 4 Q2.2).2).2).2).2).2).2).1.toNat (rMany 4 (rNum (rNum (rNum (rNum (rIter rSess i3 (rMany 4 Q2.2).2).2).2).2).2).2).2).1⟩⟩ : CSession) = (rSess (rIter rSess i3 (rMany 4 Q2.2).2).2).1 from rfl)), (fun x hx => by rcases List.mem_append.1 hx with hx | hx; exact h3s x hx; rw [List.mem_singleton] at hx; subst hx; exact h4s)⟩ (by show (rMany 4 Q2.2).1.toNat - (i3 + 1) < (rMany 4 Q2.2).1.toNat - i3; omega)
 refine Mo 1 ?_ Tryz.call159 (fun bs w hS hb => ear_num (rIter rKept i4 (rMany 4 (rNum (rNum (rNum (rNum (rIter rSess i3 (rMany 4 Q2.2).2).2).2).2).2).2).2).2 (bs.getD 1 0) w hb (rIter_bd (B := 9223372036854775807) (fun q h => rKept_bd q _ h) i4 (rMany 4 (rNum (rNum (rNum (rNum (rIter rSess i3 (rMany 4 Q2.2).2).2).2).2).2).2).2 (rMany_bd 4 (rNum (rNum (rNum (rNum (rIter rSess i3 (rMany 4 Q2.2).2).2).2).2).2).2 _ (rNum_bd (rNum (rNum (rNum (rIter rSess i3 (rMany 4 Q2.2).2).2).2).2).2 _ (rNum_bd (rNum (rNum (rIter rSess i3 (rMany 4 Q2.2).2).2).2).2 _ (rNum_bd (rNum (rIter rSess i3 (rMany 4 Q2.2).2).2).2 _ (rNum_bd (rIter rSess i3 (rMany 4 Q2.2).2).2 _ (rIter_bd (B := 9223372036854775807) (fun q h => rSess_bd q _ h) i3 (rMany 4 Q2.2).2 (rMany_bd 4 Q2.2 _ hzQ2)))))))))
 rintro y _
 refine Mo 1 ?_ Tryz.call159 (fun bs w hS hb => ear_num (rNum (rIter rKept i4 (rMany 4 (rNum (rNum (rNum (rNum (rIter rSess i3 (rMany 4 Q2.2).2).2).2).2).2).2).2).2).2 (bs.getD 1 0) w hb (rNum_bd (rIter rKept i4 (rMany 4 (rNum (rNum (rNum (rNum (rIter rSess i3 (rMany 4 Q2.2).2).2).2).2).2).2).2).2 _ (rIter_bd (B := 9223372036854775807) (fun q h => rKept_bd q _ h) i4 (rMany 4 (rNum (rNum (rNum (rNum (rIter rSess i3 (rMany 4 Q2.2).2).2).2).2).2).2).2 (rMany_bd 4 (rNum (rNum (rNum (rNum (rIter rSess i3 (rMany 4 Q2.2).2).2).2).2).2).2 _ (rNum_bd (rNum (rNum (rNum (rIter rSess i3 (rMany 4 Q2.2).2).2).2).2).2 _ (rNum_bd (rNum (rNum (rIter rSess i3 (rMany 4 Q2.2).2).2).2).2 _ (rNum_bd (rNum (rIter rSess i3 (rMany 4 Q2.2).2).2).2 _ (rNum_bd (rIter rSess i3 (rMany 4 Q2.2).2).2 _ (rIter_bd (B := 9223372036854775807) (fun q h => rSess_bd q _ h) i3 (rMany 4 Q2.2).2 (rMany_bd 4 Q2.2 _ hzQ2))))))))))
 rintro y _
 refine Mo 1 ?_ Tryz.call159 (fun bs w hS hb => ear_num (rNum (rNum (rIter rKept i4 (rMany 4 (rNum (rNum (rNum (rNum (rIter rSess i3 (rMany 4 Q2.2).2).2).2).2).2).2).2).2).2).2 (bs.getD 1 0) w hb (rNum_bd (rNum (rIter rKept i4 (rMany 4 (rNum (rNum (rNum (rNum (rIter rSess i3 (rMany 4 Q2.2).2).2).2).2).2).2).2).2).2 _ (rNum_bd (rIter rKept i4 (rMany 4 (rNum (rNum (rNum (rNum (rIter rSess i3 (rMany 4 Q2.2).2).2).2).2).2).2).2).2 _ (rIter_bd (B := 9223372036854775807) (fun q h => rKept_bd q _ h) i4 (rMany 4 (rNum (rNum (rNum (rNum (rIter rSess i3 (rMany 4 Q2.2).2).2).2).2).2).2).2 (rMany_bd 4 (rNum (rNum (rNum (rNum (rIter rSess i3 (rMany 4 Q2.2).2).2).2).2).2).2 _ (rNum_bd (rNum (rNum (rNum (rIter rSess i3 (rMany 4 Q2.2).2).2).2).2).2 _ (rNum_bd (rNum (rNum (rIter rSess i3 (rMany 4 Q2.2).2).2).2).2 _ (rNum_bd (rNum (rIter rSess i3 (rMany 4 Q2.2).2).2).2 _ (rNum_bd (rIter rSess i3 (rMany 4 Q2.2).2).2 _ (rIter_bd (B := 9223372036854775807) (fun q h => rSess_bd q _ h) i3 (rMany 4 Q2.2).2 (rMany_bd 4 Q2.2 _ hzQ2)))))))))))
 rintro y _
 refine Mo 1 ?_ Tryz.call161 (fun bs w hS hb => ear_str (rNum (rNum (rNum (rIter rKept i4 (rMany 4 (rNum (rNum (rNum (rNum (rIter rSess i3 (rMany 4 Q2.2).2).2).2).2).2).2).2).2).2).2).2 (bs.getD 1 0) w hb (rNum_bd (rNum (rNum (rIter rKept i4 (rMany 4 (rNum (rNum (rNum (rNum (rIter rSess i3 (rMany 4 Q2.2).2).2).2).2).2).2).2).2).2).2 _ (rNum_bd (rNum (rIter rKept i4 (rMany 4 (rNum (rNum (rNum (rNum (rIter rSess i3 (rMany 4 Q2.2).2).2).2).2).2).2).2).2).2 _ (rNum_bd (rIter rKept i4 (rMany 4 (rNum (rNum (rNum (rNum (rIter rSess i3 (rMany 4 Q2.2).2).2).2).2).2).2).2).2 _ (rIter_bd (B := 9223372036854775807) (fun q h => rKept_bd q _ h) i4 (rMany 4 (rNum (rNum (rNum (rNum (rIter rSess i3 (rMany 4 Q2.2).2).2).2).2).2).2).2 (rMany_bd 4 (rNum (rNum (rNum (rNum (rIter rSess i3 (rMany 4 Q2.2).2).2).2).2).2).2 _ (rNum_bd (rNum (rNum (rNum (rIter rSess i3 (rMany 4 Q2.2).2).2).2).2).2 _ (rNum_bd (rNum (rNum (rIter rSess i3 (rMany 4 Q2.2).2).2).2).2 _ (rNum_bd (rNum (rIter rSess i3 (rMany 4 Q2.2).2).2).2 _ (rNum_bd (rIter rSess i3 (rMany 4 Q2.2).2).2 _ (rIter_bd (B := 9223372036854775807) (fun q h => rSess_bd q _ h) i3 (rMany 4 Q2.2).2 (rMany_bd 4 Q2.2 _ hzQ2))))))))))))
 rintro y _
 refine M1 ?_
 refine Mal (α := DKept) 40 ([(⟨(rNum (rIter rKept i4 (rMany 4 (rNum (rNum (rNum (rNum (rIter rSess i3 (rMany 4 Q2.2).2).2).2).2).2).2).2).2).1, ⟨(rNum (rNum (rIter rKept i4 (rMany 4 (rNum (rNum (rNum (rNum (rIter rSess i3 (rMany 4 Q2.2).2).2).2).2).2).2).2).2).2).1, (rNum (rNum (rNum (rIter rKept i4 (rMany 4 (rNum (rNum (rNum (rNum (rIter rSess i3 (rMany 4 Q2.2).2).2).2).2).2).2).2).2).2).2).1, (rTxt (rNum (rNum (rNum (rIter rKept i4 (rMany 4 (rNum (rNum (rNum (rNum (rIter rSess i3 (rMany 4 Q2.2).2).2).2).2).2).2).2).2).2).2).2).1⟩⟩ : DKept)]) ?_
 intro A30 c30
 refine Mi ?_ (pR ((i4 : Int) + 1))
 refine m_f5 (m_f5 (m_f5 (m_f5 (m_f5 (m_f5 ?_)))))
 exact on5 ⟨i4 + 1, A30, c30⟩ ⟨(by show i4 + 1 ≤ (rMany 4 (rNum (rNum (rNum (rNum (rIter rSess i3 (rMany 4 Q2.2).2).2).2).2).2).2).1.toNat; omega), (fun x hx => by rcases List.mem_append.1 hx with hx | hx; exact h4s x hx; rw [List.mem_singleton] at hx; subst hx; exact (rTxt_bd (rNum (rNum (rNum (rIter rKept i4 (rMany 4 (rNum (rNum (rNum (rNum (rIter rSess i3 (rMany 4 Q2.2).2).2).2).2).2).2).2).2).2).2).2 _ (rNum_bd (rNum (rNum (rIter rKept i4 (rMany 4 (rNum (rNum (rNum (rNum (rIter rSess i3 (rMany 4 Q2.2).2).2).2).2).2).2).2).2).2).2 _ (rNum_bd (rNum (rIter rKept i4 (rMany 4 (rNum (rNum (rNum (rNum (rIter rSess i3 (rMany 4 Q2.2).2).2).2).2).2).2).2).2).2 _ (rNum_bd (rIter rKept i4 (rMany 4 (rNum (rNum (rNum (rNum (rIter rSess i3 (rMany 4 Q2.2).2).2).2).2).2).2).2).2 _ (rIter_bd (B := 9223372036854775807) (fun q h => rKept_bd q _ h) i4 (rMany 4 (rNum (rNum (rNum (rNum (rIter rSess i3 (rMany 4 Q2.2).2).2).2).2).2).2).2 (rMany_bd 4 (rNum (rNum (rNum (rNum (rIter rSess i3 (rMany 4 Q2.2).2).2).2).2).2).2 _ (rNum_bd (rNum (rNum (rNum (rIter rSess i3 (rMany 4 Q2.2).2).2).2).2).2 _ (rNum_bd (rNum (rNum (rIter rSess i3 (rMany 4 Q2.2).2).2).2).2 _ (rNum_bd (rNum (rIter rSess i3 (rMany 4 Q2.2).2).2).2 _ (rNum_bd (rIter rSess i3 (rMany 4 Q2.2).2).2 _ (rIter_bd (B := 9223372036854775807) (fun q h => rSess_bd q _ h) i3 (rMany 4 Q2.2).2 (rMany_bd 4 Q2.2 _ hzQ2)))))))))))).2)⟩ (by show (rMany 4 (rNum (rNum (rNum (rNum (rIter rSess i3 (rMany 4 Q2.2).2).2).2).2).2).2).1.toNat - (i4 + 1) < (rMany 4 (rNum (rNum (rNum (rNum (rIter rSess i3 (rMany 4 Q2.2).2).2).2).2).2).2).1.toNat - i4; omega)

theorem same_state {B B' : Nat → Prop} (a b : CState) (w : World) (ha : Rds.sub B w a) (hb : Rds.sub B' w b) (he : a.abs = b.abs) : Calls Tryz.prog 9 #[a.val, b.val] w fun e w' => e = .returned (vb true) ∧ Kp [] w w' := by
 have oka := Rds.okof ha
 have okb := Rds.okof hb
 refine M0 ?_ Tryz.func9
 refine Md (a.index = b.index) (fun h1 => ?_) fun h1 => ?_
 rotate_left
 · exact absurd (congrArg (fun q => q.index) he) h1
 refine Mp ?_ Tryz.call43 (fun bs w hS => same_locks _ _ w (Rds.kp ha hS.kp).1 (Rds.kp hb hS.kp).1 (congrArg DState.locks he))
 refine Mq 17 true ?_ rfl
 refine Mp ?_ Tryz.call44 (fun bs w hS => same_pairs a.pairs b.pairs w (Rds.kp ha hS.kp).2.1 (Rds.kp hb hS.kp).2.1 (congrArg DState.pairs he))
 refine Mq 24 true ?_ rfl
 refine Mp ?_ Tryz.call45 (fun bs w hS => same_sessions _ _ w (Rds.kp ha hS.kp).2.2 (Rds.kp hb hS.kp).2.2 (congrArg DState.sessions he))
 exact Mt [vb true] fun bs w hS => ⟨rfl, hS.kp⟩

theorem repl_kept_ {B : Nat → Prop} (x : CReplica) (w : World) (hx : Rds.sub B w x) : Calls Tryz.prog 111 #[x.val] w fun e w' => ∃ y : CState, e = .returned (.tuple #[y.val, vi (mKeptS x.abs).2]) ∧ y.abs = (mKeptS x.abs).1 ∧ FreshS w w' y := by
 have qL : x.abs.log = x.log.abs := rfl
 have qS : x.abs.state = x.state.abs := rfl
 have qN : x.abs.snap = x.snap := rfl
 have qB : x.abs.log.base = x.log.base := rfl
 have qI : x.abs.state.index = x.state.index := rfl
 have qM : mLast x.abs.log = x.log.base + (x.log.entries.n : Int) := rfl
 have okx := Rds.okof hx
 have okl := okx.2.1
 have ncx := Sl.ok.nc okl
 have hnx : x.log.entries.n = x.log.entries.xs.length := rfl
 refine M0 ?_ Tryz.func111
 refine Md (x.log.base = 0) (fun h1 => ?_) fun h1 => ?_
 · refine Mdn (x.snap = emp) (fun h2 => ?_) fun h2 => ?_
   · exact Me2 (keptS_none (r := x.abs) h1 h2) (⟨0, Sl.nil, Sl.nil, Sl.nil⟩ : CState) rfl fun bs w hS => hS.outS (y := (⟨0, Sl.nil, Sl.nil, Sl.nil⟩ : CState)) ⟨Sl.rd_nil _ _, Sl.rd_nil _ _, Sl.rd_nil _ _⟩
   exact Me2 (keptS_some (r := x.abs) h1 h2) (⟨0, Sl.nil, Sl.nil, Sl.nil⟩ : CState) rfl fun bs w hS => hS.outS (y := (⟨0, Sl.nil, Sl.nil, Sl.nil⟩ : CState)) ⟨Sl.rd_nil _ _, Sl.rd_nil _ _, Sl.rd_nil _ _⟩
 refine Mu ?_ Tryz.call156 (fun bs w hS => snap_Decode x.snap w okx.1)
 rintro fp1 y1 hF1 hok1
 refine Mdn ((mUnsnap x.snap).2 = 0) (fun h3 => ?_) fun h3 => ?_
 rotate_left
 · exact Me2 (keptS_bad (r := x.abs) h1 h3) (⟨0, Sl.nil, Sl.nil, Sl.nil⟩ : CState) rfl fun bs w hS => hS.outS (y := (⟨0, Sl.nil, Sl.nil, Sl.nil⟩ : CState)) ⟨Sl.rd_nil _ _, Sl.rd_nil _ _, Sl.rd_nil _ _⟩
 refine Mdn (y1.index = x.log.base) (fun h4 => ?_) fun h4 => ?_
 rotate_left
 · exact Me2 (keptS_off (r := x.abs) (i := y1.index) h1 (show y1.index = (mUnsnap x.abs.snap).1.index from congrArg DState.index hF1) h4) (⟨0, Sl.nil, Sl.nil, Sl.nil⟩ : CState) rfl fun bs w hS => hS.outS (y := (⟨0, Sl.nil, Sl.nil, Sl.nil⟩ : CState)) ⟨Sl.rd_nil _ _, Sl.rd_nil _ _, Sl.rd_nil _ _⟩
 exact Me2 (keptS_ok (r := x.abs) (i := y1.index) h1 h3 (show y1.index = (mUnsnap x.abs.snap).1.index from congrArg DState.index hF1) h4) y1 (hF1) fun bs w hS => hS.outS (allR_sub i0 (hS.res _ i0))

theorem replica_Check {B : Nat → Prop} (x : CReplica) (w : World) (hx : Rds.sub B w x) : Calls Tryz.prog 47 #[x.val] w fun e w' => e = .returned (vi (mReplica x.abs)) ∧ Kp [] w w' := by
 have qL : x.abs.log = x.log.abs := rfl
 have qS : x.abs.state = x.state.abs := rfl
 have qN : x.abs.snap = x.snap := rfl
 have qB : x.abs.log.base = x.log.base := rfl
 have qI : x.abs.state.index = x.state.index := rfl
 have qM : mLast x.abs.log = x.log.base + (x.log.entries.n : Int) := rfl
 have okx := Rds.okof hx
 have okl := okx.2.1
 have ncx := Sl.ok.nc okl
 have hnx : x.log.entries.n = x.log.entries.xs.length := rfl
 refine M0 ?_ Tryz.func47
 refine Mp ?_ Tryz.call110 (fun bs w hS => log_Check x.log w (Rds.kp hx hS.kp).2.1)
 refine Mdn (mLog x.log.abs = 0) (fun h1 => ?_) fun h1 => ?_
 rotate_left
 · exact Me0 (mLog x.log.abs) (repl_log (r := x.abs) h1)
 obtain ⟨hb1, hb2, hb3, hb4⟩ := mLog_bd h1
 have hb5 : x.log.abs.base = x.log.base := rfl
 have hb6 : x.log.abs.entries = x.log.entries.xs := rfl
 rw [hb5] at hb1 hb2
 rw [hb6] at hb3
 refine Mp ?_ Tryz.call20 (fun bs w hS => machine_Check x.state w ⟨(Rds.kp hx hS.kp).2.2.1, (Rds.kp hx hS.kp).2.2.2.1, (Rds.kp hx hS.kp).2.2.2.2⟩)
 refine Mdn (mState x.state.abs = 0) (fun h2 => ?_) fun h2 => ?_
 rotate_left
 · exact Me0 (mState x.state.abs) (repl_state (r := x.abs) h1 h2)
 refine Mda 16 [] [] [] Tryz_mixed ?_
 refine Md (x.state.index < x.log.base) (fun h3 => ?_) fun h3 => ?_
 · exact Me0 9 (repl_out (r := x.abs) h1 h2 (by rw [qI, qB, qM]; omega))
 refine Mp ?_ Tryz.call49 (fun bs w hS => log_Last x.log w (Rds.kp hx hS.kp).2.1 (by first | exact ⟨by omega, by omega, by omega⟩ | omega))
 refine Md (x.log.base + (x.log.entries.n : Int) < x.state.index) (fun h4 => ?_) fun h4 => ?_
 · exact Me0 9 (repl_out (r := x.abs) h1 h2 (by rw [qI, qB, qM]; omega))
 refine Mu ?_ Tryz.call111 (fun bs w hS => repl_kept_ x w (Rds.kp hx hS.kp))
 rintro fp1 y1 hF1 hok1
 exact Me0 ((mKeptS x.abs).2) (repl_kept (r := x.abs) h1 h2 (by rw [qI, qB, qM]; omega))

theorem ref_ReplicaFault {B : Nat → Prop} (x : CReplica) (w : World) (hx : Rds.sub B w x) : Calls Tryz.prog 50 #[x.val] w fun e w' => e = .returned (vi (mReplica x.abs)) ∧ Kp [] w w' := by
 have qL : x.abs.log = x.log.abs := rfl
 have qS : x.abs.state = x.state.abs := rfl
 have qN : x.abs.snap = x.snap := rfl
 have qB : x.abs.log.base = x.log.base := rfl
 have qI : x.abs.state.index = x.state.index := rfl
 have qM : mLast x.abs.log = x.log.base + (x.log.entries.n : Int) := rfl
 have okx := Rds.okof hx
 have okl := okx.2.1
 have ncx := Sl.ok.nc okl
 have hnx : x.log.entries.n = x.log.entries.xs.length := rfl
 refine M0 ?_ Tryz.func50
 refine Mp ?_ Tryz.call113 (fun bs w hS => ref_LogFault x.log w (Rds.kp hx hS.kp).2.1)
 refine Md (mLog x.log.abs = 0) (fun h1 => ?_) fun h1 => ?_
 rotate_left
 · refine My false true ?_ (df h1)
   exact Me0 (mLog x.log.abs) (repl_log (r := x.abs) h1)
 obtain ⟨hb1, hb2, hb3, hb4⟩ := mLog_bd h1
 have hb5 : x.log.abs.base = x.log.base := rfl
 have hb6 : x.log.abs.entries = x.log.entries.xs := rfl
 rw [hb5] at hb1 hb2
 rw [hb6] at hb3
 refine Mp ?_ Tryz.call30 (fun bs w hS => ref_StateFault x.state w ⟨(Rds.kp hx hS.kp).2.2.1, (Rds.kp hx hS.kp).2.2.2.1, (Rds.kp hx hS.kp).2.2.2.2⟩)
 refine Mdn (mState x.state.abs = 0) (fun h2 => ?_) fun h2 => ?_
 rotate_left
 · exact Me0 (mState x.state.abs) (repl_state (r := x.abs) h1 h2)
 refine Mda 11 [] [] [] Tryz_mixed ?_
 refine Mp ?_ Tryz.call52 (fun bs w hS => ref_LastOf x.log w (Rds.kp hx hS.kp).2.1 (by first | exact ⟨by omega, by omega, by omega⟩ | omega))
 refine Mp ?_ Tryz.call51 (fun bs w hS => ref_In x.state.index x.log.base (x.log.base + (x.log.entries.n : Int)) w)
 refine Mbn (inB x.state.index x.log.base (x.log.base + (x.log.entries.n : Int))) (fun h3 => ?_) fun h3 => ?_
 rotate_left
 · simp only [iT, iF] at h3
   exact Me0 9 (repl_out (r := x.abs) h1 h2 (by (try simp only [iT, iF] at h3); rw [qI, qB, qM]; omega))
 simp only [iT, iF] at h3
 refine Md (x.log.base = 0) (fun h4 => ?_) fun h4 => ?_
 · refine Mdn (x.snap = emp) (fun h5 => ?_) fun h5 => ?_
   rotate_left
   · refine Me0 9 ?_
     have hm := repl_kept (r := x.abs) h1 h2 (by (try simp only [iT, iF] at h3); rw [qI, qB, qM]; omega)
     have hk := keptS_some (r := x.abs) h4 h5
     rw [hm, hk]
   have hzh5 : x.snap.size = 0 := by rw [h5]; rfl
   refine Me0 0 ?_
   have hm := repl_kept (r := x.abs) h1 h2 (by (try simp only [iT, iF] at h3); rw [qI, qB, qM]; omega)
   have hk := keptS_none (r := x.abs) h4 h5
   rw [hm, hk]
 refine Mu ?_ Tryz.call114 (fun bs w hS => ref_SnapOf x.snap w okx.1)
 rintro fp1 y1 hF1 hok1
 refine Mdn ((mUnsnap x.snap).2 = 0) (fun h6 => ?_) fun h6 => ?_
 rotate_left
 · refine Me0 9 ?_
   have hm := repl_kept (r := x.abs) h1 h2 (by (try simp only [iT, iF] at h3); rw [qI, qB, qM]; omega)
   have hk := keptS_bad (r := x.abs) h4 h6
   rw [hm, hk]
 refine Mdn (y1.index = x.log.base) (fun h7 => ?_) fun h7 => ?_
 rotate_left
 · refine Me0 9 ?_
   have hm := repl_kept (r := x.abs) h1 h2 (by (try simp only [iT, iF] at h3); rw [qI, qB, qM]; omega)
   have hk := keptS_off (r := x.abs) (i := y1.index) h4 (show y1.index = (mUnsnap x.abs.snap).1.index from congrArg DState.index hF1) h7
   rw [hm, hk]
 refine Me0 0 ?_
 have hm := repl_kept (r := x.abs) h1 h2 (by (try simp only [iT, iF] at h3); rw [qI, qB, qM]; omega)
 have hk := keptS_ok (r := x.abs) (i := y1.index) h4 h6 (show y1.index = (mUnsnap x.abs.snap).1.index from congrArg DState.index hF1) h7
 rw [hm, hk]

theorem ref_StateCopy {B : Nat → Prop} (x : CState) (w : World) (hx : Rds.sub B w x) (hsm : Rds.small x) : Calls Tryz.prog 6 #[x.val] w fun e w' => ∃ y : CState, e = .returned (y.val) ∧ y.abs = x.abs ∧ FreshS w w' y := by
 have okx := Rds.okof hx
 have hsp : x.pairs.xs.length * 40 ≤ 140737488355328 := hsm.2.1.1
 refine M0 ?_ Tryz.func6
 refine Mda 12 [] [] [] Tryz_mixed ?_
 refine Mu ?_ Tryz.call18 (fun bs w hS => ref_LocksCopyS x.locks w (Rds.kp hx hS.kp).1 hsm.1)
 rintro fp1 y1 hF1 hok1
 refine m_rowA (α := DPair) 128 ?_
 refine Ma ?_ (α := DPair) (L2 := x.pairs.xs) 40 (fun bs w hS => Sl.rd.src (s := x.pairs) (Rds.kp hx hS.kp).2.1)
 intro A2 c2
 refine Mu ?_ Tryz.call19 (fun bs w hS => ref_SessionsCopyS x.sessions w (Rds.kp hx hS.kp).2.2 hsm.2.2)
 rintro fp3 y3 hF3 hok3
 refine Mt [.agg #[vi x.index, y1.val, .slice A2 ([] ++ x.pairs.xs).length c2, y3.val]] fun bs w hS => ?_
 have hab : CState.abs (⟨x.index, y1, ⟨A2, c2, [] ++ x.pairs.xs⟩, y3⟩ : CState) = CState.abs x := by simp [CState.abs, *]
 exact ⟨(⟨x.index, y1, ⟨A2, c2, [] ++ x.pairs.xs⟩, y3⟩ : CState), rfl, hab, hS.outS (y := (⟨x.index, y1, ⟨A2, c2, [] ++ x.pairs.xs⟩, y3⟩ : CState)) ⟨(allR_sub i2 (hS.res _ i2)), (allR_row i1 (hS.res _ i1) (fun z hz => Sl.rd.mem (s := x.pairs) (Rds.kp hx hS.kp).2.1 z (by simpa using hz))), (allR_sub i0 (hS.res _ i0))⟩⟩

theorem machine_Copy {B : Nat → Prop} (x : CState) (w : World) (hx : Rds.sub B w x) (hsm : Rds.small x) : Calls Tryz.prog 22 #[x.val] w fun e w' => ∃ y : CState, e = .returned (y.val) ∧ y.abs = x.abs ∧ FreshS w w' y := by
 have okx := Rds.okof hx
 refine M0 ?_ Tryz.func22
 refine Mda 12 [] [] [] Tryz_mixed ?_
 refine Mu ?_ Tryz.call68 (fun bs w hS => lock_CopyS x.locks w (Rds.kp hx hS.kp).1 hsm.1)
 rintro fp1 y1 hF1 hok1
 refine Mf ?_ Tryz.call69 (fun bs w hS => clone_Pair x.pairs w (Rds.kp hx hS.kp).2.1 hsm.2.1.1)
 rintro y2 hF2
 refine Mu ?_ Tryz.call70 (fun bs w hS => session_CopyS x.sessions w (Rds.kp hx hS.kp).2.2 hsm.2.2)
 rintro fp4 y4 hF4 hok4
 refine Mt [.agg #[vi x.index, y1.val, y2.val, y4.val]] fun bs w hS => ?_
 have hab : CState.abs (⟨x.index, y1, y2, y4⟩ : CState) = CState.abs x := by simp [CState.abs, *]
 exact ⟨(⟨x.index, y1, y2, y4⟩ : CState), rfl, hab, hS.outS (y := (⟨x.index, y1, y2, y4⟩ : CState)) ⟨(allR_sub i2 (hS.res _ i2)), (allR_row i1 (hS.res _ i1) (fun z hz => Sl.rd.mem (Rds.kp hx hS.kp).2.1 z (hF2 ▸ hz))), (allR_sub i0 (hS.res _ i0))⟩⟩

theorem ref_ReplicaCopy {B : Nat → Prop} (x : CReplica) (w : World) (hx : Rds.sub B w x) (hsm : Rds.small x) : Calls Tryz.prog 10 #[x.val] w fun e w' => ∃ y : CReplica, e = .returned (y.val) ∧ y.abs = x.abs ∧ FreshS w w' y := by
 have okx := Rds.okof hx
 refine M0 ?_ Tryz.func10
 refine Mda 9 [] [] [] Tryz_mixed ?_
 refine Mu ?_ Tryz.call46 (fun bs w hS => ref_LogCopy x.log w (Rds.kp hx hS.kp).2.1 hsm.1)
 rintro fp1 y1 hF1 hok1
 refine Mu ?_ Tryz.call6 (fun bs w hS => ref_StateCopy x.state w ⟨(Rds.kp hx hS.kp).2.2.1, (Rds.kp hx hS.kp).2.2.2.1, (Rds.kp hx hS.kp).2.2.2.2⟩ ⟨hsm.2.1, hsm.2.2.1, hsm.2.2.2⟩)
 rintro fp2 y2 hF2 hok2
 refine Mt [.agg #[vi y1.base, y1.entries.val, vs x.snap, vi y2.index, y2.locks.val, y2.pairs.val, y2.sessions.val]] fun bs w hS => ?_
 have hab : CReplica.abs (⟨⟨y1.base, y1.entries⟩, x.snap, ⟨y2.index, y2.locks, y2.pairs, y2.sessions⟩⟩ : CReplica) = CReplica.abs x := by simp [CReplica.abs, *]
 exact ⟨(⟨⟨y1.base, y1.entries⟩, x.snap, ⟨y2.index, y2.locks, y2.pairs, y2.sessions⟩⟩ : CReplica), rfl, hab, hS.outS (y := (⟨⟨y1.base, y1.entries⟩, x.snap, ⟨y2.index, y2.locks, y2.pairs, y2.sessions⟩⟩ : CReplica)) ⟨okx.1, (allR_sub (y := y1) i1 (hS.res _ i1)), (allR_sub (y := y2) i0 (hS.res _ i0)).1, (allR_sub (y := y2) i0 (hS.res _ i0)).2.1, (allR_sub (y := y2) i0 (hS.res _ i0)).2.2⟩⟩

theorem replica_Copy {B : Nat → Prop} (x : CReplica) (w : World) (hx : Rds.sub B w x) (hsm : Rds.small x) : Calls Tryz.prog 48 #[x.val] w fun e w' => ∃ y : CReplica, e = .returned (y.val) ∧ y.abs = x.abs ∧ FreshS w w' y := by
 have okx := Rds.okof hx
 refine M0 ?_ Tryz.func48
 refine Mda 9 [] [] [] Tryz_mixed ?_
 refine Mu ?_ Tryz.call112 (fun bs w hS => log_Copy x.log w (Rds.kp hx hS.kp).2.1 hsm.1)
 rintro fp1 y1 hF1 hok1
 refine Mu ?_ Tryz.call22 (fun bs w hS => machine_Copy x.state w ⟨(Rds.kp hx hS.kp).2.2.1, (Rds.kp hx hS.kp).2.2.2.1, (Rds.kp hx hS.kp).2.2.2.2⟩ ⟨hsm.2.1, hsm.2.2.1, hsm.2.2.2⟩)
 rintro fp2 y2 hF2 hok2
 refine Mt [.agg #[vi y1.base, y1.entries.val, vs x.snap, vi y2.index, y2.locks.val, y2.pairs.val, y2.sessions.val]] fun bs w hS => ?_
 have hab : CReplica.abs (⟨⟨y1.base, y1.entries⟩, x.snap, ⟨y2.index, y2.locks, y2.pairs, y2.sessions⟩⟩ : CReplica) = CReplica.abs x := by simp [CReplica.abs, *]
 exact ⟨(⟨⟨y1.base, y1.entries⟩, x.snap, ⟨y2.index, y2.locks, y2.pairs, y2.sessions⟩⟩ : CReplica), rfl, hab, hS.outS (y := (⟨⟨y1.base, y1.entries⟩, x.snap, ⟨y2.index, y2.locks, y2.pairs, y2.sessions⟩⟩ : CReplica)) ⟨okx.1, (allR_sub (y := y1) i1 (hS.res _ i1)), (allR_sub (y := y2) i0 (hS.res _ i0)).1, (allR_sub (y := y2) i0 (hS.res _ i0)).2.1, (allR_sub (y := y2) i0 (hS.res _ i0)).2.2⟩⟩

theorem same_replica {B B' : Nat → Prop} (a b : CReplica) (w : World) (ha : Rds.sub B w a) (hb : Rds.sub B' w b) (he : a.abs = b.abs) : Calls Tryz.prog 13 #[a.val, b.val] w fun e w' => e = .returned (vb true) ∧ Kp [] w w' := by
 have oka := Rds.okof ha
 have okb := Rds.okof hb
 refine M0 ?_ Tryz.func13
 refine Md (a.snap = b.snap) (fun h1 => ?_) fun h1 => ?_
 rotate_left
 · exact absurd (congrArg (fun q => q.snap) he) h1
 refine Mp ?_ Tryz.call53 (fun bs w hS => same_log a.log b.log w (Rds.kp ha hS.kp).2.1 (Rds.kp hb hS.kp).2.1 (congrArg DReplica.log he))
 refine Mq 17 true ?_ rfl
 refine Mp ?_ Tryz.call9 (fun bs w hS => same_state a.state b.state w ⟨(Rds.kp ha hS.kp).2.2.1, (Rds.kp ha hS.kp).2.2.2.1, (Rds.kp ha hS.kp).2.2.2.2⟩ ⟨(Rds.kp hb hS.kp).2.2.1, (Rds.kp hb hS.kp).2.2.2.1, (Rds.kp hb hS.kp).2.2.2.2⟩ (congrArg DReplica.state he))
 exact Mt [vb true] fun bs w hS => ⟨rfl, hS.kp⟩

theorem idxF_Session {B : Nat → Prop} (s : Sl (Fl CSession)) (p : Fl CSession → Bool) (kf : Nat) (caps : Array Value) (w : World) (hs : s.rd B w) (hcall : ∀ args w, (callFunc kf args).run Tryz.prog w = .ok (.enter kf args) w)
    (hf : ∀ (w' : World) (x : (Fl CSession)), x ∈ s.xs → Kp [] w w' → Calls Tryz.prog kf (#[x.v.val] ++ caps) w' fun e w'' => e = .returned (vb (p x)) ∧ Kp [] w' w'') : Calls Tryz.prog 137 #[.slice s.A s.n s.c, .func (.func kf) #[] caps] w fun e w' => e = .returned (vi (mIdx p s.xs)) ∧ Kp [] w w' := by
 have oks := Sl.rd.ok hs
 have ncs := Sl.ok.nc oks
 have hns : s.n = s.xs.length := rfl
 refine M0 ?_ Tryz.func137
 refine Ml (σ := Nat) (fun i => i ≤ s.n ∧ ∀ j, j < i → p (s.at j) = false) (fun i => s.n - i) (fun _ => []) [8, 7, 0, 1] (fun i => [(8, vI (i : Int))]) (fun _ => []) ?_ 0 ⟨Nat.zero_le _, fun j hj => absurd hj (Nat.not_lt_zero _)⟩
 rintro i ⟨hi, hI⟩ _ on1
 refine Md ((i : Int) < (s.n : Int)) (fun h1 => ?_) (fun h1 => ?_)
 rotate_left
 · refine Mt [.int .i64 (-1)] fun bs w hS => ?_
   refine ⟨?_, hS.kp⟩
   rw [mIdx_none fun j hj => hI j (by omega)]
   rfl
 refine Mi ?_ (pA 14 15 (i : Int) i (rdk hs))
 refine Mv ?_ hcall (fun bs w hS => hf w (s.at i) (List.mem_of_getElem? (Sl.at_some (show i < s.n by omega))) hS.kp)
 refine Mb (p (s.at i)) (fun h2 => ?_) (fun h2 => ?_)
 · refine Mt [.int .i64 (i : Int)] fun bs w hS => ?_
   refine ⟨?_, hS.kp⟩
   rw [mIdx_here (i := i) (by omega) (by assumption) hI]
   rfl
 refine Mi ?_ (pR ((i : Int) + 1))
 exact on1 (i + 1) ⟨by omega, fun j hj => by rcases Nat.lt_succ_iff_lt_or_eq.1 hj with h | h; exact hI j h; subst h; assumption⟩ (by omega)
theorem idx_Session {B : Nat → Prop} (s : Sl CSession) (p : CSession → Bool) (kf : Nat) (caps : Array Value) (w : World) (hs : s.rd B w) (hcall : ∀ args w, (callFunc kf args).run Tryz.prog w = .ok (.enter kf args) w)
    (hf : ∀ (w' : World) (x : CSession), x ∈ s.xs → Kp [] w w' → Calls Tryz.prog kf (#[x.val] ++ caps) w' fun e w'' => e = .returned (vb (p x)) ∧ Kp [] w' w'') : Calls Tryz.prog 137 #[s.val, .func (.func kf) #[] caps] w fun e w' => e = .returned (vi (mIdx p s.xs)) ∧ Kp [] w w' := by
  have h := idxF_Session (⟨s.A, s.c, fls s.xs⟩ : Sl (Fl CSession)) (fun x => p x.v) kf caps w hs.fl hcall (fun w' x hx hk => hf w' x.v (by obtain ⟨y, hy, rfl⟩ := List.mem_map.1 hx; exact hy) hk)
  simp only [mIdx_fl, Sl.n, List.length_map] at h
  exact h

theorem delF_Session (A : Option Addr) (c : Nat) (L : List (Fl CSession)) (p : Fl CSession → Bool) (kf : Nat) (caps : Array Value) (w : World) (hrow : (rowA 118 A c L).p w) (hlt : ∀ b, b ∈ (rowA 118 A c L).fp → b < w.heap.size) (hn : L.length ≤ 1048576) (hcall : ∀ args w, (callFunc kf args).run Tryz.prog w = .ok (.enter kf args) w)
    (hf : ∀ (w' : World) (x : (Fl CSession)), x ∈ L → Kp (rowA 118 A c L).fp w w' → Calls Tryz.prog kf (#[x.v.val] ++ caps) w' fun e w'' => e = .returned (vb (p x)) ∧ Kp [] w' w'') :
    Calls Tryz.prog 71 #[.slice A L.length c, .func (.func kf) #[] caps] w fun e w' => e = .returned (.slice A (L.filter fun x => !p x).length c) ∧ Turned (rowA 118 A c L) w w' (rowA 118 A c (L.filter fun x => !p x)) := by
 have hrok := rowA_rok hrow
 have nc := hrok.2
 refine Mj ?_ Tryz.func71 (WS.start1 w _ hrow (by cases A <;> simp [rowA, rowR]) hlt)
 refine Mp ?_ Tryz.call137 (fun bs w hS => idxF_Session (⟨A, c, L⟩ : Sl (Fl CSession)) p kf caps w (Rr (B := anyB) (hS.res _ i0) (fun _ _ => trivial) (fun _ _ => trivial)) hcall (fun w' x hx hk => hf w' x hx (hS.kp.step hk (fun i hi => by cases hi))))
 refine Md (mIdx p L = (-1)) (fun h1 => ?_) fun h1 => ?_
 · refine Mt [.slice A L.length c] fun bs w hS => ?_
   have hid : L.filter (fun x => !p x) = L := delF_none (by assumption)
   rw [hid]
   exact ⟨rfl, hS.turned⟩
 obtain ⟨i0, hi1, hi2, hi3, hi4⟩ := delF_some (p := p) h1
 refine Mi ?_ (pR ((mIdx p L) + 1))
 refine Mk 6 ?_ (show (vI ((mIdx p L) + 1)) = vI (((i0 : Int)) + 1) by rw [hi4])
 refine Mk 5 ?_ (show (vI (mIdx p L)) = vI ((i0 : Int)) by rw [hi4])
 refine Ml (σ := Nat × Nat × List (Fl CSession)) (fun ⟨i, j, M⟩ => i < j ∧ j ≤ L.length ∧ M.length = L.length ∧ M.take i = (L.take j).filter (fun x => !p x) ∧ M.drop j = L.drop j) (fun ⟨i, j, M⟩ => L.length - j) (fun ⟨i, j, M⟩ => [rowA 118 A c (M : List (Fl CSession))]) [6, 5, 0, 1] (fun ⟨i, j, M⟩ => [(6, vI (j : Int)), (5, vI (i : Int))]) (fun _ => []) ?_ (⟨i0, i0 + 1, L⟩) ⟨by omega, by omega, rfl, delF_start hi1 hi2 hi3, rfl⟩
 rintro ⟨i, j, M⟩ ⟨h1, h2, hM, hT, hD⟩ _ on1
 refine Md ((j : Int) < (L.length : Int)) (fun h2 => ?_) fun h2 => ?_
 rotate_left
 · refine Mi ?_ (pG [(38, .sl i L.length)] (oc (rfl : (i : Int) = (i : Int)) (oc (rfl : L.length = L.length) (oc ((by omega) : i ≤ L.length) on))))
   refine Mcl i (L.length - i) ?_ (by omega) (by omega)
   refine Mi ?_ (pG [(41, .sl 0 i)] (oc (rfl : 0 = 0) (oc (rfl : (i : Int) = (i : Int)) (oc ((by omega) : i ≤ c) on))))
   refine Mt [.slice A i c] fun bs w hS => ?_
   have hid : M.take i = L.filter (fun x => !p x) := by rw [hT, show j = L.length by omega, List.take_length]
   have hil : (L.filter (fun x => !p x)).length = i := by rw [← hid, List.length_take]; omega
   have hS2 := hS
   rw [hid] at hS2
   refine ⟨?_, hS2.turned⟩
   rw [hil]
   rfl
 refine Mi ?_ (pc (pIo 24 (j : Int) j L.length (.head _)) (pEo 25 j (.head _)))
 refine Mv ?_ hcall (fun bs w hS => hf w (M.getD j default) (by rw [getD_drop hD (by omega)]; exact mem_of_getD (by omega)) hS.kp)
 refine Mbn (p (M.getD j default)) (fun h3 => ?_) fun h3 => ?_
 · refine Mi ?_ (pR ((j : Int) + 1))
   have hjL : M.getD j default = L.getD j default := getD_drop hD (by omega)
   exact on1 ⟨i, j + 1, M⟩ ⟨by omega, by omega, hM, delF_skip (by omega) hT (hjL ▸ by assumption), drop_next hD⟩ (by show L.length - (j + 1) < L.length - j; omega)
 refine Mi ?_ (pIo 33 (i : Int) i L.length (.head _))
 refine Mse i (M.getD j default) ?_ (by omega)
 intro L2 hL2 hl2
 refine Mi ?_ (pc (pR ((i : Int) + 1)) (pR ((j : Int) + 1)))
 have hjL : M.getD j default = L.getD j default := getD_drop hD (by omega)
 exact on1 ⟨i + 1, j + 1, L2⟩ ⟨by omega, by omega, by omega, by rw [hL2]; exact delF_keep h1 (by omega) hM hT (hjL ▸ by assumption) hjL, by rw [hL2]; exact delF_drop h1 hD⟩ (by show L.length - (j + 1) < L.length - j; omega)
theorem del_Session (A : Option Addr) (c : Nat) (L : List CSession) (p : CSession → Bool) (kf : Nat) (caps : Array Value) (w : World) (hrow : (rowA 118 A c L).p w) (hlt : ∀ b, b ∈ (rowA 118 A c L).fp → b < w.heap.size) (hn : L.length ≤ 1048576) (hcall : ∀ args w, (callFunc kf args).run Tryz.prog w = .ok (.enter kf args) w)
    (hf : ∀ (w' : World) (x : CSession), x ∈ L → Kp (rowA 118 A c L).fp w w' → Calls Tryz.prog kf (#[x.val] ++ caps) w' fun e w'' => e = .returned (vb (p x)) ∧ Kp [] w' w'') :
    Calls Tryz.prog 71 #[.slice A L.length c, .func (.func kf) #[] caps] w fun e w' => e = .returned (.slice A (L.filter fun x => !p x).length c) ∧ Turned (rowA 118 A c L) w w' (rowA 118 A c (L.filter fun x => !p x)) := by
  have h := delF_Session A c (fls L) (fun x => p x.v) kf caps w (by rw [rowA_fl]; exact hrow) (by rw [rowA_fl]; exact hlt) (by simpa using hn) hcall (fun w' x hx hk => hf w' x.v (by obtain ⟨y, hy, rfl⟩ := List.mem_map.1 hx; exact hy) (by rwa [rowA_fl] at hk))
  have e1 : (fls L).filter (fun x => !(p x.v)) = fls (L.filter fun x => !p x) := fls_filter (fun x => !p x) L
  simp only [e1, rowA_fl, List.length_map] at h
  exact h

theorem clo_session_Fresh_1 (x : CSession) (n : Int) (b : Nat) (w : World) (hb : (blkR b 3 [vi n]).p w) (h0 : 0 ≤ n ∧ n ≤ 1073741824) (h1 : 1 ≤ x.last ∧ x.last ≤ n) : Calls Tryz.prog 72 #[x.val, .pointer (some (⟨b, 0, none⟩ : Addr))] w fun e w' => e = .returned (vb (stale n x.abs)) ∧ Kp [] w w' := by
 refine M0 ?_ Tryz.func72
 refine Mi ?_ (pc (pX 4 [vi n] (fun w hk hr => (blkR_pre (blkR_kp hb hk) 1 rfl))) (pc (pR (n + 1)) (pR ((n + 1) - x.last))))
 exact Mt [vb (decide ((40 : Int) < (n + 1) - x.last))] fun bs w hS => ⟨rfl, hS.kp⟩

theorem session_Fresh {B : Nat → Prop} (s : Sl CSession) (n : Int) (w : World) (hs : s.rd B w) : Calls Tryz.prog 23 #[s.val, vi n] w fun e w' => ∃ y : Sl CSession, e = .returned (.tuple #[y.val, vi (mFresh (s.xs.map CSession.abs) n).2]) ∧ y.xs.map CSession.abs = (mFresh (s.xs.map CSession.abs) n).1 ∧ FreshS w w' y := by
 have oks := Sl.rd.ok hs
 have ncs := Sl.ok.nc oks
 have hns : s.n = s.xs.length := rfl
 have hml : (s.xs.map CSession.abs).length = s.n := by simp
 refine M0 ?_ Tryz.func23
 refine Mp ?_ Tryz.call63 (fun bs w hS => session_Check s n w (Sl.rd.kp hs hS.kp))
 refine Mdn (mSess (s.xs.map CSession.abs) n = 0) (fun h1 => ?_) fun h1 => ?_
 rotate_left
 · refine Mt [vn, vi (mSess (s.xs.map CSession.abs) n)] fun bs w hS => ?_
   refine ⟨Sl.nil, ?_, ?_, hS.outS (Sl.rd_nil _ _)⟩
   · rw [fresh_bad (by assumption)]; rfl
   · rw [fresh_bad (by assumption)]; rfl
 obtain ⟨hi0, hi1, hln, hall⟩ := mSess_bd h1
 have hn1 : 0 ≤ n ∧ n ≤ 1073741824 := ⟨hi0, hi1⟩
 have hbds : ∀ x, x ∈ s.xs.map CSession.abs → 1 ≤ x.last ∧ x.last ≤ n := fun x hx => by obtain ⟨j, hj, rfl⟩ := List.getElem_of_mem hx; have := sessF_bd (hall j hj); rw [List.getD_eq_getElem?_getD, List.getElem?_eq_getElem hj] at this; simp only [Option.getD_some] at this; omega
 refine Mf ?_ Tryz.call70 (fun bs w hS => session_Copy s w (Sl.rd.kp hs hS.kp) (small_sess (by assumption)))
 rintro y1 hF1
 refine m_split2 ?_
 have hnm1 := sess_texts (hs) hF1
 refine m_know (F := ∀ i, i < y1.n → Rds.ok (y1.at i)) (fun bs w hS i hi => Rds.okof (Sl.rd.sub (own_sess (A := y1.A) (c := y1.c) (L := y1.xs) (hS.res _ i0) (hS.res _ i1) hnm1) hi)) fun okown1 => ?_
 refine m_know (F := RowOk y1.A y1.c (y1.xs : List CSession)) (fun bs w hS => rowA_rok (hS.res _ i1)) fun hrow1 => ?_
 have nchrow1 := hrow1.2
 have hnn := map_n hF1
 have hnx : y1.n = y1.xs.length := rfl
 have hlast : ∀ x, x ∈ y1.xs → 1 ≤ x.last ∧ x.last ≤ n := fun x hx => hbds x.abs (hF1 ▸ List.mem_map.2 ⟨x, hx, rfl⟩)
 have hok1 : Sl.ok y1 := ⟨nchrow1.1, by unfold maxLen; exact nchrow1.2, fun i hi => ⟨hrow1.1 i hi, okown1 i hi⟩⟩
 refine m_f1 ?_
 refine Mtu0 ?_ Tryz.call71 (fun bs w hS => del_Session y1.A y1.c y1.xs (fun x : CSession => stale n x.abs) 72 #[.pointer (some (adr bs 0 0))] w (hS.res _ i0) hS.head1.2.2 (by show y1.n ≤ _; omega) Tryz.call72 (fun w' x hx hk => clo_session_Fresh_1 x n (bs.getD 0 0) w' (show (blkR _ _ _).p w' from hS.blkIn (i := 0) (b := ⟨3, [vI n]⟩) hk (by kernel_rfl) (by simp)) hn1 (hlast x hx)))
 rintro _ _
 refine Mt [.slice y1.A (y1.xs.filter fun x : CSession => !stale n x.abs).length y1.c, vi 0] fun bs w hS => ?_
 have hm := fresh_ok (l := s.xs.map CSession.abs) (index := n) (by assumption)
 rw [hm]
 refine ⟨⟨y1.A, y1.c, y1.xs.filter fun x : CSession => !stale n x.abs⟩, rfl, ?_, hS.outS (y := (⟨y1.A, y1.c, y1.xs.filter fun x : CSession => !stale n x.abs⟩ : Sl CSession)) (out_sess (L0 := y1.xs) i0 i1 hS.res (fun x hx => (List.mem_filter.1 hx).1) hnm1)⟩
 show (List.filter _ _).map _ = _
 rw [filter_abs, hF1]

theorem ref_FreshOf {B : Nat → Prop} (s : Sl CSession) (n : Int) (w : World) (hs : s.rd B w) : Calls Tryz.prog 32 #[s.val, vi n] w fun e w' => ∃ y : Sl CSession, e = .returned (.tuple #[y.val, vi (mFresh (s.xs.map CSession.abs) n).2]) ∧ y.xs.map CSession.abs = (mFresh (s.xs.map CSession.abs) n).1 ∧ FreshS w w' y := by
 have oks := Sl.rd.ok hs
 have ncs := Sl.ok.nc oks
 have hns : s.n = s.xs.length := rfl
 have hml : (s.xs.map CSession.abs).length = s.n := by simp
 refine M0 ?_ Tryz.func32
 refine Mp ?_ Tryz.call92 (fun bs w hS => ref_SessionsFault s n w (Sl.rd.kp hs hS.kp))
 refine Mdn (mSess (s.xs.map CSession.abs) n = 0) (fun h1 => ?_) fun h1 => ?_
 rotate_left
 · refine Mt [vn, vi (mSess (s.xs.map CSession.abs) n)] fun bs w hS => ?_
   refine ⟨Sl.nil, ?_, ?_, hS.outS (Sl.rd_nil _ _)⟩
   · rw [fresh_bad (by assumption)]; rfl
   · rw [fresh_bad (by assumption)]; rfl
 obtain ⟨hi0, hi1, hln, hall⟩ := mSess_bd h1
 have hbds : ∀ x, x ∈ s.xs.map CSession.abs → 1 ≤ x.last ∧ x.last ≤ n := fun x hx => by obtain ⟨j, hj, rfl⟩ := List.getElem_of_mem hx; have := sessF_bd (hall j hj); rw [List.getD_eq_getElem?_getD, List.getElem?_eq_getElem hj] at this; simp only [Option.getD_some] at this; omega
 refine Mf ?_ Tryz.call19 (fun bs w hS => ref_SessionsCopy s w (Sl.rd.kp hs hS.kp) (small_sess (by assumption)))
 rintro y1 hF1
 refine m_split2 ?_
 have hnm1 := sess_texts (hs) hF1
 refine m_know (F := ∀ i, i < y1.n → Rds.ok (y1.at i)) (fun bs w hS i hi => Rds.okof (Sl.rd.sub (own_sess (A := y1.A) (c := y1.c) (L := y1.xs) (hS.res _ i0) (hS.res _ i1) hnm1) hi)) fun okown1 => ?_
 refine m_know (F := RowOk y1.A y1.c (y1.xs : List CSession)) (fun bs w hS => rowA_rok (hS.res _ i1)) fun hrow1 => ?_
 have nchrow1 := hrow1.2
 have hnn := map_n hF1
 have hnx : y1.n = y1.xs.length := rfl
 have hlast : ∀ x, x ∈ y1.xs → 1 ≤ x.last ∧ x.last ≤ n := fun x hx => hbds x.abs (hF1 ▸ List.mem_map.2 ⟨x, hx, rfl⟩)
 have hok1 : Sl.ok y1 := ⟨nchrow1.1, by unfold maxLen; exact nchrow1.2, fun i hi => ⟨hrow1.1 i hi, okown1 i hi⟩⟩
 refine m_rowA (α := CSession) 118 ?_
 refine Ml (σ := Nat × Option Addr × Nat × List CSession) (fun ⟨i, A, c, L⟩ => i ≤ y1.n ∧ L = (y1.xs.take i).filter (fun x => !stale n x.abs)) (fun ⟨i, A, c, L⟩ => y1.n - i) (fun ⟨i, A, c, L⟩ => [rowA 118 A c (L : List CSession), ownL (keptR 141) y1.xs, rowA 118 y1.A y1.c (y1.xs : List CSession)]) [9, 8, 7, 1] (fun ⟨i, A, c, L⟩ => [(9, vI (i : Int)), (7, .v (.slice A L.length c))]) (fun _ => []) ?_ (⟨0, none, 0, []⟩) ⟨Nat.zero_le _, rfl⟩
 rintro ⟨i, A, c, L⟩ ⟨hi, hI⟩ _ on1
 have hLn : L.length ≤ i := by rw [hI]; exact Nat.le_trans (List.length_filter_le _ _) (by rw [List.length_take]; omega)
 refine Md ((i : Int) < (y1.n : Int)) (fun h2 => ?_) fun h2 => ?_
 rotate_left
 · refine Mt [.slice A L.length c, vi 0] fun bs w hS => ?_
   have hm := fresh_ok (l := s.xs.map CSession.abs) (index := n) (by assumption)
   rw [hm]
   have hLe : L = y1.xs.filter fun x => !stale n x.abs := by rw [hI, take_all (by omega)]
   refine ⟨⟨A, c, L⟩, rfl, ?_, hS.outS (y := (⟨A, c, L⟩ : Sl CSession)) (out_sess (L0 := y1.xs) i0 i1 hS.res (fun x hx => by rw [hLe] at hx; exact (List.mem_filter.1 hx).1) hnm1)⟩
   show L.map _ = _
   rw [hLe, filter_abs, hF1]
 have hla := hlast (y1.xs.getD i default) (mem_of_getD (by omega))
 refine Mi ?_ (pc (pIo 26 (i : Int) i y1.n i2) (pc (pFo 28 i 3 1 i2) (pR ((y1.xs.getD i default).last + 40))))
 refine Md (n < (y1.xs.getD i default).last + 40) (fun h3 => ?_) fun h3 => ?_
 rotate_left
 · refine Mi ?_ (pR ((i : Int) + 1))
   exact on1 ⟨i + 1, A, c, L⟩ ⟨by omega, by first | exact fresh_in hI (by omega) (decide_eq_false (show ¬ (40 < n + 1 - (y1.xs.getD i default).last) by omega)) | exact fresh_out hI (by omega) (decide_eq_true (show 40 < n + 1 - (y1.xs.getD i default).last by omega))⟩ (by show y1.n - (i + 1) < y1.n - i; omega)
 refine Mi ?_ (pc (pIo 35 (i : Int) i y1.n i2) (pEo 36 i i2))
 refine M1 ?_
 refine Mal (α := CSession) 56 ([(⟨(y1.xs.getD i default).client, (y1.xs.getD i default).id, (y1.xs.getD i default).acked, (y1.xs.getD i default).last, (y1.xs.getD i default).replies⟩ : CSession)]) ?_
 intro A3 c3
 refine Mi ?_ (pR ((i : Int) + 1))
 exact on1 ⟨i + 1, A3, c3, L ++ [(⟨(y1.xs.getD i default).client, (y1.xs.getD i default).id, (y1.xs.getD i default).acked, (y1.xs.getD i default).last, (y1.xs.getD i default).replies⟩ : CSession)]⟩ ⟨by omega, by first | exact fresh_in hI (by omega) (decide_eq_false (show ¬ (40 < n + 1 - (y1.xs.getD i default).last) by omega)) | exact fresh_out hI (by omega) (decide_eq_true (show 40 < n + 1 - (y1.xs.getD i default).last by omega))⟩ (by show y1.n - (i + 1) < y1.n - i; omega)

theorem pair_Get {B : Nat → Prop} (s : Sl DPair) (t : ByteArray) (w : World) (hs : s.rd B w) : Calls Tryz.prog 86 #[.slice s.A s.n s.c, .string t] w fun e w' => e = .returned (.tuple #[.agg #[.int .i64 (mGot s.xs t).1.code, .int .i64 (mGot s.xs t).1.n, .string (mGot s.xs t).1.text], .int .i64 (mGot s.xs t).2]) ∧ Kp [] w w' := by
 have oks := Sl.rd.ok hs
 have ncs := Sl.ok.nc oks
 have hns : s.n = s.xs.length := rfl
 refine M0 ?_ Tryz.func86
 refine Mp ?_ Tryz.call65 (fun bs w hS => pair_Check s w (Sl.rd.kp hs hS.kp))
 refine Mdn (mPairs s.xs = 0) (fun h1 => ?_) (fun h1 => ?_)
 rotate_left
 · refine Mt [.agg #[.int .i64 0, .int .i64 0, .string emp], .int .i64 (mPairs s.xs)] fun bs w hS => ?_
   refine ⟨?_, hS.kp⟩
   simp only [retOf, den, List.map_cons, List.map_nil]
   rw [got_bad (by assumption)]
 have hln := (mPairs_bd h1).1
 refine Mp ?_ Tryz.call151 (fun bs w hS => pair_find s t w (Sl.rd.kp hs hS.kp) (by omega))
 refine Mbn (mBSf (fun x : DPair => cmpS x.name t) s.xs) (fun h2 => ?_) fun h2 => ?_
 rotate_left
 · refine Mt [vz 6, vi 0] fun bs w hS => ?_
   refine ⟨?_, hS.kp⟩
   simp only [retOf, den, List.map_cons, List.map_nil]
   have hb := (bsf_pair (l := s.xs) (by assumption) t).1
   rw [h2] at hb
   rw [got_none (by assumption) (by have := of_decide_eq_false hb.symm; omega)]
 have hlt := mBSf_lt h2
 refine Mda 13 [] [0] [] Tryz_mixed ?_
 refine Mih ?_ (pc (pI 26 ((mBS (fun x : DPair => cmpS x.name t) s.xs : Nat) : Int) (((mBS (fun x : DPair => cmpS x.name t) s.xs : Nat) : Int)).toNat (rdk hs)) (pc (pF 28 (((mBS (fun x : DPair => cmpS x.name t) s.xs : Nat) : Int)).toNat 2 1 (rdk hs)) (pc (pI 31 ((mBS (fun x : DPair => cmpS x.name t) s.xs : Nat) : Int) (((mBS (fun x : DPair => cmpS x.name t) s.xs : Nat) : Int)).toNat (rdk hs)) (pF 33 (((mBS (fun x : DPair => cmpS x.name t) s.xs : Nat) : Int)).toNat 1 1 (rdk hs)))))
 refine Mt [.agg #[vi 0, vi (s.at (((mBS (fun x : DPair => cmpS x.name t) s.xs : Nat) : Int)).toNat).version, vs (s.at (((mBS (fun x : DPair => cmpS x.name t) s.xs : Nat) : Int)).toNat).value], vi 0] fun bs w hS => ?_
 refine ⟨?_, hS.kp⟩
 simp only [retOf, den, List.map_cons, List.map_nil]
 have hb := (bsf_pair (l := s.xs) (by assumption) t).1
 rw [h2] at hb
 have hc := (bsf_pair (l := s.xs) (by assumption) t).2 (by assumption)
 have hd := of_decide_eq_true hb.symm
 rw [got_here (by assumption) (by omega), ← hc, Int.toNat_natCast]
 rfl

theorem ref_GotOf {B : Nat → Prop} (s : Sl DPair) (t : ByteArray) (w : World) (hs : s.rd B w) : Calls Tryz.prog 40 #[.slice s.A s.n s.c, .string t] w fun e w' => e = .returned (.tuple #[.agg #[.int .i64 (mGot s.xs t).1.code, .int .i64 (mGot s.xs t).1.n, .string (mGot s.xs t).1.text], .int .i64 (mGot s.xs t).2]) ∧ Kp [] w w' := by
 have oks := Sl.rd.ok hs
 have ncs := Sl.ok.nc oks
 have hns : s.n = s.xs.length := rfl
 have hbd := mIdx_bd (fun x : DPair => decide (x.name = t)) s.xs
 refine M0 ?_ Tryz.func40
 refine Mp ?_ Tryz.call94 (fun bs w hS => ref_PairsFault s w (Sl.rd.kp hs hS.kp))
 refine Mdn (mPairs s.xs = 0) (fun h1 => ?_) (fun h1 => ?_)
 rotate_left
 · refine Mt [.agg #[.int .i64 0, .int .i64 0, .string emp], .int .i64 (mPairs s.xs)] fun bs w hS => ?_
   refine ⟨?_, hS.kp⟩
   simp only [retOf, den, List.map_cons, List.map_nil]
   rw [got_bad (by assumption)]
 have hln := (mPairs_bd h1).1
 refine Mp ?_ Tryz.call106 (fun bs w hS => tackroomref_pairAt s t w (Sl.rd.kp hs hS.kp))
 refine Md (mIdx (fun x : DPair => decide (x.name = t)) s.xs < 0) (fun h2 => ?_) fun h2 => ?_
 · refine Mt [vz 6, vi 0] fun bs w hS => ?_
   refine ⟨?_, hS.kp⟩
   simp only [retOf, den, List.map_cons, List.map_nil]
   rw [got_none (by assumption) (by assumption)]
 refine Mda 13 [] [0] [] Tryz_mixed ?_
 refine Mih ?_ (pc (pI 22 (mIdx (fun x : DPair => decide (x.name = t)) s.xs) (mIdx (fun x : DPair => decide (x.name = t)) s.xs).toNat (rdk hs)) (pc (pF 24 (mIdx (fun x : DPair => decide (x.name = t)) s.xs).toNat 2 1 (rdk hs)) (pc (pI 27 (mIdx (fun x : DPair => decide (x.name = t)) s.xs) (mIdx (fun x : DPair => decide (x.name = t)) s.xs).toNat (rdk hs)) (pF 29 (mIdx (fun x : DPair => decide (x.name = t)) s.xs).toNat 1 1 (rdk hs)))))
 refine Mt [.agg #[vi 0, vi (s.at (mIdx (fun x : DPair => decide (x.name = t)) s.xs).toNat).version, vs (s.at (mIdx (fun x : DPair => decide (x.name = t)) s.xs).toNat).value], vi 0] fun bs w hS => ?_
 refine ⟨?_, hS.kp⟩
 simp only [retOf, den, List.map_cons, List.map_nil]
 rw [got_here (by assumption) (by assumption)]
 rfl

theorem has_Session {B : Nat → Prop} (s : Sl CSession) (p : CSession → Bool) (kf : Nat) (caps : Array Value) (w : World) (hs : s.rd B w) (hcall : ∀ args w, (callFunc kf args).run Tryz.prog w = .ok (.enter kf args) w)
    (hf : ∀ (w' : World) (x : CSession), x ∈ s.xs → Kp [] w w' → Calls Tryz.prog kf (#[x.val] ++ caps) w' fun e w'' => e = .returned (vb (p x)) ∧ Kp [] w' w'') : Calls Tryz.prog 73 #[s.val, .func (.func kf) #[] caps] w fun e w' => e = .returned (vb (decide ((0 : Int) ≤ mIdx p s.xs))) ∧ Kp [] w w' := by
 have oks := Sl.rd.ok hs
 have ncs := Sl.ok.nc oks
 have hns : s.n = s.xs.length := rfl
 refine M0 ?_ Tryz.func73
 refine Mp ?_ Tryz.call137 (fun bs w hS => idx_Session s p kf caps w (Sl.rd.kp hs hS.kp) hcall (fun w' x hx hk => hf w' x hx (hS.kp.step hk (fun i hi => by cases hi))))
 exact Mt [vb (decide ((0 : Int) ≤ mIdx p s.xs))] fun bs w hS => ⟨rfl, hS.kp⟩

theorem clo_machine_gone_1 (x : CSession) (p : CSession) (b : Nat) (w : World) (hb : (blkR b 118 [vi p.client, vi p.id, vi p.acked, vi p.last, p.replies.val]).p w) : Calls Tryz.prog 74 #[x.val, .pointer (some (⟨b, 0, none⟩ : Addr))] w fun e w' => e = .returned (vb (decide (x.client = p.client))) ∧ Kp [] w w' := by
 refine M0 ?_ Tryz.func74
 refine Mi ?_ (pX 7 [vi p.client] (fun w hk hr => (blkR_fld (blkR_kp hb hk) 0 1 rfl)))
 exact Mt [vb (decide (x.client = p.client))] fun bs w hS => ⟨rfl, hS.kp⟩

theorem machine_gone {B B' : Nat → Prop} (z : CState) (s : Sl CSession) (b : Nat) (w : World) (hb : (blkR b 26 [vi z.index, z.locks.val, z.pairs.val, z.sessions.val]).p w) (hz : ∀ w', Kp [b] w w' → Rds.sub B w' z) (hs : ∀ w', Kp [b] w w' → s.rd B' w') : Calls Tryz.prog 24 #[.pointer (some (⟨b, 0, none⟩ : Addr)), s.val] w fun e w' => ∃ y : Option (List Nat × Sl CLock), e = .returned (.tuple #[]) ∧ (lk z.locks y).xs.map CLock.abs = mRel (z.locks.xs.map CLock.abs) (s.xs.map CSession.abs) (z.sessions.xs.map CSession.abs) ∧ TurnedN (blkR b 26 [vi z.index, z.locks.val, z.pairs.val, z.sessions.val]) w w' (blkR b 26 [vi z.index, .slice (lk z.locks y).A (lk z.locks y).n (lk z.locks y).c, z.pairs.val, z.sessions.val]) (lkR y) := by
 have oks := Sl.rd.ok (hs w (Kp.refl _ _))
 have ncs := Sl.ok.nc oks
 have hns : s.n = s.xs.length := rfl
 have okz := Rds.okof (hz w (Kp.refl _ _))
 refine Mj ?_ Tryz.func24 (WS.start1 w _ hb (by simp [blkR]) (blkR_lt hb))
 refine m_nores (lkR (none : Option (List Nat × Sl CLock))) rfl (fun w => trivial) ?_
 refine Ml (σ := Nat × Option (List Nat × Sl CLock)) (fun ⟨i, o⟩ => i ≤ s.n ∧ (lk z.locks o).xs.map CLock.abs = mRel (z.locks.xs.map CLock.abs) ((s.xs.map CSession.abs).take i) (z.sessions.xs.map CSession.abs)) (fun ⟨i, o⟩ => s.n - i) (fun ⟨i, o⟩ => [lkR o, blkR b 26 [vi z.index, .slice (lk z.locks o).A (lk z.locks o).n (lk z.locks o).c, z.pairs.val, z.sessions.val]]) [8, 7, 6, 0] (fun ⟨i, o⟩ => [(8, vI (i : Int))]) (fun _ => []) ?_ (⟨0, none⟩) ⟨Nat.zero_le _, rfl⟩
 rintro ⟨i, o⟩ ⟨hi, hI⟩ _ on1
 refine Md ((i : Int) < (s.n : Int)) (fun h1 => ?_) fun h1 => ?_
 rotate_left
 · refine Mt [] fun bs w hS => ?_
   have hS2 := hS.f1
   have hte : (s.xs.map CSession.abs).take i = s.xs.map CSession.abs := List.take_of_length_le (by rw [List.length_map]; omega)
   rw [hte] at hI
   exact ⟨o, rfl, hI, (hS2.turnedN (fun _ h => h)).as (allR_one _ _) (allR_one_fp _)⟩
 refine Mi ?_ (pc (pA 10 11 (i : Int) i (s := s) (fun w hk hr => (hs _ hk))) (pBk 15 3 1 i1))
 refine Mp ?_ Tryz.call73 (fun bs w hS => has_Session z.sessions (fun x : CSession => decide (x.client = (s.at i).client)) 74 #[.pointer (some (adr bs 0 0))] w (hz _ hS.kp).2.2 Tryz.call74 (fun w' z' hz' hk => clo_machine_gone_1 z' (s.at i) (bs.getD 0 0) w' (show (blkR _ _ _).p w' from (hS.pure hk).loc 0 ⟨118, (s.at i).cs⟩ (by kernel_rfl) (by simp))))
 refine Mdn ((0 : Int) ≤ mIdx (fun x : CSession => decide (x.client = (s.at i).client)) z.sessions.xs) (fun h2 => ?_) fun h2 => ?_
 · refine Mi ?_ (pR ((i : Int) + 1))
   have hsx : sIdx (z.sessions.xs.map CSession.abs) (s.at i).abs.client = mIdx (fun x : CSession => decide (x.client = (s.at i).client)) z.sessions.xs := (mIdx_map CSession.abs (fun x : DSession => decide (x.client = (s.at i).client)) z.sessions.xs).symm
   have hgo : (lk z.locks (o)).xs.map CLock.abs = if sIdx (z.sessions.xs.map CSession.abs) (s.at i).abs.client < 0 then (mGone ((lk z.locks o).xs.map CLock.abs) (s.at i).abs.client).1 else (lk z.locks o).xs.map CLock.abs := by rw [hsx, if_neg (by omega)]
   refine m_f1 (m_f1 ?_)
   exact on1 ⟨i + 1, o⟩ ⟨by omega, rel_next (by rw [List.length_map]; omega) (sabs_at i) hI hgo⟩ (by show s.n - (i + 1) < s.n - i; omega)
 refine Mda 14 [13] [] [lkR o, blkR b 26 [vi z.index, .slice (lk z.locks o).A (lk z.locks o).n (lk z.locks o).c, z.pairs.val, z.sessions.val]] Tryz_mixed ?_
 refine Mih ?_ (pBk 24 1 1 i1)
 refine Mu ?_ Tryz.call75 (fun bs w hS => lock_Gone (lk z.locks o) (s.at i).client w (lk_rd (hz _ hS.kp).1 (hS.res _ i0)))
 rintro fp1 y1 hF1 hok1
 refine m_f2 ?_
 refine MsbX [lkR o] 1 [vi z.index, y1.val, z.pairs.val, z.sessions.val] ?_ (hR := (.cons _ (.cons _ (List.Sublist.refl _))))
 refine Mz ?_
 refine Mi ?_ (pR ((i : Int) + 1))
 have hsx : sIdx (z.sessions.xs.map CSession.abs) (s.at i).abs.client = mIdx (fun x : CSession => decide (x.client = (s.at i).client)) z.sessions.xs := (mIdx_map CSession.abs (fun x : DSession => decide (x.client = (s.at i).client)) z.sessions.xs).symm
 refine m_f2 ?_
 refine m_weak noR (List.nil_sublist _) (fun _ _ => trivial) ?_
 refine m_f2 ?_
 refine m_join (lkR (some (fp1, y1))) (by show List.Perm fp1 (fp1 ++ []); rw [List.append_nil]) (fun w h1 h2 => h1) ?_
 have hgo : (lk z.locks (some (fp1, y1))).xs.map CLock.abs = if sIdx (z.sessions.xs.map CSession.abs) (s.at i).abs.client < 0 then (mGone ((lk z.locks o).xs.map CLock.abs) (s.at i).abs.client).1 else (lk z.locks o).xs.map CLock.abs := by rw [hsx, if_pos (by omega)]; exact hF1
 refine m_f1 (m_f1 ?_)
 exact on1 ⟨i + 1, some (fp1, y1)⟩ ⟨by omega, rel_next (by rw [List.length_map]; omega) (sabs_at i) hI hgo⟩ (by show s.n - (i + 1) < s.n - i; omega)

theorem machine_do {B B' : Nat → Prop} (z : CState) (who : Int) (o : DOp) (b : Nat) (w : World) (hb : (blkR b 26 [vi z.index, z.locks.val, z.pairs.val, z.sessions.val]).p w) (hz : ∀ w', Kp [b] w w' → Rds.sub B w' z) (ho : Rds.sub B' w o) : Calls Tryz.prog 28 #[.pointer (some (⟨b, 0, none⟩ : Addr)), vi who, o.val] w fun e w' => ∃ y : Option (List Nat × Sl CLock) × Option (List Nat × Sl DPair), e = .returned ((mDo (z.locks.xs.map CLock.abs) z.pairs.xs who o).2.2).val ∧ ((lk z.locks y.1).xs.map CLock.abs = (mDo (z.locks.xs.map CLock.abs) z.pairs.xs who o).1 ∧ (lk z.pairs y.2).xs = (mDo (z.locks.xs.map CLock.abs) z.pairs.xs who o).2.1) ∧ TurnedN (blkR b 26 [vi z.index, z.locks.val, z.pairs.val, z.sessions.val]) w w' (blkR b 26 [vi z.index, .slice (lk z.locks y.1).A (lk z.locks y.1).n (lk z.locks y.1).c, .slice (lk z.pairs y.2).A (lk z.pairs y.2).n (lk z.pairs y.2).c, z.sessions.val]) (allR [lkR y.1, lkR y.2]) := by
 have okz := Rds.okof (hz w (Kp.refl _ _))
 refine Mj ?_ Tryz.func28 (WS.start1 w _ hb (by simp [blkR]) (blkR_lt hb))
 refine Mdr 14 ?_ Tryz_mixed
 refine Mih ?_ (pBk 15 1 1 i0)
 refine Mp ?_ Tryz.call83 (fun bs w hS => lock_Who z.locks o.a w (hz _ hS.kp).1)
 refine Mz ?_
 refine Md (o.kind = 1) (fun h1 => ?_) fun h1 => ?_
 · refine Mda 20 [18] [2] [blkR b 26 [vi z.index, z.locks.val, z.pairs.val, z.sessions.val]] Tryz_mixed ?_
   refine Mih ?_ (pBk 52 1 1 i0)
   refine Mu ?_ Tryz.call84 (fun bs w hS => lock_Take z.locks o.a who (decide (o.kind = 2)) w (hz _ hS.kp).1 ho.1)
   rintro fp1 y1 hF1 hok1
   refine m_f1 ?_
   refine MsbX [] 1 [vi z.index, y1.val, z.pairs.val, z.sessions.val] ?_
   refine Mt [((mTake (z.locks.xs.map CLock.abs) o.a who (decide (o.kind = 2))).2.1).val] fun bs w hS => ?_
   have hS2 := hS.f1.f1
   have hm : mDo (z.locks.xs.map CLock.abs) z.pairs.xs who o = ((mTake (z.locks.xs.map CLock.abs) o.a who (decide (o.kind = 2))).1, z.pairs.xs, (mTake (z.locks.xs.map CLock.abs) o.a who (decide (o.kind = 2))).2.1) := by grind [mDo]
   refine ⟨(some (fp1, y1), none), ?_, ⟨?_, ?_⟩, (hS2.turnedN (fun _ h => h)).as (fun h r hr => ?_) (by simp [allR, lkR, noR])⟩
   · rw [hm] <;> rfl
   · rw [hm] <;> exact hF1
   · rw [hm] <;> rfl
   · simp only [List.mem_cons, List.not_mem_nil, or_false] at hr
     rcases hr with rfl | rfl
     · exact h _ i0
     · trivial
 refine Md (o.kind = 2) (fun h2 => ?_) fun h2 => ?_
 · refine Mda 20 [18] [2] [blkR b 26 [vi z.index, z.locks.val, z.pairs.val, z.sessions.val]] Tryz_mixed ?_
   refine Mih ?_ (pBk 52 1 1 i0)
   refine Mu ?_ Tryz.call84 (fun bs w hS => lock_Take z.locks o.a who (decide (o.kind = 2)) w (hz _ hS.kp).1 ho.1)
   rintro fp2 y2 hF2 hok2
   refine m_f1 ?_
   refine MsbX [] 1 [vi z.index, y2.val, z.pairs.val, z.sessions.val] ?_
   refine Mt [((mTake (z.locks.xs.map CLock.abs) o.a who (decide (o.kind = 2))).2.1).val] fun bs w hS => ?_
   have hS2 := hS.f1.f1
   have hm : mDo (z.locks.xs.map CLock.abs) z.pairs.xs who o = ((mTake (z.locks.xs.map CLock.abs) o.a who (decide (o.kind = 2))).1, z.pairs.xs, (mTake (z.locks.xs.map CLock.abs) o.a who (decide (o.kind = 2))).2.1) := by grind [mDo]
   refine ⟨(some (fp2, y2), none), ?_, ⟨?_, ?_⟩, (hS2.turnedN (fun _ h => h)).as (fun h r hr => ?_) (by simp [allR, lkR, noR])⟩
   · rw [hm] <;> rfl
   · rw [hm] <;> exact hF2
   · rw [hm] <;> rfl
   · simp only [List.mem_cons, List.not_mem_nil, or_false] at hr
     rcases hr with rfl | rfl
     · exact h _ i0
     · trivial
 refine Md (o.kind = 3) (fun h3 => ?_) fun h3 => ?_
 · refine Mda 17 [15] [2] [blkR b 26 [vi z.index, z.locks.val, z.pairs.val, z.sessions.val]] Tryz_mixed ?_
   refine Mih ?_ (pBk 74 1 1 i0)
   refine Mu ?_ Tryz.call85 (fun bs w hS => lock_Free z.locks o.a who w (hz _ hS.kp).1 ho.1)
   rintro fp3 y3 hF3 hok3
   refine m_f1 ?_
   refine MsbX [] 1 [vi z.index, y3.val, z.pairs.val, z.sessions.val] ?_
   refine Mt [((mFree (z.locks.xs.map CLock.abs) o.a who).2.1).val] fun bs w hS => ?_
   have hS2 := hS.f1.f1
   have hm : mDo (z.locks.xs.map CLock.abs) z.pairs.xs who o = ((mFree (z.locks.xs.map CLock.abs) o.a who).1, z.pairs.xs, (mFree (z.locks.xs.map CLock.abs) o.a who).2.1) := by grind [mDo]
   refine ⟨(some (fp3, y3), none), ?_, ⟨?_, ?_⟩, (hS2.turnedN (fun _ h => h)).as (fun h r hr => ?_) (by simp [allR, lkR, noR])⟩
   · rw [hm] <;> rfl
   · rw [hm] <;> exact hF3
   · rw [hm] <;> rfl
   · simp only [List.mem_cons, List.not_mem_nil, or_false] at hr
     rcases hr with rfl | rfl
     · exact h _ i0
     · trivial
 refine Md (o.kind = 4) (fun h4 => ?_) fun h4 => ?_
 · refine Mt [.agg #[vi 0, vi (mWho (z.locks.xs.map CLock.abs) o.a).1, ve]] fun bs w hS => ?_
   have hS2 := hS.perm (R' := [blkR b 26 [vi z.index, z.locks.val, z.pairs.val, z.sessions.val]]) (List.Perm.refl _)
   have hm : mDo (z.locks.xs.map CLock.abs) z.pairs.xs who o = (z.locks.xs.map CLock.abs, z.pairs.xs, ⟨0, (mWho (z.locks.xs.map CLock.abs) o.a).1, emp⟩) := by grind [mDo]
   refine ⟨(none, none), ?_, ⟨?_, ?_⟩, (hS2.turnedN (fun _ h => h)).as (fun h r hr => ?_) (by simp [allR, lkR, noR])⟩
   · rw [hm] <;> rfl
   · rw [hm] <;> rfl
   · rw [hm] <;> rfl
   · simp only [List.mem_cons, List.not_mem_nil, or_false] at hr
     rcases hr with rfl | rfl
     · trivial
     · trivial
 refine Md (o.kind = 6) (fun h5 => ?_) fun h5 => ?_
 · refine Mda 11 [] [2] [blkR b 26 [vi z.index, z.locks.val, z.pairs.val, z.sessions.val]] Tryz_mixed ?_
   refine Mih ?_ (pBk 98 2 1 i0)
   refine Mp ?_ Tryz.call86 (fun bs w hS => pair_Get z.pairs o.a w (hz _ hS.kp).2.1)
   refine Mz ?_
   refine Mt [(mGot z.pairs.xs o.a).1.val] fun bs w hS => ?_
   have hS2 := hS.perm (R' := [blkR b 26 [vi z.index, z.locks.val, z.pairs.val, z.sessions.val]]) (List.Perm.refl _)
   have hm : mDo (z.locks.xs.map CLock.abs) z.pairs.xs who o = (z.locks.xs.map CLock.abs, z.pairs.xs, (mGot z.pairs.xs o.a).1) := by grind [mDo]
   refine ⟨(none, none), ?_, ⟨?_, ?_⟩, (hS2.turnedN (fun _ h => h)).as (fun h r hr => ?_) (by simp [allR, lkR, noR])⟩
   · rw [hm] <;> rfl
   · rw [hm] <;> rfl
   · rw [hm] <;> rfl
   · simp only [List.mem_cons, List.not_mem_nil, or_false] at hr
     rcases hr with rfl | rfl
     · trivial
     · trivial
 refine Mdn ((mWho (z.locks.xs.map CLock.abs) o.a).1 = who) (fun h6 => ?_) fun h6 => ?_
 rotate_left
 · refine Mt [.agg #[vi 10, vi (mWho (z.locks.xs.map CLock.abs) o.a).1, ve]] fun bs w hS => ?_
   have hS2 := hS.perm (R' := [blkR b 26 [vi z.index, z.locks.val, z.pairs.val, z.sessions.val]]) (List.Perm.refl _)
   have hm : mDo (z.locks.xs.map CLock.abs) z.pairs.xs who o = (z.locks.xs.map CLock.abs, z.pairs.xs, ⟨10, (mWho (z.locks.xs.map CLock.abs) o.a).1, emp⟩) := by grind [mDo]
   refine ⟨(none, none), ?_, ⟨?_, ?_⟩, (hS2.turnedN (fun _ h => h)).as (fun h r hr => ?_) (by simp [allR, lkR, noR])⟩
   · rw [hm] <;> rfl
   · rw [hm] <;> rfl
   · rw [hm] <;> rfl
   · simp only [List.mem_cons, List.not_mem_nil, or_false] at hr
     rcases hr with rfl | rfl
     · trivial
     · trivial
 refine Mdn ((mWho (z.locks.xs.map CLock.abs) o.a).2.1 = o.n) (fun h7 => ?_) fun h7 => ?_
 rotate_left
 · refine Mt [.agg #[vi 10, vi (mWho (z.locks.xs.map CLock.abs) o.a).1, ve]] fun bs w hS => ?_
   have hS2 := hS.perm (R' := [blkR b 26 [vi z.index, z.locks.val, z.pairs.val, z.sessions.val]]) (List.Perm.refl _)
   have hm : mDo (z.locks.xs.map CLock.abs) z.pairs.xs who o = (z.locks.xs.map CLock.abs, z.pairs.xs, ⟨10, (mWho (z.locks.xs.map CLock.abs) o.a).1, emp⟩) := by grind [mDo]
   refine ⟨(none, none), ?_, ⟨?_, ?_⟩, (hS2.turnedN (fun _ h => h)).as (fun h r hr => ?_) (by simp [allR, lkR, noR])⟩
   · rw [hm] <;> rfl
   · rw [hm] <;> rfl
   · rw [hm] <;> rfl
   · simp only [List.mem_cons, List.not_mem_nil, or_false] at hr
     rcases hr with rfl | rfl
     · trivial
     · trivial
 refine Mda 18 [16] [2] [blkR b 26 [vi z.index, z.locks.val, z.pairs.val, z.sessions.val]] Tryz_mixed ?_
 refine Mih ?_ (pBk 27 2 1 i0)
 refine Mu ?_ Tryz.call87 (fun bs w hS => pair_Set z.pairs o.a o.b w (hz _ hS.kp).2.1 ho.1 ho.2)
 rintro fp4 y4 hF4 hok4
 refine m_f1 ?_
 refine MsbX [] 2 [vi z.index, z.locks.val, y4.val, z.sessions.val] ?_
 refine Mt [((mPSet z.pairs.xs o.a o.b).2.1).val] fun bs w hS => ?_
 have hS2 := hS.f1.f1
 have hm : mDo (z.locks.xs.map CLock.abs) z.pairs.xs who o = (z.locks.xs.map CLock.abs, (mPSet z.pairs.xs o.a o.b).1, (mPSet z.pairs.xs o.a o.b).2.1) := by grind [mDo]
 refine ⟨(none, some (fp4, y4)), ?_, ⟨?_, ?_⟩, (hS2.turnedN (fun _ h => h)).as (fun h r hr => ?_) (by simp [allR, lkR, noR])⟩
 · rw [hm] <;> rfl
 · rw [hm] <;> rfl
 · rw [hm] <;> exact hF4
 · simp only [List.mem_cons, List.not_mem_nil, or_false] at hr
   rcases hr with rfl | rfl
   · trivial
   · exact h _ i0

theorem machine_Apply {B : Nat → Prop} (x : CState) (t : ByteArray) (w : World) (hx : Rds.sub B w x) (ht : t.size ≤ 9223372036854775807) : Calls Tryz.prog 7 #[x.val, vs t] w fun e w' => ∃ y : CState, e = .returned (.tuple #[y.val, ((mApply x.abs t).2.1).val, vi (mApply x.abs t).2.2]) ∧ y.abs = (mApply x.abs t).1 ∧ FreshS w w' y := by
 have okx := Rds.okof hx
 refine M0 ?_ Tryz.func7
 refine Mp ?_ Tryz.call20 (fun bs w hS => machine_Check x w (Rds.kp hx hS.kp))
 refine Mdn (mState x.abs = 0) (fun h1 => ?_) fun h1 => ?_
 rotate_left
 · refine Mt [vA, vz 0, vi (mState x.abs)] fun bs w hS => ?_
   have hm := apply_bad (t := t) h1
   refine ⟨(⟨0, Sl.nil, Sl.nil, Sl.nil⟩ : CState), ?_, ?_, hS.outS (y := (⟨0, Sl.nil, Sl.nil, Sl.nil⟩ : CState)) ⟨Sl.rd_nil _ _, Sl.rd_nil _ _, Sl.rd_nil _ _⟩⟩
   · rw [hm] <;> rfl
   · rw [hm] <;> rfl
 have hsi := state_idx h1
 have hsi1 : 0 ≤ x.index := hsi.1
 have hsi2 : x.index ≤ 1073741824 := hsi.2
 refine Md (x.index = 1073741824) (fun h2 => ?_) fun h2 => ?_
 · refine Mt [vA, vz 0, vi 2] fun bs w hS => ?_
   have hm := apply_end (t := t) h1 (by show _ ≤ x.index; omega)
   refine ⟨(⟨0, Sl.nil, Sl.nil, Sl.nil⟩ : CState), ?_, ?_, hS.outS (y := (⟨0, Sl.nil, Sl.nil, Sl.nil⟩ : CState)) ⟨Sl.rd_nil _ _, Sl.rd_nil _ _, Sl.rd_nil _ _⟩⟩
   · rw [hm] <;> rfl
   · rw [hm] <;> rfl
 refine Mp ?_ Tryz.call21 (fun bs w hS => command_Decode t w ht)
 refine Mdn ((mDecode t).2 = 0) (fun h3 => ?_) fun h3 => ?_
 rotate_left
 · refine Mt [vA, vz 0, vi (mDecode t).2] fun bs w hS => ?_
   have hm := apply_dec h1 (by show ¬ _ ≤ x.index; omega) h3
   refine ⟨(⟨0, Sl.nil, Sl.nil, Sl.nil⟩ : CState), ?_, ?_, hS.outS (y := (⟨0, Sl.nil, Sl.nil, Sl.nil⟩ : CState)) ⟨Sl.rd_nil _ _, Sl.rd_nil _ _, Sl.rd_nil _ _⟩⟩
   · rw [hm] <;> rfl
   · rw [hm] <;> rfl
 obtain ⟨hcb1, hcb2, hcb3, hcb4, hcb5, hcb6⟩ := cmd_bd (mDecode_ok h3).1
 refine Mu ?_ Tryz.call22 (fun bs w hS => machine_Copy x w (Rds.kp hx hS.kp) (small_state (by assumption)))
 rintro fp1 y1 hF1 hok1
 refine Mu ?_ Tryz.call23 (fun bs w hS => session_Fresh y1.sessions y1.index w (hS.res _ i0).2.2)
 rintro fp2 y2 hF2 hok2
 refine Mon 0 ?_ Tryz.call24 (fun bs w hS hb => machine_gone (B := anyB) (B' := anyB) ((⟨y1.index, y1.locks, y1.pairs, y2⟩ : CState)) y1.sessions (bs.getD 0 0) w hb (fun w' hk => ⟨(Sl.rd.wide ((hS.resI 0 hk) _ i1).1 fun _ _ => trivial), (Sl.rd.wide ((hS.resI 0 hk) _ i1).2.1 fun _ _ => trivial), (Sl.rd.wide ((hS.resI 0 hk) _ i0) fun _ _ => trivial)⟩) (fun w' hk => (Sl.rd.wide ((hS.resI 0 hk) _ i1).2.2 fun _ _ => trivial)))
 rintro y3 hF3
 refine Md ((mDecode t).1.kind = 1) (fun h4 => ?_) fun h4 => ?_
 · have hix : y1.index = x.index := congrArg DState.index hF1
   refine Mu ?_ Tryz.call25 (fun bs w hS => session_Join y2 y1.index (mDecode t).1.client w (hS.res _ i1) (by unfold inR; omega))
   rintro fp5 y5 hF5 hok5
   refine Mi ?_ (pR (y1.index + 1))
   refine Mda 5 [] [1, 2] [subR fp5 y5, lkR y3, subR fp2 y2, subR fp1 y1] Tryz_mixed ?_
   refine Mz ?_
   refine Mt [.agg #[vi (y1.index + 1), .slice (lk y1.locks y3).A (lk y1.locks y3).n (lk y1.locks y3).c, y1.pairs.val, y5.val], ((mJoin (y2.xs.map CSession.abs) y1.index (mDecode t).1.client).2.1).val, vi 0] fun bs w hS => ?_
   have e3 : aFresh y1.abs = y2.xs.map CSession.abs := hF2.symm
   have e4 : aLocks y1.abs = (lk y1.locks y3).xs.map CLock.abs := by unfold aLocks; rw [e3]; exact hF3.symm
   have hs : mStep x.abs (mDecode t).1 = _ := (congrArg (fun q => mStep q (mDecode t).1) hF1).symm.trans (step_join e3 e4 h4)
   have hm := apply_ok h1 (by show ¬ _ ≤ x.index; omega) h3 hs
   refine ⟨(⟨y1.index + 1, (lk y1.locks y3), y1.pairs, y5⟩ : CState), ?_, ?_, hS.outS (y := (⟨y1.index + 1, (lk y1.locks y3), y1.pairs, y5⟩ : CState)) ⟨(lk_out (allR_sub (y := y1) i3 (hS.res _ i3)).1 i1 hS.res), (allR_sub (y := y1) i3 (hS.res _ i3)).2.1, (allR_sub (y := y5) i0 (hS.res _ i0))⟩⟩
   · rw [hm] <;> rfl
   · rw [hm]
     show (⟨_, (lk y1.locks y3).xs.map CLock.abs, y1.pairs.xs, y5.xs.map CSession.abs⟩ : DState) = _
     rw [hF5] <;> rfl
 have hix : y1.index = x.index := congrArg DState.index hF1
 refine Md ((mDecode t).1.kind = 3) (fun h5 => ?_) fun h5 => ?_
 · refine Mu ?_ Tryz.call26 (fun bs w hS => session_Leave y2 y1.index (mDecode t).1.client w (hS.res _ i1) (by unfold inR; omega))
   rintro fp6 y6 hF6 hok6
   refine Mon 0 ?_ Tryz.call24 (fun bs w hS hb => machine_gone (B := anyB) (B' := anyB) ((⟨y1.index, (lk y1.locks y3), y1.pairs, y6⟩ : CState)) y2 (bs.getD 0 0) w hb (fun w' hk => ⟨(Sl.rd.wide (lk_rd ((hS.resI 0 hk) _ i3).1 ((hS.resI 0 hk) _ i1)) fun _ _ => trivial), (Sl.rd.wide ((hS.resI 0 hk) _ i3).2.1 fun _ _ => trivial), (Sl.rd.wide ((hS.resI 0 hk) _ i0) fun _ _ => trivial)⟩) (fun w' hk => (Sl.rd.wide ((hS.resI 0 hk) _ i2) fun _ _ => trivial)))
   rintro y7 hF7
   refine Mi ?_ (pR (y1.index + 1))
   refine Mda 5 [] [1, 2] [lkR y7, subR fp6 y6, lkR y3, subR fp2 y2, subR fp1 y1] Tryz_mixed ?_
   refine Mz ?_
   refine Mt [.agg #[vi (y1.index + 1), .slice (lk (lk y1.locks y3) y7).A (lk (lk y1.locks y3) y7).n (lk (lk y1.locks y3) y7).c, y1.pairs.val, y6.val], ((mLeave (y2.xs.map CSession.abs) y1.index (mDecode t).1.client).2.1).val, vi 0] fun bs w hS => ?_
   have e3 : aFresh y1.abs = y2.xs.map CSession.abs := hF2.symm
   have e4 : aLocks y1.abs = (lk y1.locks y3).xs.map CLock.abs := by unfold aLocks; rw [e3]; exact hF3.symm
   have hs : mStep x.abs (mDecode t).1 = _ := (congrArg (fun q => mStep q (mDecode t).1) hF1).symm.trans (step_leave e3 e4 h4 h5)
   have hm := apply_ok h1 (by show ¬ _ ≤ x.index; omega) h3 hs
   refine ⟨(⟨y1.index + 1, (lk (lk y1.locks y3) y7), y1.pairs, y6⟩ : CState), ?_, ?_, hS.outS (y := (⟨y1.index + 1, (lk (lk y1.locks y3) y7), y1.pairs, y6⟩ : CState)) ⟨(lk_out (lk_out (allR_sub (y := y1) i4 (hS.res _ i4)).1 i2 hS.res) i0 hS.res), (allR_sub (y := y1) i4 (hS.res _ i4)).2.1, (allR_sub (y := y6) i1 (hS.res _ i1))⟩⟩
   · rw [hm] <;> rfl
   · rw [hm]
     show (⟨_, (lk (lk y1.locks y3) y7).xs.map CLock.abs, y1.pairs.xs, y6.xs.map CSession.abs⟩ : DState) = _
     rw [hF7, hF6] <;> rfl
 refine Mu ?_ Tryz.call27 (fun bs w hS => session_Ready y2 y1.index (mDecode t).1 w (hS.res _ i1) (by unfold inR; omega) ⟨hcb5, hcb6⟩)
 rintro fp9 y9 hF9 hok9
 refine Mb (mReady (y2.xs.map CSession.abs) y1.index (mDecode t).1).2.2.1 (fun h6 => ?_) fun h6 => ?_
 rotate_left
 · refine Mi ?_ (pR (y1.index + 1))
   refine Mda 5 [] [1, 2] [subR fp9 y9, lkR y3, subR fp2 y2, subR fp1 y1] Tryz_mixed ?_
   refine Mz ?_
   refine Mt [.agg #[vi (y1.index + 1), .slice (lk y1.locks y3).A (lk y1.locks y3).n (lk y1.locks y3).c, y1.pairs.val, y9.val], ((mReady (y2.xs.map CSession.abs) y1.index (mDecode t).1).2.1).val, vi 0] fun bs w hS => ?_
   have e3 : aFresh y1.abs = y2.xs.map CSession.abs := hF2.symm
   have e4 : aLocks y1.abs = (lk y1.locks y3).xs.map CLock.abs := by unfold aLocks; rw [e3]; exact hF3.symm
   have hs : mStep x.abs (mDecode t).1 = _ := (congrArg (fun q => mStep q (mDecode t).1) hF1).symm.trans (step_not e3 e4 h4 h5 h6)
   have hm := apply_ok h1 (by show ¬ _ ≤ x.index; omega) h3 hs
   refine ⟨(⟨y1.index + 1, (lk y1.locks y3), y1.pairs, y9⟩ : CState), ?_, ?_, hS.outS (y := (⟨y1.index + 1, (lk y1.locks y3), y1.pairs, y9⟩ : CState)) ⟨(lk_out (allR_sub (y := y1) i3 (hS.res _ i3)).1 i1 hS.res), (allR_sub (y := y1) i3 (hS.res _ i3)).2.1, (allR_sub (y := y9) i0 (hS.res _ i0))⟩⟩
   · rw [hm] <;> rfl
   · rw [hm]
     show (⟨_, (lk y1.locks y3).xs.map CLock.abs, y1.pairs.xs, y9.xs.map CSession.abs⟩ : DState) = _
     rw [hF9] <;> rfl
 refine Mon 0 ?_ Tryz.call28 (fun bs w hS hb => machine_do (B := anyB) (B' := anyB) ((⟨y1.index, (lk y1.locks y3), y1.pairs, y9⟩ : CState)) (mDecode t).1.client (mDecode t).1.op (bs.getD 0 0) w hb (fun w' hk => ⟨(Sl.rd.wide (lk_rd ((hS.resI 0 hk) _ i3).1 ((hS.resI 0 hk) _ i1)) fun _ _ => trivial), (Sl.rd.wide ((hS.resI 0 hk) _ i3).2.1 fun _ _ => trivial), (Sl.rd.wide ((hS.resI 0 hk) _ i0) fun _ _ => trivial)⟩) ⟨hcb5, hcb6⟩)
 rintro y10 hF10
 refine m_split2 ?_
 have hdt10 := mDo_text (L := (lk y1.locks y3).xs.map CLock.abs) (P := y1.pairs.xs) (fun p hp => mem_getD (P := fun p : DPair => p.value.size ≤ 9223372036854775807) (fun j hj => ((hok1.2.1).2.2 j hj).2.2) p hp) (mDecode t).1.client (mDecode t).1.op
 refine Mi ?_ (pR (y1.index + 1))
 refine Mu ?_ Tryz.call29 (fun bs w hS => session_Keep y9 (y1.index + 1) (mDecode t).1.client (mDecode t).1.seq (mDo ((lk y1.locks y3).xs.map CLock.abs) y1.pairs.xs (mDecode t).1.client (mDecode t).1.op).2.2 w (hS.res _ i2) (by unfold inR; omega) (by unfold inR; omega) (by first | assumption | omega | (simp only [emp_size]; omega)))
 rintro fp12 y12 hF12 hok12
 refine Mi ?_ (pR (y1.index + 1))
 refine Mda 5 [] [1, 2] [subR fp12 y12, lkR y10.1, lkR y10.2, subR fp9 y9, lkR y3, subR fp2 y2, subR fp1 y1] Tryz_mixed ?_
 refine Mz ?_
 refine Mt [.agg #[vi (y1.index + 1), .slice (lk (lk y1.locks y3) y10.1).A (lk (lk y1.locks y3) y10.1).n (lk (lk y1.locks y3) y10.1).c, .slice (lk y1.pairs y10.2).A (lk y1.pairs y10.2).n (lk y1.pairs y10.2).c, y12.val], ((mDo ((lk y1.locks y3).xs.map CLock.abs) y1.pairs.xs (mDecode t).1.client (mDecode t).1.op).2.2).val, vi 0] fun bs w hS => ?_
 have e3 : aFresh y1.abs = y2.xs.map CSession.abs := hF2.symm
 have e4 : aLocks y1.abs = (lk y1.locks y3).xs.map CLock.abs := by unfold aLocks; rw [e3]; exact hF3.symm
 have hs : mStep x.abs (mDecode t).1 = _ := (congrArg (fun q => mStep q (mDecode t).1) hF1).symm.trans (step_do e3 e4 h4 h5 h6)
 have hm := apply_ok h1 (by show ¬ _ ≤ x.index; omega) h3 hs
 refine ⟨(⟨y1.index + 1, (lk (lk y1.locks y3) y10.1), (lk y1.pairs y10.2), y12⟩ : CState), ?_, ?_, hS.outS (y := (⟨y1.index + 1, (lk (lk y1.locks y3) y10.1), (lk y1.pairs y10.2), y12⟩ : CState)) ⟨(lk_out (lk_out (allR_sub (y := y1) i6 (hS.res _ i6)).1 i4 hS.res) i1 hS.res), (lk_out (allR_sub (y := y1) i6 (hS.res _ i6)).2.1 i2 hS.res), (allR_sub (y := y12) i0 (hS.res _ i0))⟩⟩
 · rw [hm] <;> rfl
 · rw [hm]
   show (⟨_, (lk (lk y1.locks y3) y10.1).xs.map CLock.abs, (lk y1.pairs y10.2).xs, y12.xs.map CSession.abs⟩ : DState) = _
   rw [hF10.1, hF10.2, hF12, hF9] <;> rfl

theorem ref_released {B1 B2 B3 : Nat → Prop} (s : Sl CLock) (a b : Sl CSession) (w : World) (hs : s.rd B1 w) (ha : a.rd B2 w) (hb : b.rd B3 w) : Calls Tryz.prog 33 #[s.val, a.val, b.val] w fun e w' => ∃ y : Option (List Nat × Sl CLock), e = .returned (lk s y).val ∧ (lk s y).xs.map CLock.abs = mRel (s.xs.map CLock.abs) (a.xs.map CSession.abs) (b.xs.map CSession.abs) ∧ Kp [] w w' ∧ Fresh w w' (lkR y) := by
 have oka := Sl.rd.ok ha
 have nca := Sl.ok.nc oka
 have hna : a.n = a.xs.length := rfl
 have okb := Sl.rd.ok hb
 have ncb := Sl.ok.nc okb
 have oks := Sl.rd.ok hs
 have ncs := Sl.ok.nc oks
 refine M0 ?_ Tryz.func33
 refine m_nores (lkR (none : Option (List Nat × Sl CLock))) rfl (fun w => trivial) ?_
 refine Ml (σ := Nat × Option (List Nat × Sl CLock)) (fun ⟨i, o⟩ => i ≤ a.n ∧ (lk s o).xs.map CLock.abs = mRel (s.xs.map CLock.abs) ((a.xs.map CSession.abs).take i) (b.xs.map CSession.abs)) (fun ⟨i, o⟩ => a.n - i) (fun ⟨i, o⟩ => [lkR o]) [7, 0, 1, 2] (fun ⟨i, o⟩ => [(7, vI (i : Int)), (0, .v (.slice (lk s o).A (lk s o).n (lk s o).c))]) (fun _ => []) ?_ (⟨0, none⟩) ⟨Nat.zero_le _, rfl⟩
 rintro ⟨i, o⟩ ⟨hi, hI⟩ _ on1
 refine Md ((i : Int) < (a.n : Int)) (fun h1 => ?_) fun h1 => ?_
 rotate_left
 · refine Mt [.slice (lk s o).A (lk s o).n (lk s o).c] fun bs w hS => ?_
   have hte : (a.xs.map CSession.abs).take i = a.xs.map CSession.abs := List.take_of_length_le (by rw [List.length_map]; omega)
   rw [hte] at hI
   exact ⟨o, rfl, hI, hS.kp, hS.out1⟩
 refine Mi ?_ (pc (pI 17 (i : Int) i (rdk ha)) (pF 19 i 0 1 (rdk ha)))
 refine Mp ?_ Tryz.call98 (fun bs w hS => tackroomref_sessionAt b (a.at i).client w (Sl.rd.kp hb hS.kp))
 refine Md (mIdx (fun x : CSession => decide (x.client = (a.at i).client)) b.xs < 0) (fun h2 => ?_) fun h2 => ?_
 rotate_left
 · refine Mi ?_ (pR ((i : Int) + 1))
   have hsx : sIdx (b.xs.map CSession.abs) (a.at i).abs.client = mIdx (fun x : CSession => decide (x.client = (a.at i).client)) b.xs := (mIdx_map CSession.abs (fun x : DSession => decide (x.client = (a.at i).client)) b.xs).symm
   have hgo : (lk s (o)).xs.map CLock.abs = if sIdx (b.xs.map CSession.abs) (a.at i).abs.client < 0 then (mGone ((lk s o).xs.map CLock.abs) (a.at i).abs.client).1 else (lk s o).xs.map CLock.abs := by rw [hsx, if_neg h2]
   exact on1 ⟨i + 1, o⟩ ⟨by omega, rel_next (by rw [List.length_map]; omega) (sabs_at i) hI hgo⟩ (by show a.n - (i + 1) < a.n - i; omega)
 refine Mi ?_ (pc (pI 26 (i : Int) i (rdk ha)) (pF 28 i 0 1 (rdk ha)))
 refine Mu ?_ Tryz.call99 (fun bs w hS => ref_GoneOf (lk s o) (a.at i).client w (lk_rd (Sl.rd.kp hs hS.kp) (hS.res _ i0)))
 rintro fp1 y1 hF1 hok1
 refine Mi ?_ (pR ((i : Int) + 1))
 have hsx : sIdx (b.xs.map CSession.abs) (a.at i).abs.client = mIdx (fun x : CSession => decide (x.client = (a.at i).client)) b.xs := (mIdx_map CSession.abs (fun x : DSession => decide (x.client = (a.at i).client)) b.xs).symm
 refine m_f1 ?_
 refine m_weak noR (List.nil_sublist _) (fun _ _ => trivial) ?_
 refine m_f1 ?_
 refine m_join (lkR (some (fp1, y1))) (by show List.Perm fp1 (fp1 ++ []); rw [List.append_nil]) (fun w h1 h2 => h1) ?_
 have hgo : (lk s (some (fp1, y1))).xs.map CLock.abs = if sIdx (b.xs.map CSession.abs) (a.at i).abs.client < 0 then (mGone ((lk s o).xs.map CLock.abs) (a.at i).abs.client).1 else (lk s o).xs.map CLock.abs := by rw [hsx, if_pos h2]; exact hF1
 exact on1 ⟨i + 1, some (fp1, y1)⟩ ⟨by omega, rel_next (by rw [List.length_map]; omega) (sabs_at i) hI hgo⟩ (by show a.n - (i + 1) < a.n - i; omega)

theorem ref_AppliedOf {B : Nat → Prop} (x : CState) (t : ByteArray) (w : World) (hx : Rds.sub B w x) (ht : t.size ≤ 9223372036854775807) : Calls Tryz.prog 8 #[x.val, vs t] w fun e w' => ∃ y : CState, e = .returned (.tuple #[y.val, ((mApply x.abs t).2.1).val, vi (mApply x.abs t).2.2]) ∧ y.abs = (mApply x.abs t).1 ∧ FreshS w w' y := by
 have okx := Rds.okof hx
 refine M0 ?_ Tryz.func8
 refine Mp ?_ Tryz.call30 (fun bs w hS => ref_StateFault x w (Rds.kp hx hS.kp))
 refine Md (mState x.abs = 0) (fun h1 => ?_) fun h1 => ?_
 rotate_left
 · refine My false true ?_ (df h1)
   refine Mt [vA, vz 0, vi (mState x.abs)] fun bs w hS => ?_
   have hm := apply_bad (t := t) h1
   refine ⟨(⟨0, Sl.nil, Sl.nil, Sl.nil⟩ : CState), ?_, ?_, hS.outS (y := (⟨0, Sl.nil, Sl.nil, Sl.nil⟩ : CState)) ⟨Sl.rd_nil _ _, Sl.rd_nil _ _, Sl.rd_nil _ _⟩⟩
   · rw [hm] <;> rfl
   · rw [hm] <;> rfl
 have hsi := state_idx h1
 have hsi1 : 0 ≤ x.index := hsi.1
 have hsi2 : x.index ≤ 1073741824 := hsi.2
 refine Md ((1073741824 : Int) ≤ x.index) (fun h2 => ?_) fun h2 => ?_
 · refine Mq 34 true ?_ rfl
   refine Mt [vA, vz 0, vi 2] fun bs w hS => ?_
   have hm := apply_end (t := t) h1 (by show _ ≤ x.index; omega)
   refine ⟨(⟨0, Sl.nil, Sl.nil, Sl.nil⟩ : CState), ?_, ?_, hS.outS (y := (⟨0, Sl.nil, Sl.nil, Sl.nil⟩ : CState)) ⟨Sl.rd_nil _ _, Sl.rd_nil _ _, Sl.rd_nil _ _⟩⟩
   · rw [hm] <;> rfl
   · rw [hm] <;> rfl
 refine My true true ?_ (dt h1)
 refine Mp ?_ Tryz.call31 (fun bs w hS => ref_CommandOf t w ht)
 refine Mdn ((mDecode t).2 = 0) (fun h4 => ?_) fun h4 => ?_
 rotate_left
 · refine Mt [vA, vz 0, vi (mDecode t).2] fun bs w hS => ?_
   have hm := apply_dec h1 (by show ¬ _ ≤ x.index; omega) h4
   refine ⟨(⟨0, Sl.nil, Sl.nil, Sl.nil⟩ : CState), ?_, ?_, hS.outS (y := (⟨0, Sl.nil, Sl.nil, Sl.nil⟩ : CState)) ⟨Sl.rd_nil _ _, Sl.rd_nil _ _, Sl.rd_nil _ _⟩⟩
   · rw [hm] <;> rfl
   · rw [hm] <;> rfl
 obtain ⟨hcb1, hcb2, hcb3, hcb4, hcb5, hcb6⟩ := cmd_bd (mDecode_ok h4).1
 refine Mu ?_ Tryz.call6 (fun bs w hS => ref_StateCopy x w (Rds.kp hx hS.kp) (small_state (by assumption)))
 rintro fp1 y1 hF1 hok1
 refine Mu ?_ Tryz.call32 (fun bs w hS => ref_FreshOf y1.sessions x.index w (hS.res _ i0).2.2)
 rintro fp2 y2 hF2 hok2
 refine Mf ?_ Tryz.call33 (fun bs w hS => ref_released y1.locks y1.sessions y2 w (hS.res _ i1).1 (hS.res _ i1).2.2 (hS.res _ i0))
 rintro y3 hF3
 refine Md ((mDecode t).1.kind = 1) (fun h5 => ?_) fun h5 => ?_
 · have hix : y1.index = x.index := congrArg DState.index hF1
   refine Mu ?_ Tryz.call34 (fun bs w hS => ref_JoinedOf y2 x.index (mDecode t).1.client w (hS.res _ i1) (by unfold inR; omega))
   rintro fp5 y5 hF5 hok5
   refine Mi ?_ (pR (x.index + 1))
   refine Mda 5 [] [1, 2] [subR fp5 y5, lkR y3, subR fp2 y2, subR fp1 y1] Tryz_mixed ?_
   refine Mz ?_
   refine Mt [.agg #[vi (x.index + 1), .slice (lk y1.locks y3).A (lk y1.locks y3).n (lk y1.locks y3).c, y1.pairs.val, y5.val], ((mJoin (y2.xs.map CSession.abs) x.index (mDecode t).1.client).2.1).val, vi 0] fun bs w hS => ?_
   have e3 : aFresh y1.abs = y2.xs.map CSession.abs := by unfold aFresh; rw [show y1.abs.index = x.index from hix]; exact hF2.symm
   have e4 : aLocks y1.abs = (lk y1.locks y3).xs.map CLock.abs := by unfold aLocks; rw [e3]; exact hF3.symm
   have hs : mStep x.abs (mDecode t).1 = _ := (congrArg (fun q => mStep q (mDecode t).1) hF1).symm.trans (step_join e3 e4 h5)
   rw [show y1.abs.index = x.index from hix] at hs
   have hm := apply_ok h1 (by show ¬ _ ≤ x.index; omega) h4 hs
   refine ⟨(⟨x.index + 1, (lk y1.locks y3), y1.pairs, y5⟩ : CState), ?_, ?_, hS.outS (y := (⟨x.index + 1, (lk y1.locks y3), y1.pairs, y5⟩ : CState)) ⟨(lk_out (allR_sub (y := y1) i3 (hS.res _ i3)).1 i1 hS.res), (allR_sub (y := y1) i3 (hS.res _ i3)).2.1, (allR_sub (y := y5) i0 (hS.res _ i0))⟩⟩
   · rw [hm] <;> rfl
   · rw [hm]
     show (⟨_, (lk y1.locks y3).xs.map CLock.abs, y1.pairs.xs, y5.xs.map CSession.abs⟩ : DState) = _
     rw [hF5] <;> rfl
 have hix : y1.index = x.index := congrArg DState.index hF1
 refine Md ((mDecode t).1.kind = 3) (fun h6 => ?_) fun h6 => ?_
 · refine Mu ?_ Tryz.call35 (fun bs w hS => ref_LeftOf y2 x.index (mDecode t).1.client w (hS.res _ i1) (by unfold inR; omega))
   rintro fp6 y6 hF6 hok6
   refine Mf ?_ Tryz.call33 (fun bs w hS => ref_released (lk y1.locks y3) y2 y6 w (lk_rd (hS.res _ i3).1 (hS.res _ i1)) (hS.res _ i2) (hS.res _ i0))
   rintro y7 hF7
   refine Mi ?_ (pR (x.index + 1))
   refine Mda 5 [] [1, 2] [lkR y7, subR fp6 y6, lkR y3, subR fp2 y2, subR fp1 y1] Tryz_mixed ?_
   refine Mz ?_
   refine Mt [.agg #[vi (x.index + 1), .slice (lk (lk y1.locks y3) y7).A (lk (lk y1.locks y3) y7).n (lk (lk y1.locks y3) y7).c, y1.pairs.val, y6.val], ((mLeave (y2.xs.map CSession.abs) x.index (mDecode t).1.client).2.1).val, vi 0] fun bs w hS => ?_
   have e3 : aFresh y1.abs = y2.xs.map CSession.abs := by unfold aFresh; rw [show y1.abs.index = x.index from hix]; exact hF2.symm
   have e4 : aLocks y1.abs = (lk y1.locks y3).xs.map CLock.abs := by unfold aLocks; rw [e3]; exact hF3.symm
   have hs : mStep x.abs (mDecode t).1 = _ := (congrArg (fun q => mStep q (mDecode t).1) hF1).symm.trans (step_leave e3 e4 h5 h6)
   rw [show y1.abs.index = x.index from hix] at hs
   have hm := apply_ok h1 (by show ¬ _ ≤ x.index; omega) h4 hs
   refine ⟨(⟨x.index + 1, (lk (lk y1.locks y3) y7), y1.pairs, y6⟩ : CState), ?_, ?_, hS.outS (y := (⟨x.index + 1, (lk (lk y1.locks y3) y7), y1.pairs, y6⟩ : CState)) ⟨(lk_out (lk_out (allR_sub (y := y1) i4 (hS.res _ i4)).1 i2 hS.res) i0 hS.res), (allR_sub (y := y1) i4 (hS.res _ i4)).2.1, (allR_sub (y := y6) i1 (hS.res _ i1))⟩⟩
   · rw [hm] <;> rfl
   · rw [hm]
     show (⟨_, (lk (lk y1.locks y3) y7).xs.map CLock.abs, y1.pairs.xs, y6.xs.map CSession.abs⟩ : DState) = _
     rw [hF7, hF6] <;> rfl
 refine Mu ?_ Tryz.call36 (fun bs w hS => ref_ReadyOf y2 x.index (mDecode t).1 w (hS.res _ i1) (by unfold inR; omega) ⟨hcb5, hcb6⟩)
 rintro fp9 y9 hF9 hok9
 refine Mb (mReady (y2.xs.map CSession.abs) x.index (mDecode t).1).2.2.1 (fun h7 => ?_) fun h7 => ?_
 rotate_left
 · refine Mi ?_ (pR (x.index + 1))
   refine Mda 5 [] [1, 2] [subR fp9 y9, lkR y3, subR fp2 y2, subR fp1 y1] Tryz_mixed ?_
   refine Mz ?_
   refine Mt [.agg #[vi (x.index + 1), .slice (lk y1.locks y3).A (lk y1.locks y3).n (lk y1.locks y3).c, y1.pairs.val, y9.val], ((mReady (y2.xs.map CSession.abs) x.index (mDecode t).1).2.1).val, vi 0] fun bs w hS => ?_
   have e3 : aFresh y1.abs = y2.xs.map CSession.abs := by unfold aFresh; rw [show y1.abs.index = x.index from hix]; exact hF2.symm
   have e4 : aLocks y1.abs = (lk y1.locks y3).xs.map CLock.abs := by unfold aLocks; rw [e3]; exact hF3.symm
   have hs : mStep x.abs (mDecode t).1 = _ := (congrArg (fun q => mStep q (mDecode t).1) hF1).symm.trans (step_not e3 e4 h5 h6 (by rw [show y1.abs.index = x.index from hix]; exact h7))
   rw [show y1.abs.index = x.index from hix] at hs
   have hm := apply_ok h1 (by show ¬ _ ≤ x.index; omega) h4 hs
   refine ⟨(⟨x.index + 1, (lk y1.locks y3), y1.pairs, y9⟩ : CState), ?_, ?_, hS.outS (y := (⟨x.index + 1, (lk y1.locks y3), y1.pairs, y9⟩ : CState)) ⟨(lk_out (allR_sub (y := y1) i3 (hS.res _ i3)).1 i1 hS.res), (allR_sub (y := y1) i3 (hS.res _ i3)).2.1, (allR_sub (y := y9) i0 (hS.res _ i0))⟩⟩
   · rw [hm] <;> rfl
   · rw [hm]
     show (⟨_, (lk y1.locks y3).xs.map CLock.abs, y1.pairs.xs, y9.xs.map CSession.abs⟩ : DState) = _
     rw [hF9] <;> rfl
 refine Mp ?_ Tryz.call37 (fun bs w hS => ref_HolderOf (lk y1.locks y3) (mDecode t).1.op.a w (lk_rd (hS.res _ i3).1 (hS.res _ i1)))
 refine Md ((mDecode t).1.op.kind = 1) (fun h8 => ?_) fun h8 => ?_
 · refine Mu ?_ Tryz.call38 (fun bs w hS => ref_TakenOf (lk y1.locks y3) (mDecode t).1.op.a (mDecode t).1.client false w (lk_rd (hS.res _ i3).1 (hS.res _ i1)) hcb5)
   rintro fp10 y10 hF10 hok10
   refine Mi ?_ (pR (x.index + 1))
   refine Mu ?_ Tryz.call42 (fun bs w hS => ref_KeptOf y9 (x.index + 1) (mDecode t).1.client (mDecode t).1.seq (mTake ((lk y1.locks y3).xs.map CLock.abs) (mDecode t).1.op.a (mDecode t).1.client false).2.1 w (hS.res _ i1) (by unfold inR; omega) (by unfold inR; omega) (by rw [mTake_text]; exact Nat.zero_le _))
   rintro fp11 y11 hF11 hok11
   refine Mi ?_ (pR (x.index + 1))
   refine Mda 5 [] [1, 2] [subR fp11 y11, subR fp10 y10, subR fp9 y9, lkR y3, subR fp2 y2, subR fp1 y1] Tryz_mixed ?_
   refine Mz ?_
   refine Mt [.agg #[vi (x.index + 1), y10.val, y1.pairs.val, y11.val], ((mTake ((lk y1.locks y3).xs.map CLock.abs) (mDecode t).1.op.a (mDecode t).1.client false).2.1).val, vi 0] fun bs w hS => ?_
   have e3 : aFresh y1.abs = y2.xs.map CSession.abs := by unfold aFresh; rw [show y1.abs.index = x.index from hix]; exact hF2.symm
   have e4 : aLocks y1.abs = (lk y1.locks y3).xs.map CLock.abs := by unfold aLocks; rw [e3]; exact hF3.symm
   have hs : mStep x.abs (mDecode t).1 = _ := (congrArg (fun q => mStep q (mDecode t).1) hF1).symm.trans (step_do e3 e4 h5 h6 (by rw [show y1.abs.index = x.index from hix]; exact h7))
   rw [show y1.abs.index = x.index from hix] at hs
   have hmD : mDo ((lk y1.locks y3).xs.map CLock.abs) y1.pairs.xs (mDecode t).1.client (mDecode t).1.op = ((mTake ((lk y1.locks y3).xs.map CLock.abs) (mDecode t).1.op.a (mDecode t).1.client false).1, y1.pairs.xs, (mTake ((lk y1.locks y3).xs.map CLock.abs) (mDecode t).1.op.a (mDecode t).1.client false).2.1) := by unfold mDo; rw [if_pos (.inl h8), show decide ((mDecode t).1.op.kind = 2) = false from decide_eq_false (by omega)]
   rw [show y1.abs.pairs = y1.pairs.xs from rfl, hmD] at hs
   have hm := apply_ok h1 (by show ¬ _ ≤ x.index; omega) h4 hs
   refine ⟨(⟨x.index + 1, y10, y1.pairs, y11⟩ : CState), ?_, ?_, hS.outS (y := (⟨x.index + 1, y10, y1.pairs, y11⟩ : CState)) ⟨(allR_sub (y := y10) i1 (hS.res _ i1)), (allR_sub (y := y1) i5 (hS.res _ i5)).2.1, (allR_sub (y := y11) i0 (hS.res _ i0))⟩⟩
   · rw [hm] <;> rfl
   · rw [hm]
     show (⟨_, y10.xs.map CLock.abs, y1.pairs.xs, y11.xs.map CSession.abs⟩ : DState) = _
     rw [hF10, hF11, hF9] <;> rfl
 refine Md ((mDecode t).1.op.kind = 2) (fun h9 => ?_) fun h9 => ?_
 · refine Mu ?_ Tryz.call38 (fun bs w hS => ref_TakenOf (lk y1.locks y3) (mDecode t).1.op.a (mDecode t).1.client true w (lk_rd (hS.res _ i3).1 (hS.res _ i1)) hcb5)
   rintro fp12 y12 hF12 hok12
   refine Mi ?_ (pR (x.index + 1))
   refine Mu ?_ Tryz.call42 (fun bs w hS => ref_KeptOf y9 (x.index + 1) (mDecode t).1.client (mDecode t).1.seq (mTake ((lk y1.locks y3).xs.map CLock.abs) (mDecode t).1.op.a (mDecode t).1.client true).2.1 w (hS.res _ i1) (by unfold inR; omega) (by unfold inR; omega) (by rw [mTake_text]; exact Nat.zero_le _))
   rintro fp13 y13 hF13 hok13
   refine Mi ?_ (pR (x.index + 1))
   refine Mda 5 [] [1, 2] [subR fp13 y13, subR fp12 y12, subR fp9 y9, lkR y3, subR fp2 y2, subR fp1 y1] Tryz_mixed ?_
   refine Mz ?_
   refine Mt [.agg #[vi (x.index + 1), y12.val, y1.pairs.val, y13.val], ((mTake ((lk y1.locks y3).xs.map CLock.abs) (mDecode t).1.op.a (mDecode t).1.client true).2.1).val, vi 0] fun bs w hS => ?_
   have e3 : aFresh y1.abs = y2.xs.map CSession.abs := by unfold aFresh; rw [show y1.abs.index = x.index from hix]; exact hF2.symm
   have e4 : aLocks y1.abs = (lk y1.locks y3).xs.map CLock.abs := by unfold aLocks; rw [e3]; exact hF3.symm
   have hs : mStep x.abs (mDecode t).1 = _ := (congrArg (fun q => mStep q (mDecode t).1) hF1).symm.trans (step_do e3 e4 h5 h6 (by rw [show y1.abs.index = x.index from hix]; exact h7))
   rw [show y1.abs.index = x.index from hix] at hs
   have hmD : mDo ((lk y1.locks y3).xs.map CLock.abs) y1.pairs.xs (mDecode t).1.client (mDecode t).1.op = ((mTake ((lk y1.locks y3).xs.map CLock.abs) (mDecode t).1.op.a (mDecode t).1.client true).1, y1.pairs.xs, (mTake ((lk y1.locks y3).xs.map CLock.abs) (mDecode t).1.op.a (mDecode t).1.client true).2.1) := by grind [mDo]
   rw [show y1.abs.pairs = y1.pairs.xs from rfl, hmD] at hs
   have hm := apply_ok h1 (by show ¬ _ ≤ x.index; omega) h4 hs
   refine ⟨(⟨x.index + 1, y12, y1.pairs, y13⟩ : CState), ?_, ?_, hS.outS (y := (⟨x.index + 1, y12, y1.pairs, y13⟩ : CState)) ⟨(allR_sub (y := y12) i1 (hS.res _ i1)), (allR_sub (y := y1) i5 (hS.res _ i5)).2.1, (allR_sub (y := y13) i0 (hS.res _ i0))⟩⟩
   · rw [hm] <;> rfl
   · rw [hm]
     show (⟨_, y12.xs.map CLock.abs, y1.pairs.xs, y13.xs.map CSession.abs⟩ : DState) = _
     rw [hF12, hF13, hF9] <;> rfl
 refine Md ((mDecode t).1.op.kind = 3) (fun h10 => ?_) fun h10 => ?_
 · refine Mu ?_ Tryz.call39 (fun bs w hS => ref_FreedOf (lk y1.locks y3) (mDecode t).1.op.a (mDecode t).1.client w (lk_rd (hS.res _ i3).1 (hS.res _ i1)) hcb5)
   rintro fp14 y14 hF14 hok14
   refine Mi ?_ (pR (x.index + 1))
   refine Mu ?_ Tryz.call42 (fun bs w hS => ref_KeptOf y9 (x.index + 1) (mDecode t).1.client (mDecode t).1.seq (mFree ((lk y1.locks y3).xs.map CLock.abs) (mDecode t).1.op.a (mDecode t).1.client).2.1 w (hS.res _ i1) (by unfold inR; omega) (by unfold inR; omega) (by rw [mFree_text]; exact Nat.zero_le _))
   rintro fp15 y15 hF15 hok15
   refine Mi ?_ (pR (x.index + 1))
   refine Mda 5 [] [1, 2] [subR fp15 y15, subR fp14 y14, subR fp9 y9, lkR y3, subR fp2 y2, subR fp1 y1] Tryz_mixed ?_
   refine Mz ?_
   refine Mt [.agg #[vi (x.index + 1), y14.val, y1.pairs.val, y15.val], ((mFree ((lk y1.locks y3).xs.map CLock.abs) (mDecode t).1.op.a (mDecode t).1.client).2.1).val, vi 0] fun bs w hS => ?_
   have e3 : aFresh y1.abs = y2.xs.map CSession.abs := by unfold aFresh; rw [show y1.abs.index = x.index from hix]; exact hF2.symm
   have e4 : aLocks y1.abs = (lk y1.locks y3).xs.map CLock.abs := by unfold aLocks; rw [e3]; exact hF3.symm
   have hs : mStep x.abs (mDecode t).1 = _ := (congrArg (fun q => mStep q (mDecode t).1) hF1).symm.trans (step_do e3 e4 h5 h6 (by rw [show y1.abs.index = x.index from hix]; exact h7))
   rw [show y1.abs.index = x.index from hix] at hs
   have hmD : mDo ((lk y1.locks y3).xs.map CLock.abs) y1.pairs.xs (mDecode t).1.client (mDecode t).1.op = ((mFree ((lk y1.locks y3).xs.map CLock.abs) (mDecode t).1.op.a (mDecode t).1.client).1, y1.pairs.xs, (mFree ((lk y1.locks y3).xs.map CLock.abs) (mDecode t).1.op.a (mDecode t).1.client).2.1) := by grind [mDo]
   rw [show y1.abs.pairs = y1.pairs.xs from rfl, hmD] at hs
   have hm := apply_ok h1 (by show ¬ _ ≤ x.index; omega) h4 hs
   refine ⟨(⟨x.index + 1, y14, y1.pairs, y15⟩ : CState), ?_, ?_, hS.outS (y := (⟨x.index + 1, y14, y1.pairs, y15⟩ : CState)) ⟨(allR_sub (y := y14) i1 (hS.res _ i1)), (allR_sub (y := y1) i5 (hS.res _ i5)).2.1, (allR_sub (y := y15) i0 (hS.res _ i0))⟩⟩
   · rw [hm] <;> rfl
   · rw [hm]
     show (⟨_, y14.xs.map CLock.abs, y1.pairs.xs, y15.xs.map CSession.abs⟩ : DState) = _
     rw [hF14, hF15, hF9] <;> rfl
 refine Md ((mDecode t).1.op.kind = 4) (fun h11 => ?_) fun h11 => ?_
 · refine Mi ?_ (pR (x.index + 1))
   refine Mu ?_ Tryz.call42 (fun bs w hS => ref_KeptOf y9 (x.index + 1) (mDecode t).1.client (mDecode t).1.seq (⟨0, (mWho ((lk y1.locks y3).xs.map CLock.abs) (mDecode t).1.op.a).1, emp⟩ : DReply) w (hS.res _ i0) (by unfold inR; omega) (by unfold inR; omega) (by first | assumption | omega | (simp only [emp_size]; omega)))
   rintro fp16 y16 hF16 hok16
   refine Mi ?_ (pR (x.index + 1))
   refine Mda 5 [] [1, 2] [subR fp16 y16, subR fp9 y9, lkR y3, subR fp2 y2, subR fp1 y1] Tryz_mixed ?_
   refine Mz ?_
   refine Mt [.agg #[vi (x.index + 1), .slice (lk y1.locks y3).A (lk y1.locks y3).n (lk y1.locks y3).c, y1.pairs.val, y16.val], .agg #[vi 0, vi (mWho ((lk y1.locks y3).xs.map CLock.abs) (mDecode t).1.op.a).1, ve], vi 0] fun bs w hS => ?_
   have e3 : aFresh y1.abs = y2.xs.map CSession.abs := by unfold aFresh; rw [show y1.abs.index = x.index from hix]; exact hF2.symm
   have e4 : aLocks y1.abs = (lk y1.locks y3).xs.map CLock.abs := by unfold aLocks; rw [e3]; exact hF3.symm
   have hs : mStep x.abs (mDecode t).1 = _ := (congrArg (fun q => mStep q (mDecode t).1) hF1).symm.trans (step_do e3 e4 h5 h6 (by rw [show y1.abs.index = x.index from hix]; exact h7))
   rw [show y1.abs.index = x.index from hix] at hs
   have hmD : mDo ((lk y1.locks y3).xs.map CLock.abs) y1.pairs.xs (mDecode t).1.client (mDecode t).1.op = ((lk y1.locks y3).xs.map CLock.abs, y1.pairs.xs, ⟨0, (mWho ((lk y1.locks y3).xs.map CLock.abs) (mDecode t).1.op.a).1, emp⟩) := by grind [mDo]
   rw [show y1.abs.pairs = y1.pairs.xs from rfl, hmD] at hs
   have hm := apply_ok h1 (by show ¬ _ ≤ x.index; omega) h4 hs
   refine ⟨(⟨x.index + 1, (lk y1.locks y3), y1.pairs, y16⟩ : CState), ?_, ?_, hS.outS (y := (⟨x.index + 1, (lk y1.locks y3), y1.pairs, y16⟩ : CState)) ⟨(lk_out (allR_sub (y := y1) i4 (hS.res _ i4)).1 i2 hS.res), (allR_sub (y := y1) i4 (hS.res _ i4)).2.1, (allR_sub (y := y16) i0 (hS.res _ i0))⟩⟩
   · rw [hm] <;> rfl
   · rw [hm]
     show (⟨_, (lk y1.locks y3).xs.map CLock.abs, y1.pairs.xs, y16.xs.map CSession.abs⟩ : DState) = _
     rw [hF16, hF9] <;> rfl
 refine Md ((mDecode t).1.op.kind = 6) (fun h12 => ?_) fun h12 => ?_
 · refine Mp ?_ Tryz.call40 (fun bs w hS => ref_GotOf y1.pairs (mDecode t).1.op.a w (hS.res _ i3).2.1)
   refine Mi ?_ (pR (x.index + 1))
   refine Mu ?_ Tryz.call42 (fun bs w hS => ref_KeptOf y9 (x.index + 1) (mDecode t).1.client (mDecode t).1.seq (mGot y1.pairs.xs (mDecode t).1.op.a).1 w (hS.res _ i0) (by unfold inR; omega) (by unfold inR; omega) (mGot_text (fun p hp => mem_getD (P := fun p : DPair => p.value.size ≤ 9223372036854775807) (fun j hj => ((hok1.2.1).2.2 j hj).2.2) p hp) _))
   rintro fp17 y17 hF17 hok17
   refine Mi ?_ (pR (x.index + 1))
   refine Mda 5 [] [1, 2] [subR fp17 y17, subR fp9 y9, lkR y3, subR fp2 y2, subR fp1 y1] Tryz_mixed ?_
   refine Mz ?_
   refine Mt [.agg #[vi (x.index + 1), .slice (lk y1.locks y3).A (lk y1.locks y3).n (lk y1.locks y3).c, y1.pairs.val, y17.val], (mGot y1.pairs.xs (mDecode t).1.op.a).1.val, vi 0] fun bs w hS => ?_
   have e3 : aFresh y1.abs = y2.xs.map CSession.abs := by unfold aFresh; rw [show y1.abs.index = x.index from hix]; exact hF2.symm
   have e4 : aLocks y1.abs = (lk y1.locks y3).xs.map CLock.abs := by unfold aLocks; rw [e3]; exact hF3.symm
   have hs : mStep x.abs (mDecode t).1 = _ := (congrArg (fun q => mStep q (mDecode t).1) hF1).symm.trans (step_do e3 e4 h5 h6 (by rw [show y1.abs.index = x.index from hix]; exact h7))
   rw [show y1.abs.index = x.index from hix] at hs
   have hmD : mDo ((lk y1.locks y3).xs.map CLock.abs) y1.pairs.xs (mDecode t).1.client (mDecode t).1.op = ((lk y1.locks y3).xs.map CLock.abs, y1.pairs.xs, (mGot y1.pairs.xs (mDecode t).1.op.a).1) := by grind [mDo]
   rw [show y1.abs.pairs = y1.pairs.xs from rfl, hmD] at hs
   have hm := apply_ok h1 (by show ¬ _ ≤ x.index; omega) h4 hs
   refine ⟨(⟨x.index + 1, (lk y1.locks y3), y1.pairs, y17⟩ : CState), ?_, ?_, hS.outS (y := (⟨x.index + 1, (lk y1.locks y3), y1.pairs, y17⟩ : CState)) ⟨(lk_out (allR_sub (y := y1) i4 (hS.res _ i4)).1 i2 hS.res), (allR_sub (y := y1) i4 (hS.res _ i4)).2.1, (allR_sub (y := y17) i0 (hS.res _ i0))⟩⟩
   · rw [hm] <;> rfl
   · rw [hm]
     show (⟨_, (lk y1.locks y3).xs.map CLock.abs, y1.pairs.xs, y17.xs.map CSession.abs⟩ : DState) = _
     rw [hF17, hF9] <;> rfl
 refine Md ((mWho ((lk y1.locks y3).xs.map CLock.abs) (mDecode t).1.op.a).1 = (mDecode t).1.client) (fun h13 => ?_) fun h13 => ?_
 rotate_left
 · refine Mi ?_ (pR (x.index + 1))
   refine Mu ?_ Tryz.call42 (fun bs w hS => ref_KeptOf y9 (x.index + 1) (mDecode t).1.client (mDecode t).1.seq (⟨10, (mWho ((lk y1.locks y3).xs.map CLock.abs) (mDecode t).1.op.a).1, emp⟩ : DReply) w (hS.res _ i0) (by unfold inR; omega) (by unfold inR; omega) (by first | assumption | omega | (simp only [emp_size]; omega)))
   rintro fp21 y21 hF21 hok21
   refine Mi ?_ (pR (x.index + 1))
   refine Mda 5 [] [1, 2] [subR fp21 y21, subR fp9 y9, lkR y3, subR fp2 y2, subR fp1 y1] Tryz_mixed ?_
   refine Mz ?_
   refine Mt [.agg #[vi (x.index + 1), .slice (lk y1.locks y3).A (lk y1.locks y3).n (lk y1.locks y3).c, y1.pairs.val, y21.val], .agg #[vi 10, vi (mWho ((lk y1.locks y3).xs.map CLock.abs) (mDecode t).1.op.a).1, ve], vi 0] fun bs w hS => ?_
   have e3 : aFresh y1.abs = y2.xs.map CSession.abs := by unfold aFresh; rw [show y1.abs.index = x.index from hix]; exact hF2.symm
   have e4 : aLocks y1.abs = (lk y1.locks y3).xs.map CLock.abs := by unfold aLocks; rw [e3]; exact hF3.symm
   have hs : mStep x.abs (mDecode t).1 = _ := (congrArg (fun q => mStep q (mDecode t).1) hF1).symm.trans (step_do e3 e4 h5 h6 (by rw [show y1.abs.index = x.index from hix]; exact h7))
   rw [show y1.abs.index = x.index from hix] at hs
   have hmD : mDo ((lk y1.locks y3).xs.map CLock.abs) y1.pairs.xs (mDecode t).1.client (mDecode t).1.op = ((lk y1.locks y3).xs.map CLock.abs, y1.pairs.xs, ⟨10, (mWho ((lk y1.locks y3).xs.map CLock.abs) (mDecode t).1.op.a).1, emp⟩) := by grind [mDo]
   rw [show y1.abs.pairs = y1.pairs.xs from rfl, hmD] at hs
   have hm := apply_ok h1 (by show ¬ _ ≤ x.index; omega) h4 hs
   refine ⟨(⟨x.index + 1, (lk y1.locks y3), y1.pairs, y21⟩ : CState), ?_, ?_, hS.outS (y := (⟨x.index + 1, (lk y1.locks y3), y1.pairs, y21⟩ : CState)) ⟨(lk_out (allR_sub (y := y1) i4 (hS.res _ i4)).1 i2 hS.res), (allR_sub (y := y1) i4 (hS.res _ i4)).2.1, (allR_sub (y := y21) i0 (hS.res _ i0))⟩⟩
   · rw [hm] <;> rfl
   · rw [hm]
     show (⟨_, (lk y1.locks y3).xs.map CLock.abs, y1.pairs.xs, y21.xs.map CSession.abs⟩ : DState) = _
     rw [hF21, hF9] <;> rfl
 refine Md ((mWho ((lk y1.locks y3).xs.map CLock.abs) (mDecode t).1.op.a).2.1 = (mDecode t).1.op.n) (fun h14 => ?_) fun h14 => ?_
 rotate_left
 · refine Mi ?_ (pR (x.index + 1))
   refine Mu ?_ Tryz.call42 (fun bs w hS => ref_KeptOf y9 (x.index + 1) (mDecode t).1.client (mDecode t).1.seq (⟨10, (mWho ((lk y1.locks y3).xs.map CLock.abs) (mDecode t).1.op.a).1, emp⟩ : DReply) w (hS.res _ i0) (by unfold inR; omega) (by unfold inR; omega) (by first | assumption | omega | (simp only [emp_size]; omega)))
   rintro fp20 y20 hF20 hok20
   refine Mi ?_ (pR (x.index + 1))
   refine Mda 5 [] [1, 2] [subR fp20 y20, subR fp9 y9, lkR y3, subR fp2 y2, subR fp1 y1] Tryz_mixed ?_
   refine Mz ?_
   refine Mt [.agg #[vi (x.index + 1), .slice (lk y1.locks y3).A (lk y1.locks y3).n (lk y1.locks y3).c, y1.pairs.val, y20.val], .agg #[vi 10, vi (mWho ((lk y1.locks y3).xs.map CLock.abs) (mDecode t).1.op.a).1, ve], vi 0] fun bs w hS => ?_
   have e3 : aFresh y1.abs = y2.xs.map CSession.abs := by unfold aFresh; rw [show y1.abs.index = x.index from hix]; exact hF2.symm
   have e4 : aLocks y1.abs = (lk y1.locks y3).xs.map CLock.abs := by unfold aLocks; rw [e3]; exact hF3.symm
   have hs : mStep x.abs (mDecode t).1 = _ := (congrArg (fun q => mStep q (mDecode t).1) hF1).symm.trans (step_do e3 e4 h5 h6 (by rw [show y1.abs.index = x.index from hix]; exact h7))
   rw [show y1.abs.index = x.index from hix] at hs
   have hmD : mDo ((lk y1.locks y3).xs.map CLock.abs) y1.pairs.xs (mDecode t).1.client (mDecode t).1.op = ((lk y1.locks y3).xs.map CLock.abs, y1.pairs.xs, ⟨10, (mWho ((lk y1.locks y3).xs.map CLock.abs) (mDecode t).1.op.a).1, emp⟩) := by grind [mDo]
   rw [show y1.abs.pairs = y1.pairs.xs from rfl, hmD] at hs
   have hm := apply_ok h1 (by show ¬ _ ≤ x.index; omega) h4 hs
   refine ⟨(⟨x.index + 1, (lk y1.locks y3), y1.pairs, y20⟩ : CState), ?_, ?_, hS.outS (y := (⟨x.index + 1, (lk y1.locks y3), y1.pairs, y20⟩ : CState)) ⟨(lk_out (allR_sub (y := y1) i4 (hS.res _ i4)).1 i2 hS.res), (allR_sub (y := y1) i4 (hS.res _ i4)).2.1, (allR_sub (y := y20) i0 (hS.res _ i0))⟩⟩
   · rw [hm] <;> rfl
   · rw [hm]
     show (⟨_, (lk y1.locks y3).xs.map CLock.abs, y1.pairs.xs, y20.xs.map CSession.abs⟩ : DState) = _
     rw [hF20, hF9] <;> rfl
 refine Mu ?_ Tryz.call41 (fun bs w hS => ref_SetOf y1.pairs (mDecode t).1.op.a (mDecode t).1.op.b w (hS.res _ i3).2.1 hcb5 hcb6)
 rintro fp18 y18 hF18 hok18
 refine Mi ?_ (pR (x.index + 1))
 refine Mu ?_ Tryz.call42 (fun bs w hS => ref_KeptOf y9 (x.index + 1) (mDecode t).1.client (mDecode t).1.seq (mPSet y1.pairs.xs (mDecode t).1.op.a (mDecode t).1.op.b).2.1 w (hS.res _ i1) (by unfold inR; omega) (by unfold inR; omega) (by rw [mPSet_text]; exact Nat.zero_le _))
 rintro fp19 y19 hF19 hok19
 refine Mi ?_ (pR (x.index + 1))
 refine Mda 5 [] [1, 2] [subR fp19 y19, subR fp18 y18, subR fp9 y9, lkR y3, subR fp2 y2, subR fp1 y1] Tryz_mixed ?_
 refine Mz ?_
 refine Mt [.agg #[vi (x.index + 1), .slice (lk y1.locks y3).A (lk y1.locks y3).n (lk y1.locks y3).c, y18.val, y19.val], ((mPSet y1.pairs.xs (mDecode t).1.op.a (mDecode t).1.op.b).2.1).val, vi 0] fun bs w hS => ?_
 have e3 : aFresh y1.abs = y2.xs.map CSession.abs := by unfold aFresh; rw [show y1.abs.index = x.index from hix]; exact hF2.symm
 have e4 : aLocks y1.abs = (lk y1.locks y3).xs.map CLock.abs := by unfold aLocks; rw [e3]; exact hF3.symm
 have hs : mStep x.abs (mDecode t).1 = _ := (congrArg (fun q => mStep q (mDecode t).1) hF1).symm.trans (step_do e3 e4 h5 h6 (by rw [show y1.abs.index = x.index from hix]; exact h7))
 rw [show y1.abs.index = x.index from hix] at hs
 have hmD : mDo ((lk y1.locks y3).xs.map CLock.abs) y1.pairs.xs (mDecode t).1.client (mDecode t).1.op = ((lk y1.locks y3).xs.map CLock.abs, (mPSet y1.pairs.xs (mDecode t).1.op.a (mDecode t).1.op.b).1, (mPSet y1.pairs.xs (mDecode t).1.op.a (mDecode t).1.op.b).2.1) := by grind [mDo]
 rw [show y1.abs.pairs = y1.pairs.xs from rfl, hmD] at hs
 have hm := apply_ok h1 (by show ¬ _ ≤ x.index; omega) h4 hs
 refine ⟨(⟨x.index + 1, (lk y1.locks y3), y18, y19⟩ : CState), ?_, ?_, hS.outS (y := (⟨x.index + 1, (lk y1.locks y3), y18, y19⟩ : CState)) ⟨(lk_out (allR_sub (y := y1) i5 (hS.res _ i5)).1 i3 hS.res), (allR_sub (y := y18) i1 (hS.res _ i1)), (allR_sub (y := y19) i0 (hS.res _ i0))⟩⟩
 · rw [hm] <;> rfl
 · rw [hm]
   show (⟨_, (lk y1.locks y3).xs.map CLock.abs, y18.xs, y19.xs.map CSession.abs⟩ : DState) = _
   rw [hF18, hF19, hF9] <;> rfl

theorem replica_Apply {B : Nat → Prop} (x : CReplica) (u : Int) (w : World) (hx : Rds.sub B w x) : Calls Tryz.prog 11 #[x.val, vi u] w fun e w' => ∃ y : CRan, e = .returned (.tuple #[y.repl.val, y.out.val, vi (mRApply x.abs u).2.2]) ∧ y.abs = (⟨(mRApply x.abs u).1, (mRApply x.abs u).2.1⟩ : DRan) ∧ FreshS w w' y := by
 have qL : x.abs.log = x.log.abs := rfl
 have qS : x.abs.state = x.state.abs := rfl
 have qN : x.abs.snap = x.snap := rfl
 have qB : x.abs.log.base = x.log.base := rfl
 have qI : x.abs.state.index = x.state.index := rfl
 have qM : mLast x.abs.log = x.log.base + (x.log.entries.n : Int) := rfl
 have okx := Rds.okof hx
 have okl := okx.2.1
 have ncx := Sl.ok.nc okl
 have hnx : x.log.entries.n = x.log.entries.xs.length := rfl
 refine M0 ?_ Tryz.func11
 refine Mp ?_ Tryz.call47 (fun bs w hS => replica_Check x w (Rds.kp hx hS.kp))
 refine Mdn (mReplica x.abs = 0) (fun h1 => ?_) fun h1 => ?_
 rotate_left
 · refine Mt [vP, vn, vi (mReplica x.abs)] fun bs w hS => ?_
   have hm := rapp_bad (u := u) h1
   refine ⟨(⟨(⟨⟨0, Sl.nil⟩, emp, 0, Sl.nil, Sl.nil, Sl.nil⟩ : CReplica), Sl.nil⟩ : CRan), ?_, ?_, hS.outS (y := (⟨(⟨⟨0, Sl.nil⟩, emp, 0, Sl.nil, Sl.nil, Sl.nil⟩ : CReplica), Sl.nil⟩ : CRan)) ⟨(by show emp.size ≤ _; rw [emp_size]; omega), Sl.rd_nil _ _, Sl.rd_nil _ _, Sl.rd_nil _ _, Sl.rd_nil _ _, Sl.rd_nil _ _⟩⟩
   · rw [hm] <;> rfl
   · rw [hm] <;> rfl
 obtain ⟨hp1, hp2, hp3, hp4, hp5⟩ := mReplica_parts h1
 obtain ⟨hb1, hb2, hb3, hb4⟩ := mLog_bd hp1
 have hb6 : x.abs.log.entries = x.log.entries.xs := rfl
 rw [qB] at hb1 hb2 hp3
 rw [qI] at hp3 hp4
 rw [qM] at hp4
 rw [hb6] at hb3
 refine Md (u < 0) (fun h2 => ?_) fun h2 => ?_
 · refine Mt [vP, vn, vi 2] fun bs w hS => ?_
   have hm := rapp_out (u := u) h1 (by omega)
   refine ⟨(⟨(⟨⟨0, Sl.nil⟩, emp, 0, Sl.nil, Sl.nil, Sl.nil⟩ : CReplica), Sl.nil⟩ : CRan), ?_, ?_, hS.outS (y := (⟨(⟨⟨0, Sl.nil⟩, emp, 0, Sl.nil, Sl.nil, Sl.nil⟩ : CReplica), Sl.nil⟩ : CRan)) ⟨(by show emp.size ≤ _; rw [emp_size]; omega), Sl.rd_nil _ _, Sl.rd_nil _ _, Sl.rd_nil _ _, Sl.rd_nil _ _, Sl.rd_nil _ _⟩⟩
   · rw [hm] <;> rfl
   · rw [hm] <;> rfl
 refine Md ((1073741824 : Int) < u) (fun h3 => ?_) fun h3 => ?_
 · refine Mt [vP, vn, vi 2] fun bs w hS => ?_
   have hm := rapp_out (u := u) h1 (by omega)
   refine ⟨(⟨(⟨⟨0, Sl.nil⟩, emp, 0, Sl.nil, Sl.nil, Sl.nil⟩ : CReplica), Sl.nil⟩ : CRan), ?_, ?_, hS.outS (y := (⟨(⟨⟨0, Sl.nil⟩, emp, 0, Sl.nil, Sl.nil, Sl.nil⟩ : CReplica), Sl.nil⟩ : CRan)) ⟨(by show emp.size ≤ _; rw [emp_size]; omega), Sl.rd_nil _ _, Sl.rd_nil _ _, Sl.rd_nil _ _, Sl.rd_nil _ _, Sl.rd_nil _ _⟩⟩
   · rw [hm] <;> rfl
   · rw [hm] <;> rfl
 refine Mu ?_ Tryz.call48 (fun bs w hS => replica_Copy x w (Rds.kp hx hS.kp) (small_repl (by assumption)))
 rintro fp1 y1 hF1 hok1
 have e1 : y1.log.base = x.log.base := congrArg (fun r : DReplica => r.log.base) hF1
 have e2 : y1.state.index = x.state.index := congrArg (fun r : DReplica => r.state.index) hF1
 have e3 : y1.log.entries.xs = x.log.entries.xs := congrArg (fun r : DReplica => r.log.entries) hF1
 have e4 : y1.log.entries.n = x.log.entries.n := congrArg List.length e3
 obtain ⟨N, hN⟩ : ∃ N, ((if u < (y1.log.base + (y1.log.entries.n : Int)) then u else (y1.log.base + (y1.log.entries.n : Int))) - y1.state.index).toNat = N := ⟨_, rfl⟩
 obtain ⟨k0, hk0⟩ : ∃ k, (y1.state.index - y1.log.base).toNat = k := ⟨_, rfl⟩
 refine m_nores (stR (none : Option (List Nat × CState))) rfl (fun w => trivial) ?_
 refine m_rowA (α := DMail) 93 ?_
 refine Ml (σ := Nat × Option Addr × Nat × List DMail × Option (List Nat × CState)) (fun ⟨k, A0, c0, L0, o⟩ => k ≤ N ∧ RunI y1.log.entries.xs N k0 y1.state.abs k (stk y1.state o).abs L0 ∧ Rds.ok (stk y1.state o)) (fun ⟨k, A0, c0, L0, o⟩ => N - k) (fun ⟨k, A0, c0, L0, o⟩ => [rowA 93 A0 c0 (L0 : List DMail), stR o, subR fp1 y1]) [8, 4, 2, 1] (fun ⟨k, A0, c0, L0, o⟩ => [(8, .v (.slice A0 L0.length c0))]) (fun ⟨k, A0, c0, L0, o⟩ => [(0, [vI y1.log.base, .v y1.log.entries.val, vS y1.snap, vI (stk y1.state o).index, .v (.slice (stk y1.state o).locks.A (stk y1.state o).locks.n (stk y1.state o).locks.c), .v (.slice (stk y1.state o).pairs.A (stk y1.state o).pairs.n (stk y1.state o).pairs.c), .v (.slice (stk y1.state o).sessions.A (stk y1.state o).sessions.n (stk y1.state o).sessions.c)])]) ?_ (⟨0, none, 0, [], none⟩) ⟨Nat.zero_le _, runI_0 _ _ _ _, (show Rds.ok y1.state from hok1.2.2)⟩
 rintro ⟨k, A0, c0, L0, o⟩ ⟨hk, hI, hokz⟩ _ on1
 have hI2 : (stk y1.state o).index = y1.state.index + (k : Int) := hI.2.1
 have hI3 := hI.2.2.1
 refine Mdr 9 ?_ Tryz_mixed
 refine Mp ?_ Tryz.call49 (fun bs w hS => log_Last y1.log w (hS.res _ i2).2.1 (by first | exact ⟨by omega, by omega, by omega⟩ | omega))
 refine Mz ?_
 refine Md ((stk y1.state o).index < (if y1.log.base + (y1.log.entries.n : Int) < u then y1.log.base + (y1.log.entries.n : Int) else u)) (fun h4 => ?_) fun h4 => ?_
 rotate_left
 · refine Mt [.agg #[vi y1.log.base, y1.log.entries.val, vs y1.snap, vi (stk y1.state o).index, .slice (stk y1.state o).locks.A (stk y1.state o).locks.n (stk y1.state o).locks.c, .slice (stk y1.state o).pairs.A (stk y1.state o).pairs.n (stk y1.state o).pairs.c, .slice (stk y1.state o).sessions.A (stk y1.state o).sessions.n (stk y1.state o).sessions.c], .slice A0 L0.length c0, vi 0] fun bs w hS => ?_
   have hr1 : mReplica y1.abs = 0 := by rw [hF1]; exact h1
   have hm := rapp_ok (r := y1.abs) (u := u) hr1 (by omega) rfl rfl hN hk0 (runI_end hI (by omega))
   rw [hF1] at hm
   have hp1 := (show Rds.sub (· ∈ (allR [rowA 93 A0 c0 (L0 : List DMail), stR o, subR fp1 y1]).fp) w y1 from allR_sub (y := y1) i2 (hS.res _ i2))
   have hp2 := stk_out (z := y1.state) hp1.2.2 i1 hS.res
   refine ⟨(⟨⟨y1.log, y1.snap, (stk y1.state o)⟩, ⟨A0, c0, L0⟩⟩ : CRan), ?_, ?_, hS.outS (y := (⟨⟨y1.log, y1.snap, (stk y1.state o)⟩, ⟨A0, c0, L0⟩⟩ : CRan)) ⟨hp1.1, hp1.2.1, hp2.1, hp2.2.1, hp2.2.2, (allR_row i0 (hS.res _ i0) (fun z hz => hI.2.2.2 z hz))⟩⟩
   · rw [hm]; rfl
   · rw [hm]; show (⟨⟨y1.log.abs, y1.snap, (stk y1.state o).abs⟩, _⟩ : DRan) = _; rw [← hF1]; rfl
 refine Mi ?_ (pc (pR ((stk y1.state o).index - y1.log.base)) (pA 49 50 ((stk y1.state o).index - y1.log.base) ((stk y1.state o).index - y1.log.base).toNat (s := y1.log.entries) (fun w hk hr => (hr _ i2).2.1)))
 refine Mu ?_ Tryz.call7 (fun bs w hS => machine_Apply (stk y1.state o) (y1.log.entries.at ((stk y1.state o).index - y1.log.base).toNat) w (stk_rd (hS.res _ i2).2.2 (hS.res _ i1)) (Sl.ok.at (s := y1.log.entries) (i := ((stk y1.state o).index - y1.log.base).toNat) hok1.2.1 (by omega)))
 rintro fp2 y2 hF2 hok2
 refine Mdn ((mApply (stk y1.state o).abs (y1.log.entries.at ((stk y1.state o).index - y1.log.base).toNat)).2.2 = 0) (fun h5 => ?_) fun h5 => ?_
 rotate_left
 · refine Mt [vP, vn, vi (mApply (stk y1.state o).abs (y1.log.entries.at ((stk y1.state o).index - y1.log.base).toNat)).2.2] fun bs w hS => ?_
   have hr1 : mReplica y1.abs = 0 := by rw [hF1]; exact h1
   have hj : k0 + k = ((stk y1.state o).index - y1.log.base).toNat := by omega
   have hm := rapp_err (r := y1.abs) (u := u) hr1 (by omega) rfl rfl hN hk0 (runI_bad hI (by omega) (show y1.log.entries.xs.getD (k0 + k) default = y1.log.entries.at ((stk y1.state o).index - y1.log.base).toNat by rw [hj]; rfl) h5) h5
   rw [hF1] at hm
   refine ⟨(⟨(⟨⟨0, Sl.nil⟩, emp, 0, Sl.nil, Sl.nil, Sl.nil⟩ : CReplica), Sl.nil⟩ : CRan), ?_, ?_, hS.outS (y := (⟨(⟨⟨0, Sl.nil⟩, emp, 0, Sl.nil, Sl.nil, Sl.nil⟩ : CReplica), Sl.nil⟩ : CRan)) ⟨(by show emp.size ≤ _; rw [emp_size]; omega), Sl.rd_nil _ _, Sl.rd_nil _ _, Sl.rd_nil _ _, Sl.rd_nil _ _, Sl.rd_nil _ _⟩⟩
   · rw [hm] <;> rfl
   · rw [hm] <;> rfl
 refine Mp ?_ Tryz.call21 (fun bs w hS => command_Decode (y1.log.entries.at ((stk y1.state o).index - y1.log.base).toNat) w (Sl.ok.at (s := y1.log.entries) (i := ((stk y1.state o).index - y1.log.base).toNat) hok1.2.1 (by omega)))
 refine M1 ?_
 refine m_f1 ?_
 refine Mal (α := DMail) 48 ([(⟨(mDecode (y1.log.entries.at ((stk y1.state o).index - y1.log.base).toNat)).1.client, (mDecode (y1.log.entries.at ((stk y1.state o).index - y1.log.base).toNat)).1.seq, ⟨((mApply (stk y1.state o).abs (y1.log.entries.at ((stk y1.state o).index - y1.log.base).toNat)).2.1).code, ((mApply (stk y1.state o).abs (y1.log.entries.at ((stk y1.state o).index - y1.log.base).toNat)).2.1).n, ((mApply (stk y1.state o).abs (y1.log.entries.at ((stk y1.state o).index - y1.log.base).toNat)).2.1).text⟩⟩ : DMail)]) ?_
 intro A3 c3
 refine m_f2 ?_
 refine m_weak noR (List.nil_sublist _) (fun _ _ => trivial) ?_
 refine m_f2 ?_
 refine m_join (stR (some (fp2, y2))) (by show List.Perm fp2 (fp2 ++ []); rw [List.append_nil]) (fun w h1 h2 => h1) ?_
 refine m_f2 (m_f1 (m_f2 ?_))
 have hj : k0 + k = ((stk y1.state o).index - y1.log.base).toNat := by omega
 have hI9 := runI_next hI (by omega) (show y1.log.entries.xs.getD (k0 + k) default = y1.log.entries.at ((stk y1.state o).index - y1.log.base).toNat by rw [hj]; rfl) h5 (texts_ok hokz) hF2
 have hok9 := hok2
 exact on1 ⟨k + 1, A3, c3, L0 ++ [(⟨(mDecode (y1.log.entries.at ((stk y1.state o).index - y1.log.base).toNat)).1.client, (mDecode (y1.log.entries.at ((stk y1.state o).index - y1.log.base).toNat)).1.seq, ⟨((mApply (stk y1.state o).abs (y1.log.entries.at ((stk y1.state o).index - y1.log.base).toNat)).2.1).code, ((mApply (stk y1.state o).abs (y1.log.entries.at ((stk y1.state o).index - y1.log.base).toNat)).2.1).n, ((mApply (stk y1.state o).abs (y1.log.entries.at ((stk y1.state o).index - y1.log.base).toNat)).2.1).text⟩⟩ : DMail)], some (fp2, y2)⟩ ⟨by omega, hI9, hok9⟩ (by show N - (k + 1) < N - k; omega)

theorem ref_RanOf {B : Nat → Prop} (x : CReplica) (u : Int) (w : World) (hx : Rds.sub B w x) : Calls Tryz.prog 12 #[x.val, vi u] w fun e w' => ∃ y : CRan, e = .returned (.tuple #[y.repl.val, y.out.val, vi (mRApply x.abs u).2.2]) ∧ y.abs = (⟨(mRApply x.abs u).1, (mRApply x.abs u).2.1⟩ : DRan) ∧ FreshS w w' y := by
 have qL : x.abs.log = x.log.abs := rfl
 have qS : x.abs.state = x.state.abs := rfl
 have qN : x.abs.snap = x.snap := rfl
 have qB : x.abs.log.base = x.log.base := rfl
 have qI : x.abs.state.index = x.state.index := rfl
 have qM : mLast x.abs.log = x.log.base + (x.log.entries.n : Int) := rfl
 have okx := Rds.okof hx
 have okl := okx.2.1
 have ncx := Sl.ok.nc okl
 have hnx : x.log.entries.n = x.log.entries.xs.length := rfl
 refine M0 ?_ Tryz.func12
 refine Mp ?_ Tryz.call50 (fun bs w hS => ref_ReplicaFault x w (Rds.kp hx hS.kp))
 refine Md (mReplica x.abs = 0) (fun h1 => ?_) fun h1 => ?_
 rotate_left
 · refine My false true ?_ (df h1)
   refine Mt [vP, vn, vi (mReplica x.abs)] fun bs w hS => ?_
   have hm := rapp_bad (u := u) h1
   refine ⟨(⟨(⟨⟨0, Sl.nil⟩, emp, 0, Sl.nil, Sl.nil, Sl.nil⟩ : CReplica), Sl.nil⟩ : CRan), ?_, ?_, hS.outS (y := (⟨(⟨⟨0, Sl.nil⟩, emp, 0, Sl.nil, Sl.nil, Sl.nil⟩ : CReplica), Sl.nil⟩ : CRan)) ⟨(by show emp.size ≤ _; rw [emp_size]; omega), Sl.rd_nil _ _, Sl.rd_nil _ _, Sl.rd_nil _ _, Sl.rd_nil _ _, Sl.rd_nil _ _⟩⟩
   · rw [hm] <;> rfl
   · rw [hm] <;> rfl
 obtain ⟨hp1, hp2, hp3, hp4, hp5⟩ := mReplica_parts h1
 obtain ⟨hb1, hb2, hb3, hb4⟩ := mLog_bd hp1
 have hb6 : x.abs.log.entries = x.log.entries.xs := rfl
 rw [qB] at hb1 hb2 hp3
 rw [qI] at hp3 hp4
 rw [qM] at hp4
 rw [hb6] at hb3
 refine Mp ?_ Tryz.call51 (fun bs w hS => ref_In u 0 1073741824 w)
 refine Mbn (inB u 0 1073741824) (fun h2 => ?_) fun h2 => ?_
 rotate_left
 · simp only [iT, iF] at h2
   refine Mq 27 true ?_ rfl
   refine Mt [vP, vn, vi 2] fun bs w hS => ?_
   have hm := rapp_out (u := u) h1 (by (try simp only [inB, Bool.and_eq_false_iff, decide_eq_false_iff_not] at h2); omega)
   refine ⟨(⟨(⟨⟨0, Sl.nil⟩, emp, 0, Sl.nil, Sl.nil, Sl.nil⟩ : CReplica), Sl.nil⟩ : CRan), ?_, ?_, hS.outS (y := (⟨(⟨⟨0, Sl.nil⟩, emp, 0, Sl.nil, Sl.nil, Sl.nil⟩ : CReplica), Sl.nil⟩ : CRan)) ⟨(by show emp.size ≤ _; rw [emp_size]; omega), Sl.rd_nil _ _, Sl.rd_nil _ _, Sl.rd_nil _ _, Sl.rd_nil _ _, Sl.rd_nil _ _⟩⟩
   · rw [hm] <;> rfl
   · rw [hm] <;> rfl
 simp only [iT, iF] at h2
 refine My true true ?_ (dt h1)
 refine Mu ?_ Tryz.call10 (fun bs w hS => ref_ReplicaCopy x w (Rds.kp hx hS.kp) (small_repl (by assumption)))
 rintro fp1 y1 hF1 hok1
 refine Mi ?_ (pR (x.state.index + 1))
 have e1 : y1.log.base = x.log.base := congrArg (fun r : DReplica => r.log.base) hF1
 have e2 : y1.state.index = x.state.index := congrArg (fun r : DReplica => r.state.index) hF1
 have e3 : y1.log.entries.xs = x.log.entries.xs := congrArg (fun r : DReplica => r.log.entries) hF1
 have e4 : y1.log.entries.n = x.log.entries.n := congrArg List.length e3
 obtain ⟨N, hN⟩ : ∃ N, ((if u < (y1.log.base + (y1.log.entries.n : Int)) then u else (y1.log.base + (y1.log.entries.n : Int))) - y1.state.index).toNat = N := ⟨_, rfl⟩
 obtain ⟨k0, hk0⟩ : ∃ k, (y1.state.index - y1.log.base).toNat = k := ⟨_, rfl⟩
 refine m_nores (stR (none : Option (List Nat × CState))) rfl (fun w => trivial) ?_
 refine m_rowA (α := DMail) 93 ?_
 refine Ml (σ := Nat × Option Addr × Nat × List DMail × Option (List Nat × CState)) (fun ⟨k, A0, c0, L0, o⟩ => k ≤ N ∧ RunI y1.log.entries.xs N k0 y1.state.abs k (stk y1.state o).abs L0 ∧ Rds.ok (stk y1.state o)) (fun ⟨k, A0, c0, L0, o⟩ => N - k) (fun ⟨k, A0, c0, L0, o⟩ => [rowA 93 A0 c0 (L0 : List DMail), stR o, subR fp1 y1]) [10, 9, 8, 4, 2, 1] (fun ⟨k, A0, c0, L0, o⟩ => [(10, vI (x.state.index + 1 + (k : Int))), (9, .v (.slice A0 L0.length c0))]) (fun ⟨k, A0, c0, L0, o⟩ => [(2, [vI y1.log.base, .v y1.log.entries.val, vS y1.snap, vI (stk y1.state o).index, .v (.slice (stk y1.state o).locks.A (stk y1.state o).locks.n (stk y1.state o).locks.c), .v (.slice (stk y1.state o).pairs.A (stk y1.state o).pairs.n (stk y1.state o).pairs.c), .v (.slice (stk y1.state o).sessions.A (stk y1.state o).sessions.n (stk y1.state o).sessions.c)])]) ?_ (⟨0, none, 0, [], none⟩) ⟨Nat.zero_le _, runI_0 _ _ _ _, (show Rds.ok y1.state from hok1.2.2)⟩ (hp := (by try simp only [Int.add_zero, Int.natCast_zero]; kernel_rfl))
 rintro ⟨k, A0, c0, L0, o⟩ ⟨hk, hI, hokz⟩ _ on1
 have hI2 : (stk y1.state o).index = y1.state.index + (k : Int) := hI.2.1
 have hI3 := hI.2.2.1
 refine Md (x.state.index + 1 + (k : Int) ≤ u) (fun h4 => ?_) fun h4 => ?_
 rotate_left
 · refine Mt [.agg #[vi y1.log.base, y1.log.entries.val, vs y1.snap, vi (stk y1.state o).index, .slice (stk y1.state o).locks.A (stk y1.state o).locks.n (stk y1.state o).locks.c, .slice (stk y1.state o).pairs.A (stk y1.state o).pairs.n (stk y1.state o).pairs.c, .slice (stk y1.state o).sessions.A (stk y1.state o).sessions.n (stk y1.state o).sessions.c], .slice A0 L0.length c0, vi 0] fun bs w hS => ?_
   have hr1 : mReplica y1.abs = 0 := by rw [hF1]; exact h1
   have hm := rapp_ok (r := y1.abs) (u := u) hr1 (by (try simp only [inB, Bool.and_eq_true, decide_eq_true_eq] at h2); omega) rfl rfl hN hk0 (runI_end hI (by omega))
   rw [hF1] at hm
   have hp1 := (show Rds.sub (· ∈ (allR [rowA 93 A0 c0 (L0 : List DMail), stR o, subR fp1 y1]).fp) w y1 from allR_sub (y := y1) i2 (hS.res _ i2))
   have hp2 := stk_out (z := y1.state) hp1.2.2 i1 hS.res
   refine ⟨(⟨⟨y1.log, y1.snap, (stk y1.state o)⟩, ⟨A0, c0, L0⟩⟩ : CRan), ?_, ?_, hS.outS (y := (⟨⟨y1.log, y1.snap, (stk y1.state o)⟩, ⟨A0, c0, L0⟩⟩ : CRan)) ⟨hp1.1, hp1.2.1, hp2.1, hp2.2.1, hp2.2.2, (allR_row i0 (hS.res _ i0) (fun z hz => hI.2.2.2 z hz))⟩⟩
   · rw [hm]; rfl
   · rw [hm]; show (⟨⟨y1.log.abs, y1.snap, (stk y1.state o).abs⟩, _⟩ : DRan) = _; rw [← hF1]; rfl
 refine Mp ?_ Tryz.call52 (fun bs w hS => ref_LastOf x.log w (Rds.kp hx hS.kp).2.1 (by first | exact ⟨by omega, by omega, by omega⟩ | omega))
 refine Md (x.state.index + 1 + (k : Int) ≤ x.log.base + (x.log.entries.n : Int)) (fun h5 => ?_) fun h5 => ?_
 rotate_left
 · refine Mt [.agg #[vi y1.log.base, y1.log.entries.val, vs y1.snap, vi (stk y1.state o).index, .slice (stk y1.state o).locks.A (stk y1.state o).locks.n (stk y1.state o).locks.c, .slice (stk y1.state o).pairs.A (stk y1.state o).pairs.n (stk y1.state o).pairs.c, .slice (stk y1.state o).sessions.A (stk y1.state o).sessions.n (stk y1.state o).sessions.c], .slice A0 L0.length c0, vi 0] fun bs w hS => ?_
   have hr1 : mReplica y1.abs = 0 := by rw [hF1]; exact h1
   have hm := rapp_ok (r := y1.abs) (u := u) hr1 (by (try simp only [inB, Bool.and_eq_true, decide_eq_true_eq] at h2); omega) rfl rfl hN hk0 (runI_end hI (by omega))
   rw [hF1] at hm
   have hp1 := (show Rds.sub (· ∈ (allR [rowA 93 A0 c0 (L0 : List DMail), stR o, subR fp1 y1]).fp) w y1 from allR_sub (y := y1) i2 (hS.res _ i2))
   have hp2 := stk_out (z := y1.state) hp1.2.2 i1 hS.res
   refine ⟨(⟨⟨y1.log, y1.snap, (stk y1.state o)⟩, ⟨A0, c0, L0⟩⟩ : CRan), ?_, ?_, hS.outS (y := (⟨⟨y1.log, y1.snap, (stk y1.state o)⟩, ⟨A0, c0, L0⟩⟩ : CRan)) ⟨hp1.1, hp1.2.1, hp2.1, hp2.2.1, hp2.2.2, (allR_row i0 (hS.res _ i0) (fun z hz => hI.2.2.2 z hz))⟩⟩
   · rw [hm]; rfl
   · rw [hm]; show (⟨⟨y1.log.abs, y1.snap, (stk y1.state o).abs⟩, _⟩ : DRan) = _; rw [← hF1]; rfl
 refine Mi ?_ (pc (pR ((x.state.index + 1 + (k : Int)) - x.log.base)) (pc (pR (((x.state.index + 1 + (k : Int)) - x.log.base) - 1)) (pA 57 58 (((x.state.index + 1 + (k : Int)) - x.log.base) - 1) (((x.state.index + 1 + (k : Int)) - x.log.base) - 1).toNat (s := x.log.entries) (fun w hk hr => (Rds.kp hx hk).2.1))))
 refine Mu ?_ Tryz.call8 (fun bs w hS => ref_AppliedOf (stk y1.state o) (x.log.entries.at (((x.state.index + 1 + (k : Int)) - x.log.base) - 1).toNat) w (stk_rd (hS.res _ i2).2.2 (hS.res _ i1)) (Sl.ok.at (s := x.log.entries) (i := (((x.state.index + 1 + (k : Int)) - x.log.base) - 1).toNat) okx.2.1 (by omega)))
 rintro fp2 y2 hF2 hok2
 refine Mdn ((mApply (stk y1.state o).abs (x.log.entries.at (((x.state.index + 1 + (k : Int)) - x.log.base) - 1).toNat)).2.2 = 0) (fun h6 => ?_) fun h6 => ?_
 rotate_left
 · refine Mt [vP, vn, vi (mApply (stk y1.state o).abs (x.log.entries.at (((x.state.index + 1 + (k : Int)) - x.log.base) - 1).toNat)).2.2] fun bs w hS => ?_
   have hr1 : mReplica y1.abs = 0 := by rw [hF1]; exact h1
   have hj : k0 + k = (x.state.index + 1 + (k : Int) - x.log.base - 1).toNat := by omega
   have hm := rapp_err (r := y1.abs) (u := u) hr1 (by (try simp only [inB, Bool.and_eq_true, decide_eq_true_eq] at h2); omega) rfl rfl hN hk0 (runI_bad hI (by omega) (show y1.log.entries.xs.getD (k0 + k) default = x.log.entries.at (x.state.index + 1 + (k : Int) - x.log.base - 1).toNat by rw [hj, e3]; rfl) h6) h6
   rw [hF1] at hm
   refine ⟨(⟨(⟨⟨0, Sl.nil⟩, emp, 0, Sl.nil, Sl.nil, Sl.nil⟩ : CReplica), Sl.nil⟩ : CRan), ?_, ?_, hS.outS (y := (⟨(⟨⟨0, Sl.nil⟩, emp, 0, Sl.nil, Sl.nil, Sl.nil⟩ : CReplica), Sl.nil⟩ : CRan)) ⟨(by show emp.size ≤ _; rw [emp_size]; omega), Sl.rd_nil _ _, Sl.rd_nil _ _, Sl.rd_nil _ _, Sl.rd_nil _ _, Sl.rd_nil _ _⟩⟩
   · rw [hm] <;> rfl
   · rw [hm] <;> rfl
 refine Mp ?_ Tryz.call31 (fun bs w hS => ref_CommandOf (x.log.entries.at (((x.state.index + 1 + (k : Int)) - x.log.base) - 1).toNat) w (Sl.ok.at (s := x.log.entries) (i := (((x.state.index + 1 + (k : Int)) - x.log.base) - 1).toNat) okx.2.1 (by omega)))
 refine M1 ?_
 refine m_f1 ?_
 refine Mal (α := DMail) 48 ([(⟨(mDecode (x.log.entries.at (((x.state.index + 1 + (k : Int)) - x.log.base) - 1).toNat)).1.client, (mDecode (x.log.entries.at (((x.state.index + 1 + (k : Int)) - x.log.base) - 1).toNat)).1.seq, ⟨((mApply (stk y1.state o).abs (x.log.entries.at (((x.state.index + 1 + (k : Int)) - x.log.base) - 1).toNat)).2.1).code, ((mApply (stk y1.state o).abs (x.log.entries.at (((x.state.index + 1 + (k : Int)) - x.log.base) - 1).toNat)).2.1).n, ((mApply (stk y1.state o).abs (x.log.entries.at (((x.state.index + 1 + (k : Int)) - x.log.base) - 1).toNat)).2.1).text⟩⟩ : DMail)]) ?_
 intro A3 c3
 refine Mi ?_ (pR ((x.state.index + 1 + (k : Int)) + 1))
 refine m_f2 ?_
 refine m_weak noR (List.nil_sublist _) (fun _ _ => trivial) ?_
 refine m_f2 ?_
 refine m_join (stR (some (fp2, y2))) (by show List.Perm fp2 (fp2 ++ []); rw [List.append_nil]) (fun w h1 h2 => h1) ?_
 refine m_f2 (m_f1 (m_f2 ?_))
 have hj : k0 + k = (x.state.index + 1 + (k : Int) - x.log.base - 1).toNat := by omega
 have hI9 := runI_next hI (by omega) (show y1.log.entries.xs.getD (k0 + k) default = x.log.entries.at (x.state.index + 1 + (k : Int) - x.log.base - 1).toNat by rw [hj]; rw [e3]; rfl) h6 (texts_ok hokz) hF2
 have hok9 := hok2
 exact on1 ⟨k + 1, A3, c3, L0 ++ [(⟨(mDecode (x.log.entries.at (((x.state.index + 1 + (k : Int)) - x.log.base) - 1).toNat)).1.client, (mDecode (x.log.entries.at (((x.state.index + 1 + (k : Int)) - x.log.base) - 1).toNat)).1.seq, ⟨((mApply (stk y1.state o).abs (x.log.entries.at (((x.state.index + 1 + (k : Int)) - x.log.base) - 1).toNat)).2.1).code, ((mApply (stk y1.state o).abs (x.log.entries.at (((x.state.index + 1 + (k : Int)) - x.log.base) - 1).toNat)).2.1).n, ((mApply (stk y1.state o).abs (x.log.entries.at (((x.state.index + 1 + (k : Int)) - x.log.base) - 1).toNat)).2.1).text⟩⟩ : DMail)], some (fp2, y2)⟩ ⟨by omega, hI9, hok9⟩ (by show N - (k + 1) < N - k; omega) (hp := (by (try dsimp only); rw [show x.state.index + 1 + ((k + 1 : Nat) : Int) = x.state.index + 1 + (k : Int) + 1 by omega]; kernel_rfl))

theorem same_mails {B B' : Nat → Prop} (a b : Sl DMail) (w : World) (ha : a.rd B w) (hb : b.rd B' w) (he : a.xs = b.xs) : Calls Tryz.prog 14 #[a.val, b.val] w fun e w' => e = .returned (vb true) ∧ Kp [] w w' := by
 have oka := Sl.rd.ok ha
 have okb := Sl.rd.ok hb
 have hn := xs_n he
 have nca := Sl.ok.nc oka
 refine M0 ?_ Tryz.func14
 refine Mdn ((a.n : Int) = (b.n : Int)) (fun h1 => ?_) fun h1 => ?_
 rotate_left
 · exfalso; first | omega | exact h1 (xs_at he i)
 refine Ml (σ := Nat) (fun i => True) (fun i => a.n - i) (fun _ => []) [5, 0, 1] (fun i => [(5, vI (i : Int))]) (fun _ => []) ?_ 0 trivial
 rintro i _ _ on1
 have hat := xs_at he i
 refine Md ((i : Int) < (a.n : Int)) (fun h2 => ?_) fun h2 => ?_
 rotate_left
 · exact Mt [vb true] fun bs w hS => ⟨rfl, hS.kp⟩
 refine Mda 9 [] [] [] Tryz_mixed ?_
 refine Mih ?_ (pc (pA 19 20 (i : Int) i (rdk ha)) (pc (pA 23 24 (i : Int) i (rdk hb)) (pG [(25, .val (vb (!((decide ((a.at i).client = (b.at i).client)) && ((decide ((a.at i).seq = (b.at i).seq)) && (((decide ((a.at i).reply.code = (b.at i).reply.code)) && ((decide ((a.at i).reply.n = (b.at i).reply.n)) && ((decide ((a.at i).reply.text = (b.at i).reply.text)) && true))) && true))))))] (oc ((neq_agg (by kernel_rfl) (by kernel_rfl)) : ∀ w, (do eqGuard .neq 93 (.tmp 20) (.tmp 24) (a.at i).val (b.at i).val; binOp .neq 93 (a.at i).val (b.at i).val : Sem Value).run Tryz.prog w = .ok (vb (!((decide ((a.at i).client = (b.at i).client)) && ((decide ((a.at i).seq = (b.at i).seq)) && (((decide ((a.at i).reply.code = (b.at i).reply.code)) && ((decide ((a.at i).reply.n = (b.at i).reply.n)) && ((decide ((a.at i).reply.text = (b.at i).reply.text)) && true))) && true))))) w) on))))
 refine Mbn ((decide ((a.at i).client = (b.at i).client)) && ((decide ((a.at i).seq = (b.at i).seq)) && (((decide ((a.at i).reply.code = (b.at i).reply.code)) && ((decide ((a.at i).reply.n = (b.at i).reply.n)) && ((decide ((a.at i).reply.text = (b.at i).reply.text)) && true))) && true))) (fun h3 => ?_) fun h3 => ?_
 rotate_left
 · exfalso; simp [xs_at he i] at h3
 refine Mi ?_ (pR ((i : Int) + 1))
 exact on1 (i + 1) trivial (by omega)

theorem law_ReplicaApplies {B : Nat → Prop} (x : CReplica) (u : Int) (w : World) (hx : Rds.sub B w x) (hsm : Rds.small x) : Calls Tryz.prog 4 #[x.val, vi u] w fun e w' => e = .returned (vb true) ∧ Kp [] w w' := by
 have okx := Rds.okof hx
 refine M0 ?_ Tryz.func4
 refine Mu ?_ Tryz.call10 (fun bs w hS => ref_ReplicaCopy x w (Rds.kp hx hS.kp) hsm)
 rintro fp1 y1 hF1 hok1
 refine Mu ?_ Tryz.call11 (fun bs w hS => replica_Apply y1 u w (hS.res _ i0))
 rintro fp2 y2 hF2 hok2
 refine Mu ?_ Tryz.call12 (fun bs w hS => ref_RanOf x u w (Rds.kp hx hS.kp))
 rintro fp3 y3 hF3 hok3
 refine Md ((mRApply y1.abs u).2.2 = (mRApply x.abs u).2.2) (fun h1 => ?_) fun h1 => ?_
 rotate_left
 · exfalso; first | (simp at h1; done) | (rw [hF1] at h1; simp at h1; done)
 refine Mp ?_ Tryz.call13 (fun bs w hS => same_replica y2.repl y3.repl w ⟨hok2.1, (hS.res _ i1).2.1, (hS.res _ i1).2.2.1, (hS.res _ i1).2.2.2.1, (hS.res _ i1).2.2.2.2.1⟩ ⟨hok3.1, (hS.res _ i0).2.1, (hS.res _ i0).2.2.1, (hS.res _ i0).2.2.2.1, (hS.res _ i0).2.2.2.2.1⟩ (by have h2 := congrArg DRan.repl hF2; have h3 := congrArg DRan.repl hF3; rw [hF1] at h2; exact h2.trans h3.symm))
 refine Mq 36 true ?_ rfl
 refine Mp ?_ Tryz.call14 (fun bs w hS => same_mails y2.out y3.out w (hS.res _ i1).2.2.2.2.2 (hS.res _ i0).2.2.2.2.2 (by have h2 := congrArg DRan.out hF2; have h3 := congrArg DRan.out hF3; rw [hF1] at h2; exact h2.trans h3.symm))
 refine Mq 41 true ?_ rfl
 refine Mp ?_ Tryz.call13 (fun bs w hS => same_replica y1 x w (hS.res _ i2) (Rds.kp hx hS.kp) hF1)
 exact Meb true (by simp [retOf, den])

end Go.Proofs.YtbjakddkfgjkaaaGreat.W
