/-
  The functions that the law ReplicaCompacts reaches, walked: each returns what its model says.
  Conditions: those that each theorem states.
-/
import Derived.Test.YtakdjdfkdbofoabWReplicaCompactsa
set_option linter.unusedVariables false
set_option linter.unusedSimpArgs false
set_option maxRecDepth 100000
set_option maxHeartbeats 2000000
namespace Go.Proofs.Ytakdjdfkdbofoab.W
open Go.Proofs.Ytakdjdfkdbofoab.Fw Go.RowKit
attribute [local irreducible] JM nx

set_option maxHeartbeats 1600000 in
theorem ref_SnapOf (s : ByteArray) (w : World) (hs : s.size ≤ 9223372036854775807) : Calls Try.prog 89 #[vs s] w fun e w' => ∃ y : CState, e = .returned (.tuple #[y.val, vi (mUnsnap s).2]) ∧ y.abs = (mUnsnap s).1 ∧ FreshS w w' y := by
 refine M0 ?_ Try.func89
 refine Md ((5000 : Int) < (s.size : Int)) (fun h1 => ?_) fun h1 => ?_
 · exact Me2 (unsnap_big (by assumption)) ⟨0, Sl.nil, Sl.nil, Sl.nil⟩ rfl fun bs w hS => hS.outS (y := (⟨0, Sl.nil, Sl.nil, Sl.nil⟩ : CState)) ⟨Sl.rd_nil _ _, Sl.rd_nil _ _, Sl.rd_nil _ _⟩
 refine Md ((s.size : Int) < 4) (fun h2 => ?_) fun h2 => ?_
 · exact Me2 (unsnap_small (by assumption) (by assumption)) ⟨0, Sl.nil, Sl.nil, Sl.nil⟩ rfl fun bs w hS => hS.outS (y := (⟨0, Sl.nil, Sl.nil, Sl.nil⟩ : CState)) ⟨Sl.rd_nil _ _, Sl.rd_nil _ _, Sl.rd_nil _ _⟩
 have hz0 : (s.extract 0 ((s.size : Int) - 4).toNat).size ≤ 9223372036854775807 := by rw [ByteArray.size_extract]; omega
 refine Mda 12 [] [] [] Try_mixed ?_
 refine Mih ?_ (pc (pR ((s.size : Int) - 4)) (pc (pG [(30, .sl 0 ((s.size : Int) - 4).toNat)] (oc (rfl : 0 = 0) (oc ((by omega) : (s.size : Int) - 4 = ((((s.size : Int) - 4).toNat : Nat) : Int)) (oc ((by omega) : ((s.size : Int) - 4).toNat ≤ s.size) on)))) (pc (pR ((s.size : Int) - 4)) (pG [(36, .sl ((s.size : Int) - 4).toNat s.size)] (oc ((by omega) : (s.size : Int) - 4 = ((((s.size : Int) - 4).toNat : Nat) : Int)) (oc (rfl : s.size = s.size) (oc ((by omega) : ((s.size : Int) - 4).toNat ≤ s.size) on)))))))
 refine Mp ?_ Try.call127 (fun bs w hS => ref_SealOf _ w (by first | assumption | omega | (simp only [emp_size]; omega)))
 refine Mdn ((mSeal (s.extract 0 ((s.size : Int) - 4).toNat)) = (s.extract ((s.size : Int) - 4).toNat s.size)) (fun h3 => ?_) fun h3 => ?_
 rotate_left
 · exact Me2 (unsnap_seal h1 h2 h3) ⟨0, Sl.nil, Sl.nil, Sl.nil⟩ rfl fun bs w hS => hS.outS (y := (⟨0, Sl.nil, Sl.nil, Sl.nil⟩ : CState)) ⟨Sl.rd_nil _ _, Sl.rd_nil _ _, Sl.rd_nil _ _⟩
 refine Mi ?_ (pc (pR ((s.size : Int) - 4)) (pG [(43, .sl 0 ((s.size : Int) - 4).toNat)] (oc (rfl : 0 = 0) (oc ((by omega) : (s.size : Int) - 4 = ((((s.size : Int) - 4).toNat : Nat) : Int)) (oc ((by omega) : ((s.size : Int) - 4).toNat ≤ s.size) on)))))
 refine Mo 1 ?_ Try.call128 (fun bs w hS hb => ear_num (rIn s) (bs.getD 1 0) w hb hz0)
 rintro y _
 refine Mo 1 ?_ Try.call129 (fun bs w hS hb => ear_many (rNum (rIn s)).2 5 (bs.getD 1 0) w hb (rNum_bd (rIn s) _ hz0))
 rintro y _
 have hmn3 := rMany_n 5 (by decide) (rNum (rIn s)).2
 refine m_rowA (α := CLock) 94 ?_
 refine m_nores (ownL (lineR 3) []) rfl (fun w x hx => by cases hx) ?_
 refine Ml (σ := Nat × Option Addr × Nat × List CLock) (fun ⟨i0, A0x, c0x, M0⟩ => i0 ≤ (rMany 5 (rNum (rIn s)).2).1.toNat ∧ M0.map CLock.abs = (rIter rLock i0 (rMany 5 (rNum (rIn s)).2).2).1 ∧ ∀ x, x ∈ M0 → x.name.size ≤ 9223372036854775807) (fun ⟨i0, A0x, c0x, M0⟩ => (rMany 5 (rNum (rIn s)).2).1.toNat - i0) (fun ⟨i0, A0x, c0x, M0⟩ => [ownL (lineR 3) M0, rowA 94 A0x c0x (M0 : List CLock)]) [7, 6, 5, 4, 2] (fun ⟨i0, A0x, c0x, M0⟩ => [(7, vI (i0 : Int))]) (fun ⟨i0, A0x, c0x, M0⟩ => [(1, [vS (rIter rLock i0 (rMany 5 (rNum (rIn s)).2).2).2.1, vI (rIter rLock i0 (rMany 5 (rNum (rIn s)).2).2).2.2]), (2, [vI (rNum (rIn s)).1, .v (.slice A0x M0.length c0x), .v vn, .v vn])]) ?_ (⟨0, none, 0, []⟩) ⟨(Nat.zero_le _), rfl, (fun x hx => by cases hx)⟩
 rintro ⟨i0, A0x, c0x, M0⟩ ⟨h0l, h0m, h0s⟩ _ on1
 have h0n : M0.length = i0 := by have h9 := congrArg List.length h0m; rw [List.length_map, rIter_len] at h9; exact h9
 refine Md ((i0 : Int) < (rMany 5 (rNum (rIn s)).2).1) (fun h4 => ?_) fun h4 => ?_
 · refine Mo 1 ?_ Try.call130 (fun bs w hS hb => ear_str (rIter rLock i0 (rMany 5 (rNum (rIn s)).2).2).2 (bs.getD 1 0) w hb (rIter_bd (B := 9223372036854775807) (fun q h => rLock_bd q _ h) i0 (rMany 5 (rNum (rIn s)).2).2 (rMany_bd 5 (rNum (rIn s)).2 _ (rNum_bd (rIn s) _ hz0))))
   rintro y _
   refine Mo 1 ?_ Try.call128 (fun bs w hS hb => ear_num (rTxt (rIter rLock i0 (rMany 5 (rNum (rIn s)).2).2).2).2 (bs.getD 1 0) w hb (rTxt_bd (rIter rLock i0 (rMany 5 (rNum (rIn s)).2).2).2 _ (rIter_bd (B := 9223372036854775807) (fun q h => rLock_bd q _ h) i0 (rMany 5 (rNum (rIn s)).2).2 (rMany_bd 5 (rNum (rIn s)).2 _ (rNum_bd (rIn s) _ hz0)))).1)
   rintro y _
   refine Mo 1 ?_ Try.call128 (fun bs w hS hb => ear_num (rNum (rTxt (rIter rLock i0 (rMany 5 (rNum (rIn s)).2).2).2).2).2 (bs.getD 1 0) w hb (rNum_bd (rTxt (rIter rLock i0 (rMany 5 (rNum (rIn s)).2).2).2).2 _ (rTxt_bd (rIter rLock i0 (rMany 5 (rNum (rIn s)).2).2).2 _ (rIter_bd (B := 9223372036854775807) (fun q h => rLock_bd q _ h) i0 (rMany 5 (rNum (rIn s)).2).2 (rMany_bd 5 (rNum (rIn s)).2 _ (rNum_bd (rIn s) _ hz0)))).1))
   rintro y _
   refine Mo 1 ?_ Try.call129 (fun bs w hS hb => ear_many (rNum (rNum (rTxt (rIter rLock i0 (rMany 5 (rNum (rIn s)).2).2).2).2).2).2 3 (bs.getD 1 0) w hb (rNum_bd (rNum (rTxt (rIter rLock i0 (rMany 5 (rNum (rIn s)).2).2).2).2).2 _ (rNum_bd (rTxt (rIter rLock i0 (rMany 5 (rNum (rIn s)).2).2).2).2 _ (rTxt_bd (rIter rLock i0 (rMany 5 (rNum (rIn s)).2).2).2 _ (rIter_bd (B := 9223372036854775807) (fun q h => rLock_bd q _ h) i0 (rMany 5 (rNum (rIn s)).2).2 (rMany_bd 5 (rNum (rIn s)).2 _ (rNum_bd (rIn s) _ hz0)))).1)))
   rintro y _
   have hmn8 := rMany_n 3 (by decide) (rNum (rNum (rTxt (rIter rLock i0 (rMany 5 (rNum (rIn s)).2).2).2).2).2).2
   refine m_rowA (α := Int) 3 ?_
   refine Ml (σ := Nat × Option Addr × Nat) (fun ⟨i1, A1x, c1x⟩ => i1 ≤ (rMany 3 (rNum (rNum (rTxt (rIter rLock i0 (rMany 5 (rNum (rIn s)).2).2).2).2).2).2).1.toNat) (fun ⟨i1, A1x, c1x⟩ => (rMany 3 (rNum (rNum (rTxt (rIter rLock i0 (rMany 5 (rNum (rIn s)).2).2).2).2).2).2).1.toNat - i1) (fun ⟨i1, A1x, c1x⟩ => [rowA 3 A1x c1x ((rIter rNum i1 (rMany 3 (rNum (rNum (rTxt (rIter rLock i0 (rMany 5 (rNum (rIn s)).2).2).2).2).2).2).2).1 : List Int), ownL (lineR 3) M0, rowA 94 A0x c0x (M0 : List CLock)]) [10, 9, 8, 7, 6, 5, 4, 2] (fun ⟨i1, A1x, c1x⟩ => [(10, vI (i1 : Int))]) (fun ⟨i1, A1x, c1x⟩ => [(1, [vS (rIter rNum i1 (rMany 3 (rNum (rNum (rTxt (rIter rLock i0 (rMany 5 (rNum (rIn s)).2).2).2).2).2).2).2).2.1, vI (rIter rNum i1 (rMany 3 (rNum (rNum (rTxt (rIter rLock i0 (rMany 5 (rNum (rIn s)).2).2).2).2).2).2).2).2.2]), (3, [vS (rTxt (rIter rLock i0 (rMany 5 (rNum (rIn s)).2).2).2).1, vI (rNum (rTxt (rIter rLock i0 (rMany 5 (rNum (rIn s)).2).2).2).2).1, vI (rNum (rNum (rTxt (rIter rLock i0 (rMany 5 (rNum (rIn s)).2).2).2).2).2).1, .v (.slice A1x ((rIter rNum i1 (rMany 3 (rNum (rNum (rTxt (rIter rLock i0 (rMany 5 (rNum (rIn s)).2).2).2).2).2).2).2).1).length c1x)])]) ?_ (⟨0, none, 0⟩) (Nat.zero_le _)
   rintro ⟨i1, A1x, c1x⟩ h1l _ on2
   have h1n : (rIter rNum i1 (rMany 3 (rNum (rNum (rTxt (rIter rLock i0 (rMany 5 (rNum (rIn s)).2).2).2).2).2).2).2).1.length = i1 := by exact rIter_len _ _ _
   refine Md ((i1 : Int) < (rMany 3 (rNum (rNum (rTxt (rIter rLock i0 (rMany 5 (rNum (rIn s)).2).2).2).2).2).2).1) (fun h5 => ?_) fun h5 => ?_
   · refine Mda 5 [] [1] [rowA 3 A1x c1x ((rIter rNum i1 (rMany 3 (rNum (rNum (rTxt (rIter rLock i0 (rMany 5 (rNum (rIn s)).2).2).2).2).2).2).2).1 : List Int), ownL (lineR 3) M0, rowA 94 A0x c0x (M0 : List CLock)] Try_mixed ?_
     refine Mo 1 ?_ Try.call128 (fun bs w hS hb => ear_num (rIter rNum i1 (rMany 3 (rNum (rNum (rTxt (rIter rLock i0 (rMany 5 (rNum (rIn s)).2).2).2).2).2).2).2).2 (bs.getD 1 0) w hb (rIter_bd (B := 9223372036854775807) (fun q h => rNum_bd q _ h) i1 (rMany 3 (rNum (rNum (rTxt (rIter rLock i0 (rMany 5 (rNum (rIn s)).2).2).2).2).2).2).2 (rMany_bd 3 (rNum (rNum (rTxt (rIter rLock i0 (rMany 5 (rNum (rIn s)).2).2).2).2).2).2 _ (rNum_bd (rNum (rTxt (rIter rLock i0 (rMany 5 (rNum (rIn s)).2).2).2).2).2 _ (rNum_bd (rTxt (rIter rLock i0 (rMany 5 (rNum (rIn s)).2).2).2).2 _ (rTxt_bd (rIter rLock i0 (rMany 5 (rNum (rIn s)).2).2).2 _ (rIter_bd (B := 9223372036854775807) (fun q h => rLock_bd q _ h) i0 (rMany 5 (rNum (rIn s)).2).2 (rMany_bd 5 (rNum (rIn s)).2 _ (rNum_bd (rIn s) _ hz0)))).1)))))
     rintro y _
     refine M1 ?_
     refine Mz ?_
     refine Mal (α := Int) 8 ([(rNum (rIter rNum i1 (rMany 3 (rNum (rNum (rTxt (rIter rLock i0 (rMany 5 (rNum (rIn s)).2).2).2).2).2).2).2).2).1]) ?_
     intro A10 c10
     refine Mi ?_ (pR ((i1 : Int) + 1))
     refine m_f2 (m_f2 (m_f2 ?_))
     exact on2 ⟨i1 + 1, A10, c10⟩ (by show i1 + 1 ≤ (rMany 3 (rNum (rNum (rTxt (rIter rLock i0 (rMany 5 (rNum (rIn s)).2).2).2).2).2).2).1.toNat; omega) (by show (rMany 3 (rNum (rNum (rTxt (rIter rLock i0 (rMany 5 (rNum (rIn s)).2).2).2).2).2).2).1.toNat - (i1 + 1) < (rMany 3 (rNum (rNum (rTxt (rIter rLock i0 (rMany 5 (rNum (rIn s)).2).2).2).2).2).2).1.toNat - i1; omega)
   have hx_i1 : i1 = (rMany 3 (rNum (rNum (rTxt (rIter rLock i0 (rMany 5 (rNum (rIn s)).2).2).2).2).2).2).1.toNat := by omega
   subst hx_i1
   refine M1 ?_
   refine m_f2 ?_
   refine Mal (α := CLock) 56 ([(⟨(rTxt (rIter rLock i0 (rMany 5 (rNum (rIn s)).2).2).2).1, (rNum (rTxt (rIter rLock i0 (rMany 5 (rNum (rIn s)).2).2).2).2).1, (rNum (rNum (rTxt (rIter rLock i0 (rMany 5 (rNum (rIn s)).2).2).2).2).2).1, ⟨A1x, c1x, (rIter rNum (rMany 3 (rNum (rNum (rTxt (rIter rLock i0 (rMany 5 (rNum (rIn s)).2).2).2).2).2).2).1.toNat (rMany 3 (rNum (rNum (rTxt (rIter rLock i0 (rMany 5 (rNum (rIn s)).2).2).2).2).2).2).2).1⟩⟩ : CLock)]) ?_
   intro A11 c11
   refine Mi ?_ (pR ((i0 : Int) + 1))
   refine m_f2 ?_
   refine m_f2 ?_
   refine m_join (ownL (lineR 3) (M0 ++ [(⟨(rTxt (rIter rLock i0 (rMany 5 (rNum (rIn s)).2).2).2).1, (rNum (rTxt (rIter rLock i0 (rMany 5 (rNum (rIn s)).2).2).2).2).1, (rNum (rNum (rTxt (rIter rLock i0 (rMany 5 (rNum (rIn s)).2).2).2).2).2).1, ⟨A1x, c1x, (rIter rNum (rMany 3 (rNum (rNum (rTxt (rIter rLock i0 (rMany 5 (rNum (rIn s)).2).2).2).2).2).2).1.toNat (rMany 3 (rNum (rNum (rTxt (rIter rLock i0 (rMany 5 (rNum (rIn s)).2).2).2).2).2).2).2).1⟩⟩ : CLock)])) (ownL_app_fp (lineR 3) M0 (⟨(rTxt (rIter rLock i0 (rMany 5 (rNum (rIn s)).2).2).2).1, (rNum (rTxt (rIter rLock i0 (rMany 5 (rNum (rIn s)).2).2).2).2).1, (rNum (rNum (rTxt (rIter rLock i0 (rMany 5 (rNum (rIn s)).2).2).2).2).2).1, ⟨A1x, c1x, (rIter rNum (rMany 3 (rNum (rNum (rTxt (rIter rLock i0 (rMany 5 (rNum (rIn s)).2).2).2).2).2).2).1.toNat (rMany 3 (rNum (rNum (rTxt (rIter rLock i0 (rMany 5 (rNum (rIn s)).2).2).2).2).2).2).2).1⟩⟩ : CLock)) (fun w => ownL_app_p (lineR 3) M0 (⟨(rTxt (rIter rLock i0 (rMany 5 (rNum (rIn s)).2).2).2).1, (rNum (rTxt (rIter rLock i0 (rMany 5 (rNum (rIn s)).2).2).2).2).1, (rNum (rNum (rTxt (rIter rLock i0 (rMany 5 (rNum (rIn s)).2).2).2).2).2).1, ⟨A1x, c1x, (rIter rNum (rMany 3 (rNum (rNum (rTxt (rIter rLock i0 (rMany 5 (rNum (rIn s)).2).2).2).2).2).2).1.toNat (rMany 3 (rNum (rNum (rTxt (rIter rLock i0 (rMany 5 (rNum (rIn s)).2).2).2).2).2).2).2).1⟩⟩ : CLock) w) ?_
   refine m_f1 (m_f1 ?_)
   exact on1 ⟨i0 + 1, A11, c11, M0 ++ [(⟨(rTxt (rIter rLock i0 (rMany 5 (rNum (rIn s)).2).2).2).1, (rNum (rTxt (rIter rLock i0 (rMany 5 (rNum (rIn s)).2).2).2).2).1, (rNum (rNum (rTxt (rIter rLock i0 (rMany 5 (rNum (rIn s)).2).2).2).2).2).1, ⟨A1x, c1x, (rIter rNum (rMany 3 (rNum (rNum (rTxt (rIter rLock i0 (rMany 5 (rNum (rIn s)).2).2).2).2).2).2).1.toNat (rMany 3 (rNum (rNum (rTxt (rIter rLock i0 (rMany 5 (rNum (rIn s)).2).2).2).2).2).2).2).1⟩⟩ : CLock)]⟩ ⟨(by show i0 + 1 ≤ (rMany 5 (rNum (rIn s)).2).1.toNat; omega), (by rw [List.map_append, h0m]; exact congrArg (fun z => (rIter rLock i0 (rMany 5 (rNum (rIn s)).2).2).1 ++ [z]) (show CLock.abs (⟨(rTxt (rIter rLock i0 (rMany 5 (rNum (rIn s)).2).2).2).1, (rNum (rTxt (rIter rLock i0 (rMany 5 (rNum (rIn s)).2).2).2).2).1, (rNum (rNum (rTxt (rIter rLock i0 (rMany 5 (rNum (rIn s)).2).2).2).2).2).1, ⟨A1x, c1x, (rIter rNum (rMany 3 (rNum (rNum (rTxt (rIter rLock i0 (rMany 5 (rNum (rIn s)).2).2).2).2).2).2).1.toNat (rMany 3 (rNum (rNum (rTxt (rIter rLock i0 (rMany 5 (rNum (rIn s)).2).2).2).2).2).2).2).1⟩⟩ : CLock) = (rLock (rIter rLock i0 (rMany 5 (rNum (rIn s)).2).2).2).1 from rfl)), (fun x hx => by rcases List.mem_append.1 hx with hx | hx; exact h0s x hx; rw [List.mem_singleton] at hx; subst hx; exact (rTxt_bd (rIter rLock i0 (rMany 5 (rNum (rIn s)).2).2).2 _ (rIter_bd (B := 9223372036854775807) (fun q h => rLock_bd q _ h) i0 (rMany 5 (rNum (rIn s)).2).2 (rMany_bd 5 (rNum (rIn s)).2 _ (rNum_bd (rIn s) _ hz0)))).2)⟩ (by show (rMany 5 (rNum (rIn s)).2).1.toNat - (i0 + 1) < (rMany 5 (rNum (rIn s)).2).1.toNat - i0; omega)
 have hx_i0 : i0 = (rMany 5 (rNum (rIn s)).2).1.toNat := by omega
 subst hx_i0
 have hzQ0 := (rIter_bd (B := 9223372036854775807) (fun q h => rLock_bd q _ h) (rMany 5 (rNum (rIn s)).2).1.toNat (rMany 5 (rNum (rIn s)).2).2 (rMany_bd 5 (rNum (rIn s)).2 _ (rNum_bd (rIn s) _ hz0)))
 try dsimp only
 generalize hQ0 : (rIter rLock (rMany 5 (rNum (rIn s)).2).1.toNat (rMany 5 (rNum (rIn s)).2).2) = Q0 at *
 refine Mo 1 ?_ Try.call129 (fun bs w hS hb => ear_many Q0.2 5 (bs.getD 1 0) w hb hzQ0)
 rintro y _
 have hmn13 := rMany_n 5 (by decide) Q0.2
 refine m_rowA (α := DPair) 72 ?_
 refine Ml (σ := Nat × Option Addr × Nat) (fun ⟨i2, A2x, c2x⟩ => i2 ≤ (rMany 5 Q0.2).1.toNat ∧ ∀ x, x ∈ (rIter rPair i2 (rMany 5 Q0.2).2).1 → x.name.size ≤ 9223372036854775807 ∧ x.value.size ≤ 9223372036854775807) (fun ⟨i2, A2x, c2x⟩ => (rMany 5 Q0.2).1.toNat - i2) (fun ⟨i2, A2x, c2x⟩ => [rowA 72 A2x c2x ((rIter rPair i2 (rMany 5 Q0.2).2).1 : List DPair), ownL (lineR 3) M0, rowA 94 A0x c0x (M0 : List CLock)]) [11, 6, 5, 4, 2] (fun ⟨i2, A2x, c2x⟩ => [(11, vI (i2 : Int))]) (fun ⟨i2, A2x, c2x⟩ => [(1, [vS (rIter rPair i2 (rMany 5 Q0.2).2).2.1, vI (rIter rPair i2 (rMany 5 Q0.2).2).2.2]), (2, [vI (rNum (rIn s)).1, .v (.slice A0x M0.length c0x), .v (.slice A2x ((rIter rPair i2 (rMany 5 Q0.2).2).1).length c2x), .v vn])]) ?_ (⟨0, none, 0⟩) ⟨(Nat.zero_le _), (fun x hx => by cases hx)⟩
 rintro ⟨i2, A2x, c2x⟩ ⟨h2l, h2s⟩ _ on3
 have h2n : (rIter rPair i2 (rMany 5 Q0.2).2).1.length = i2 := by exact rIter_len _ _ _
 refine Md ((i2 : Int) < (rMany 5 Q0.2).1) (fun h6 => ?_) fun h6 => ?_
 · refine Mo 1 ?_ Try.call130 (fun bs w hS hb => ear_str (rIter rPair i2 (rMany 5 Q0.2).2).2 (bs.getD 1 0) w hb (rIter_bd (B := 9223372036854775807) (fun q h => rPair_bd q _ h) i2 (rMany 5 Q0.2).2 (rMany_bd 5 Q0.2 _ hzQ0)))
   rintro y _
   refine Mo 1 ?_ Try.call130 (fun bs w hS hb => ear_str (rTxt (rIter rPair i2 (rMany 5 Q0.2).2).2).2 (bs.getD 1 0) w hb (rTxt_bd (rIter rPair i2 (rMany 5 Q0.2).2).2 _ (rIter_bd (B := 9223372036854775807) (fun q h => rPair_bd q _ h) i2 (rMany 5 Q0.2).2 (rMany_bd 5 Q0.2 _ hzQ0))).1)
   rintro y _
   refine Mo 1 ?_ Try.call128 (fun bs w hS hb => ear_num (rTxt (rTxt (rIter rPair i2 (rMany 5 Q0.2).2).2).2).2 (bs.getD 1 0) w hb (rTxt_bd (rTxt (rIter rPair i2 (rMany 5 Q0.2).2).2).2 _ (rTxt_bd (rIter rPair i2 (rMany 5 Q0.2).2).2 _ (rIter_bd (B := 9223372036854775807) (fun q h => rPair_bd q _ h) i2 (rMany 5 Q0.2).2 (rMany_bd 5 Q0.2 _ hzQ0))).1).1)
   rintro y _
   refine M1 ?_
   refine Mal (α := DPair) 40 ([(⟨(rTxt (rIter rPair i2 (rMany 5 Q0.2).2).2).1, (rTxt (rTxt (rIter rPair i2 (rMany 5 Q0.2).2).2).2).1, (rNum (rTxt (rTxt (rIter rPair i2 (rMany 5 Q0.2).2).2).2).2).1⟩ : DPair)]) ?_
   intro A17 c17
   refine Mi ?_ (pR ((i2 : Int) + 1))
   refine m_f2 (m_f2 (m_f2 ?_))
   exact on3 ⟨i2 + 1, A17, c17⟩ ⟨(by show i2 + 1 ≤ (rMany 5 Q0.2).1.toNat; omega), (fun x hx => by rcases List.mem_append.1 hx with hx | hx; exact h2s x hx; rw [List.mem_singleton] at hx; subst hx; exact ⟨(rTxt_bd (rIter rPair i2 (rMany 5 Q0.2).2).2 _ (rIter_bd (B := 9223372036854775807) (fun q h => rPair_bd q _ h) i2 (rMany 5 Q0.2).2 (rMany_bd 5 Q0.2 _ hzQ0))).2, (rTxt_bd (rTxt (rIter rPair i2 (rMany 5 Q0.2).2).2).2 _ (rTxt_bd (rIter rPair i2 (rMany 5 Q0.2).2).2 _ (rIter_bd (B := 9223372036854775807) (fun q h => rPair_bd q _ h) i2 (rMany 5 Q0.2).2 (rMany_bd 5 Q0.2 _ hzQ0))).1).2⟩)⟩ (by show (rMany 5 Q0.2).1.toNat - (i2 + 1) < (rMany 5 Q0.2).1.toNat - i2; omega)
 have hx_i2 : i2 = (rMany 5 Q0.2).1.toNat := by omega
 subst hx_i2
 have hzQ2 := (rIter_bd (B := 9223372036854775807) (fun q h => rPair_bd q _ h) (rMany 5 Q0.2).1.toNat (rMany 5 Q0.2).2 (rMany_bd 5 Q0.2 _ hzQ0))
 try dsimp only
 generalize hQ2 : (rIter rPair (rMany 5 Q0.2).1.toNat (rMany 5 Q0.2).2) = Q2 at *
 refine Mo 1 ?_ Try.call129 (fun bs w hS hb => ear_many Q2.2 4 (bs.getD 1 0) w hb hzQ2)
 rintro y _
 have hmn19 := rMany_n 4 (by decide) Q2.2
 refine m_rowA (α := CSession) 81 ?_
 refine m_nores (ownL (keptR 86) []) rfl (fun w x hx => by cases hx) ?_
 refine Ml (σ := Nat × Option Addr × Nat × List CSession) (fun ⟨i3, A3x, c3x, M3⟩ => i3 ≤ (rMany 4 Q2.2).1.toNat ∧ M3.map CSession.abs = (rIter rSess i3 (rMany 4 Q2.2).2).1 ∧ ∀ x, x ∈ M3 → ∀ k, k ∈ x.replies.xs → k.reply.text.size ≤ 9223372036854775807) (fun ⟨i3, A3x, c3x, M3⟩ => (rMany 4 Q2.2).1.toNat - i3) (fun ⟨i3, A3x, c3x, M3⟩ => [ownL (keptR 86) M3, rowA 81 A3x c3x (M3 : List CSession), rowA 72 A2x c2x (Q2.1 : List DPair), ownL (lineR 3) M0, rowA 94 A0x c0x (M0 : List CLock)]) [13, 6, 5, 4, 2] (fun ⟨i3, A3x, c3x, M3⟩ => [(13, vI (i3 : Int))]) (fun ⟨i3, A3x, c3x, M3⟩ => [(1, [vS (rIter rSess i3 (rMany 4 Q2.2).2).2.1, vI (rIter rSess i3 (rMany 4 Q2.2).2).2.2]), (2, [vI (rNum (rIn s)).1, .v (.slice A0x M0.length c0x), .v (.slice A2x (Q2.1).length c2x), .v (.slice A3x M3.length c3x)])]) ?_ (⟨0, none, 0, []⟩) ⟨(Nat.zero_le _), rfl, (fun x hx => by cases hx)⟩
 rintro ⟨i3, A3x, c3x, M3⟩ ⟨h3l, h3m, h3s⟩ _ on4
 have h3n : M3.length = i3 := by have h9 := congrArg List.length h3m; rw [List.length_map, rIter_len] at h9; exact h9
 refine Md ((i3 : Int) < (rMany 4 Q2.2).1) (fun h7 => ?_) fun h7 => ?_
 rotate_left
 · have hx_i3 : i3 = (rMany 4 Q2.2).1.toNat := by omega
   subst hx_i3
   have hzQ3 := (rIter_bd (B := 9223372036854775807) (fun q h => rSess_bd q _ h) (rMany 4 Q2.2).1.toNat (rMany 4 Q2.2).2 (rMany_bd 4 Q2.2 _ hzQ2))
   try dsimp only
   generalize hQ3 : (rIter rSess (rMany 4 Q2.2).1.toNat (rMany 4 Q2.2).2) = Q3 at *
   refine Md (Q3.2.2 = 0) (fun h9 => ?_) fun h9 => ?_
   rotate_left
   · refine My false false ?_ (df h9)
     refine My false true ?_ (df h9)
     refine Mda 7 [] [0] [ownL (keptR 86) M3, rowA 81 A3x c3x (M3 : List CSession), rowA 72 A2x c2x (Q2.1 : List DPair), ownL (lineR 3) M0, rowA 94 A0x c0x (M0 : List CLock)] Try_mixed ?_
     refine Mz ?_
     have hR := rState_of hQ0 hQ2 hQ3
     exact Me2 (unsnap_bad (q := (rIn s)) rfl hR h1 h2 h3 h9) ⟨0, Sl.nil, Sl.nil, Sl.nil⟩ rfl fun bs w hS => hS.outS (y := (⟨0, Sl.nil, Sl.nil, Sl.nil⟩ : CState)) ⟨Sl.rd_nil _ _, Sl.rd_nil _ _, Sl.rd_nil _ _⟩
   refine Mdn (Q3.2.1 = emp) (fun h10 => ?_) fun h10 => ?_
   rotate_left
   · refine Mq 184 false ?_ rfl
     refine Mq 194 true ?_ rfl
     refine Mda 7 [] [0] [ownL (keptR 86) M3, rowA 81 A3x c3x (M3 : List CSession), rowA 72 A2x c2x (Q2.1 : List DPair), ownL (lineR 3) M0, rowA 94 A0x c0x (M0 : List CLock)] Try_mixed ?_
     refine Mz ?_
     have hR := rState_of hQ0 hQ2 hQ3
     exact Me2 (unsnap_more (q := (rIn s)) rfl hR h1 h2 h3 h9 h10) ⟨0, Sl.nil, Sl.nil, Sl.nil⟩ rfl fun bs w hS => hS.outS (y := (⟨0, Sl.nil, Sl.nil, Sl.nil⟩ : CState)) ⟨Sl.rd_nil _ _, Sl.rd_nil _ _, Sl.rd_nil _ _⟩
   refine My true false ?_ (dt h9)
   refine Mp ?_ Try.call126 (fun bs w hS => ref_StateFault (⟨(rNum (rIn s)).1, ⟨A0x, c0x, M0⟩, ⟨A2x, c2x, Q2.1⟩, ⟨A3x, c3x, M3⟩⟩ : CState) w ⟨out_locks i4 i3 hS.res (fun x hx => hx) h0s, allR_row i2 (hS.res _ i2) h2s, out_sess i1 i0 hS.res (fun x hx => hx) h3s⟩)
   refine Mdn (mState (CState.abs (⟨(rNum (rIn s)).1, ⟨A0x, c0x, M0⟩, ⟨A2x, c2x, Q2.1⟩, ⟨A3x, c3x, M3⟩⟩ : CState)) = 0) (fun h12 => ?_) fun h12 => ?_
   rotate_left
   · refine Mda 7 [] [0] [ownL (keptR 86) M3, rowA 81 A3x c3x (M3 : List CSession), rowA 72 A2x c2x (Q2.1 : List DPair), ownL (lineR 3) M0, rowA 94 A0x c0x (M0 : List CLock)] Try_mixed ?_
     refine Mz ?_
     have hR := rState_of hQ0 hQ2 hQ3
     have hy : (CState.abs (⟨(rNum (rIn s)).1, ⟨A0x, c0x, M0⟩, ⟨A2x, c2x, Q2.1⟩, ⟨A3x, c3x, M3⟩⟩ : CState)) = (⟨(rNum (rIn s)).1, Q0.1, Q2.1, Q3.1⟩ : DState) := by show CState.abs (⟨(rNum (rIn s)).1, ⟨A0x, c0x, M0⟩, ⟨A2x, c2x, Q2.1⟩, ⟨A3x, c3x, M3⟩⟩ : CState) = _; simp only [CState.abs, h0m, h3m]
     exact Me2 (unsnap_fault (y := (CState.abs (⟨(rNum (rIn s)).1, ⟨A0x, c0x, M0⟩, ⟨A2x, c2x, Q2.1⟩, ⟨A3x, c3x, M3⟩⟩ : CState))) (q := (rIn s)) rfl hR h1 h2 h3 h9 h10 hy h12) ⟨0, Sl.nil, Sl.nil, Sl.nil⟩ rfl fun bs w hS => hS.outS (y := (⟨0, Sl.nil, Sl.nil, Sl.nil⟩ : CState)) ⟨Sl.rd_nil _ _, Sl.rd_nil _ _, Sl.rd_nil _ _⟩
   have hR := rState_of hQ0 hQ2 hQ3
   have hy : (CState.abs (⟨(rNum (rIn s)).1, ⟨A0x, c0x, M0⟩, ⟨A2x, c2x, Q2.1⟩, ⟨A3x, c3x, M3⟩⟩ : CState)) = (⟨(rNum (rIn s)).1, Q0.1, Q2.1, Q3.1⟩ : DState) := by show CState.abs (⟨(rNum (rIn s)).1, ⟨A0x, c0x, M0⟩, ⟨A2x, c2x, Q2.1⟩, ⟨A3x, c3x, M3⟩⟩ : CState) = _; simp only [CState.abs, h0m, h3m]
   exact Me2 (unsnap_ok (y := (CState.abs (⟨(rNum (rIn s)).1, ⟨A0x, c0x, M0⟩, ⟨A2x, c2x, Q2.1⟩, ⟨A3x, c3x, M3⟩⟩ : CState))) (q := (rIn s)) rfl hR h1 h2 h3 h9 h10 hy h12) (⟨(rNum (rIn s)).1, ⟨A0x, c0x, M0⟩, ⟨A2x, c2x, Q2.1⟩, ⟨A3x, c3x, M3⟩⟩ : CState) rfl fun bs w hS => hS.outS (y := (⟨(rNum (rIn s)).1, ⟨A0x, c0x, M0⟩, ⟨A2x, c2x, Q2.1⟩, ⟨A3x, c3x, M3⟩⟩ : CState)) ⟨out_locks i4 i3 hS.res (fun x hx => hx) h0s, allR_row i2 (hS.res _ i2) h2s, out_sess i1 i0 hS.res (fun x hx => hx) h3s⟩
 refine Mo 1 ?_ Try.call128 (fun bs w hS hb => ear_num (rIter rSess i3 (rMany 4 Q2.2).2).2 (bs.getD 1 0) w hb (rIter_bd (B := 9223372036854775807) (fun q h => rSess_bd q _ h) i3 (rMany 4 Q2.2).2 (rMany_bd 4 Q2.2 _ hzQ2)))
 rintro y _
 refine Mo 1 ?_ Try.call128 (fun bs w hS hb => ear_num (rNum (rIter rSess i3 (rMany 4 Q2.2).2).2).2 (bs.getD 1 0) w hb (rNum_bd (rIter rSess i3 (rMany 4 Q2.2).2).2 _ (rIter_bd (B := 9223372036854775807) (fun q h => rSess_bd q _ h) i3 (rMany 4 Q2.2).2 (rMany_bd 4 Q2.2 _ hzQ2))))
 rintro y _
 refine Mo 1 ?_ Try.call128 (fun bs w hS hb => ear_num (rNum (rNum (rIter rSess i3 (rMany 4 Q2.2).2).2).2).2 (bs.getD 1 0) w hb (rNum_bd (rNum (rIter rSess i3 (rMany 4 Q2.2).2).2).2 _ (rNum_bd (rIter rSess i3 (rMany 4 Q2.2).2).2 _ (rIter_bd (B := 9223372036854775807) (fun q h => rSess_bd q _ h) i3 (rMany 4 Q2.2).2 (rMany_bd 4 Q2.2 _ hzQ2)))))
 rintro y _
 refine Mo 1 ?_ Try.call128 (fun bs w hS hb => ear_num (rNum (rNum (rNum (rIter rSess i3 (rMany 4 Q2.2).2).2).2).2).2 (bs.getD 1 0) w hb (rNum_bd (rNum (rNum (rIter rSess i3 (rMany 4 Q2.2).2).2).2).2 _ (rNum_bd (rNum (rIter rSess i3 (rMany 4 Q2.2).2).2).2 _ (rNum_bd (rIter rSess i3 (rMany 4 Q2.2).2).2 _ (rIter_bd (B := 9223372036854775807) (fun q h => rSess_bd q _ h) i3 (rMany 4 Q2.2).2 (rMany_bd 4 Q2.2 _ hzQ2))))))
 rintro y _
 refine Mo 1 ?_ Try.call129 (fun bs w hS hb => ear_many (rNum (rNum (rNum (rNum (rIter rSess i3 (rMany 4 Q2.2).2).2).2).2).2).2 4 (bs.getD 1 0) w hb (rNum_bd (rNum (rNum (rNum (rIter rSess i3 (rMany 4 Q2.2).2).2).2).2).2 _ (rNum_bd (rNum (rNum (rIter rSess i3 (rMany 4 Q2.2).2).2).2).2 _ (rNum_bd (rNum (rIter rSess i3 (rMany 4 Q2.2).2).2).2 _ (rNum_bd (rIter rSess i3 (rMany 4 Q2.2).2).2 _ (rIter_bd (B := 9223372036854775807) (fun q h => rSess_bd q _ h) i3 (rMany 4 Q2.2).2 (rMany_bd 4 Q2.2 _ hzQ2)))))))
 rintro y _
 have hmn25 := rMany_n 4 (by decide) (rNum (rNum (rNum (rNum (rIter rSess i3 (rMany 4 Q2.2).2).2).2).2).2).2
 refine m_rowA (α := DKept) 86 ?_
 refine Ml (σ := Nat × Option Addr × Nat) (fun ⟨i4, A4x, c4x⟩ => i4 ≤ (rMany 4 (rNum (rNum (rNum (rNum (rIter rSess i3 (rMany 4 Q2.2).2).2).2).2).2).2).1.toNat ∧ ∀ x, x ∈ (rIter rKept i4 (rMany 4 (rNum (rNum (rNum (rNum (rIter rSess i3 (rMany 4 Q2.2).2).2).2).2).2).2).2).1 → x.reply.text.size ≤ 9223372036854775807) (fun ⟨i4, A4x, c4x⟩ => (rMany 4 (rNum (rNum (rNum (rNum (rIter rSess i3 (rMany 4 Q2.2).2).2).2).2).2).2).1.toNat - i4) (fun ⟨i4, A4x, c4x⟩ => [rowA 86 A4x c4x ((rIter rKept i4 (rMany 4 (rNum (rNum (rNum (rNum (rIter rSess i3 (rMany 4 Q2.2).2).2).2).2).2).2).2).1 : List DKept), ownL (keptR 86) M3, rowA 81 A3x c3x (M3 : List CSession), rowA 72 A2x c2x (Q2.1 : List DPair), ownL (lineR 3) M0, rowA 94 A0x c0x (M0 : List CLock)]) [16, 15, 14, 13, 6, 5, 4, 2] (fun ⟨i4, A4x, c4x⟩ => [(16, vI (i4 : Int))]) (fun ⟨i4, A4x, c4x⟩ => [(1, [vS (rIter rKept i4 (rMany 4 (rNum (rNum (rNum (rNum (rIter rSess i3 (rMany 4 Q2.2).2).2).2).2).2).2).2).2.1, vI (rIter rKept i4 (rMany 4 (rNum (rNum (rNum (rNum (rIter rSess i3 (rMany 4 Q2.2).2).2).2).2).2).2).2).2.2]), (3, [vI (rNum (rIter rSess i3 (rMany 4 Q2.2).2).2).1, vI (rNum (rNum (rIter rSess i3 (rMany 4 Q2.2).2).2).2).1, vI (rNum (rNum (rNum (rIter rSess i3 (rMany 4 Q2.2).2).2).2).2).1, vI (rNum (rNum (rNum (rNum (rIter rSess i3 (rMany 4 Q2.2).2).2).2).2).2).1, .v (.slice A4x ((rIter rKept i4 (rMany 4 (rNum (rNum (rNum (rNum (rIter rSess i3 (rMany 4 Q2.2).2).2).2).2).2).2).2).1).length c4x)])]) ?_ (⟨0, none, 0⟩) ⟨(Nat.zero_le _), (fun x hx => by cases hx)⟩
 rintro ⟨i4, A4x, c4x⟩ ⟨h4l, h4s⟩ _ on5
 have h4n : (rIter rKept i4 (rMany 4 (rNum (rNum (rNum (rNum (rIter rSess i3 (rMany 4 Q2.2).2).2).2).2).2).2).2).1.length = i4 := by exact rIter_len _ _ _
 refine Md ((i4 : Int) < (rMany 4 (rNum (rNum (rNum (rNum (rIter rSess i3 (rMany 4 Q2.2).2).2).2).2).2).2).1) (fun h8 => ?_) fun h8 => ?_
 rotate_left
 · have hx_i4 : i4 = (rMany 4 (rNum (rNum (rNum (rNum (rIter rSess i3 (rMany 4 Q2.2).2).2).2).2).2).2).1.toNat := by omega
   subst hx_i4
   refine M1 ?_
   refine m_f2 ?_
   refine Mal (α := CSession) 56 ([(⟨(rNum (rIter rSess i3 (rMany 4 Q2.2).2).2).1, (rNum (rNum (rIter rSess i3 (rMany 4 Q2.2).2).2).2).1, (rNum (rNum (rNum (rIter rSess i3 (rMany 4 Q2.2).2).2).2).2).1, (rNum (rNum (rNum (rNum (rIter rSess i3 (rMany 4 Q2.2).2).2).2).2).2).1, ⟨A4x, c4x, (rIter rKept (rMany 4 (rNum (rNum (rNum (rNum (rIter rSess i3 (rMany 4 Q2.2).2).2).2).2).2).2).1.toNat (rMany 4 (rNum (rNum (rNum (rNum (rIter rSess i3 (rMany 4 Q2.2).2).2).2).2).2).2).2).1⟩⟩ : CSession)]) ?_
   intro A31 c31
   refine Mi ?_ (pR ((i3 : Int) + 1))
   refine m_f2 ?_
   refine m_f2 ?_
   refine m_join (ownL (keptR 86) (M3 ++ [(⟨(rNum (rIter rSess i3 (rMany 4 Q2.2).2).2).1, (rNum (rNum (rIter rSess i3 (rMany 4 Q2.2).2).2).2).1, (rNum (rNum (rNum (rIter rSess i3 (rMany 4 Q2.2).2).2).2).2).1, (rNum (rNum (rNum (rNum (rIter rSess i3 (rMany 4 Q2.2).2).2).2).2).2).1, ⟨A4x, c4x, (rIter rKept (rMany 4 (rNum (rNum (rNum (rNum (rIter rSess i3 (rMany 4 Q2.2).2).2).2).2).2).2).1.toNat (rMany 4 (rNum (rNum (rNum (rNum (rIter rSess i3 (rMany 4 Q2.2).2).2).2).2).2).2).2).1⟩⟩ : CSession)])) (ownL_app_fp (keptR 86) M3 (⟨(rNum (rIter rSess i3 (rMany 4 Q2.2).2).2).1, (rNum (rNum (rIter rSess i3 (rMany 4 Q2.2).2).2).2).1, (rNum (rNum (rNum (rIter rSess i3 (rMany 4 Q2.2).2).2).2).2).1, (rNum (rNum (rNum (rNum (rIter rSess i3 (rMany 4 Q2.2).2).2).2).2).2).1, ⟨A4x, c4x, (rIter rKept (rMany 4 (rNum (rNum (rNum (rNum (rIter rSess i3 (rMany 4 Q2.2).2).2).2).2).2).2).1.toNat (rMany 4 (rNum (rNum (rNum (rNum (rIter rSess i3 (rMany 4 Q2.2).2).2).2).2).2).2).2).1⟩⟩ : CSession)) (fun w => ownL_app_p (keptR 86) M3 (⟨(rNum (rIter rSess i3 (rMany 4 Q2.2).2).2).1, (rNum (rNum (rIter rSess i3 (rMany 4 Q2.2).2).2).2).1, (rNum (rNum (rNum (rIter rSess i3 (rMany 4 Q2.2).2).2).2).2).1, (rNum (rNum (rNum (rNum (rIter rSess i3 (rMany 4 Q2.2).2).2).2).2).2).1, ⟨A4x, c4x, (rIter rKept (rMany 4 (rNum (rNum (rNum (rNum (rIter rSess i3 (rMany 4 Q2.2).2).2).2).2).2).2).1.toNat (rMany 4 (rNum (rNum (rNum (rNum (rIter rSess i3 (rMany 4 Q2.2).2).2).2).2).2).2).2).1⟩⟩ : CSession) w) ?_
   refine m_f4 (m_f4 (m_f4 (m_f4 (m_f4 ?_))))
   exact on4 ⟨i3 + 1, A31, c31, M3 ++ [(⟨(rNum (rIter rSess i3 (rMany 4 Q2.2).2).2).1, (rNum (rNum (rIter rSess i3 (rMany 4 Q2.2).2).2).2).1, (rNum (rNum (rNum (rIter rSess i3 (rMany 4 Q2.2).2).2).2).2).1, (rNum (rNum (rNum (rNum (rIter rSess i3 (rMany 4 Q2.2).2).2).2).2).2).1, ⟨A4x, c4x, (rIter rKept (rMany 4 (rNum (rNum (rNum (rNum (rIter rSess i3 (rMany 4 Q2.2).2).2).2).2).2).2).1.toNat (rMany 4 (rNum (rNum (rNum (rNum (rIter rSess i3 (rMany 4 Q2.2).2).2).2).2).2).2).2).1⟩⟩ : CSession)]⟩ ⟨(by show i3 + 1 ≤ (rMany 4 Q2.2).1.toNat; omega), (by rw [List.map_append, h3m]; exact congrArg (fun z => (rIter rSess i3 (rMany 4 Q2.2).2).1 ++ [z]) (show CSession.abs (⟨(rNum (rIter rSess i3 (rMany 4 Q2.2).2).2).1, (rNum (rNum (rIter rSess i3 (rMany 4 Q2.2).2).2).2).1, (rNum (rNum (rNum (rIter rSess i3 (rMany 4 Q2.2).2).2).2).2).1, (rNum (rNum (rNum (rNum (rIter rSess i3 (rMany 4 Q2.2).2).2).2).2).2).1, ⟨A4x, c4x, (rIter rKept (rMany 4 (rNum (rNum (rNum (rNum (rIter rSess i3 (rMany 4 Q2.2).2).2).2).2).2).2).1.toNat (rMany 4 (rNum (rNum (rNum (rNum (rIter rSess i3 (rMany 4 Q2.2).2).2).2).2).2).2).2).1⟩⟩ : CSession) = (rSess (rIter rSess i3 (rMany 4 Q2.2).2).2).1 from rfl)), (fun x hx => by rcases List.mem_append.1 hx with hx | hx; exact h3s x hx; rw [List.mem_singleton] at hx; subst hx; exact h4s)⟩ (by show (rMany 4 Q2.2).1.toNat - (i3 + 1) < (rMany 4 Q2.2).1.toNat - i3; omega)
 refine Mo 1 ?_ Try.call128 (fun bs w hS hb => ear_num (rIter rKept i4 (rMany 4 (rNum (rNum (rNum (rNum (rIter rSess i3 (rMany 4 Q2.2).2).2).2).2).2).2).2).2 (bs.getD 1 0) w hb (rIter_bd (B := 9223372036854775807) (fun q h => rKept_bd q _ h) i4 (rMany 4 (rNum (rNum (rNum (rNum (rIter rSess i3 (rMany 4 Q2.2).2).2).2).2).2).2).2 (rMany_bd 4 (rNum (rNum (rNum (rNum (rIter rSess i3 (rMany 4 Q2.2).2).2).2).2).2).2 _ (rNum_bd (rNum (rNum (rNum (rIter rSess i3 (rMany 4 Q2.2).2).2).2).2).2 _ (rNum_bd (rNum (rNum (rIter rSess i3 (rMany 4 Q2.2).2).2).2).2 _ (rNum_bd (rNum (rIter rSess i3 (rMany 4 Q2.2).2).2).2 _ (rNum_bd (rIter rSess i3 (rMany 4 Q2.2).2).2 _ (rIter_bd (B := 9223372036854775807) (fun q h => rSess_bd q _ h) i3 (rMany 4 Q2.2).2 (rMany_bd 4 Q2.2 _ hzQ2)))))))))
 rintro y _
 refine Mo 1 ?_ Try.call128 (fun bs w hS hb => ear_num (rNum (rIter rKept i4 (rMany 4 (rNum (rNum (rNum (rNum (rIter rSess i3 (rMany 4 Q2.2).2).2).2).2).2).2).2).2).2 (bs.getD 1 0) w hb (rNum_bd (rIter rKept i4 (rMany 4 (rNum (rNum (rNum (rNum (rIter rSess i3 (rMany 4 Q2.2).2).2).2).2).2).2).2).2 _ (rIter_bd (B := 9223372036854775807) (fun q h => rKept_bd q _ h) i4 (rMany 4 (rNum (rNum (rNum (rNum (rIter rSess i3 (rMany 4 Q2.2).2).2).2).2).2).2).2 (rMany_bd 4 (rNum (rNum (rNum (rNum (rIter rSess i3 (rMany 4 Q2.2).2).2).2).2).2).2 _ (rNum_bd (rNum (rNum (rNum (rIter rSess i3 (rMany 4 Q2.2).2).2).2).2).2 _ (rNum_bd (rNum (rNum (rIter rSess i3 (rMany 4 Q2.2).2).2).2).2 _ (rNum_bd (rNum (rIter rSess i3 (rMany 4 Q2.2).2).2).2 _ (rNum_bd (rIter rSess i3 (rMany 4 Q2.2).2).2 _ (rIter_bd (B := 9223372036854775807) (fun q h => rSess_bd q _ h) i3 (rMany 4 Q2.2).2 (rMany_bd 4 Q2.2 _ hzQ2))))))))))
 rintro y _
 refine Mo 1 ?_ Try.call128 (fun bs w hS hb => ear_num (rNum (rNum (rIter rKept i4 (rMany 4 (rNum (rNum (rNum (rNum (rIter rSess i3 (rMany 4 Q2.2).2).2).2).2).2).2).2).2).2).2 (bs.getD 1 0) w hb (rNum_bd (rNum (rIter rKept i4 (rMany 4 (rNum (rNum (rNum (rNum (rIter rSess i3 (rMany 4 Q2.2).2).2).2).2).2).2).2).2).2 _ (rNum_bd (rIter rKept i4 (rMany 4 (rNum (rNum (rNum (rNum (rIter rSess i3 (rMany 4 Q2.2).2).2).2).2).2).2).2).2 _ (rIter_bd (B := 9223372036854775807) (fun q h => rKept_bd q _ h) i4 (rMany 4 (rNum (rNum (rNum (rNum (rIter rSess i3 (rMany 4 Q2.2).2).2).2).2).2).2).2 (rMany_bd 4 (rNum (rNum (rNum (rNum (rIter rSess i3 (rMany 4 Q2.2).2).2).2).2).2).2 _ (rNum_bd (rNum (rNum (rNum (rIter rSess i3 (rMany 4 Q2.2).2).2).2).2).2 _ (rNum_bd (rNum (rNum (rIter rSess i3 (rMany 4 Q2.2).2).2).2).2 _ (rNum_bd (rNum (rIter rSess i3 (rMany 4 Q2.2).2).2).2 _ (rNum_bd (rIter rSess i3 (rMany 4 Q2.2).2).2 _ (rIter_bd (B := 9223372036854775807) (fun q h => rSess_bd q _ h) i3 (rMany 4 Q2.2).2 (rMany_bd 4 Q2.2 _ hzQ2)))))))))))
 rintro y _
 refine Mo 1 ?_ Try.call130 (fun bs w hS hb => ear_str (rNum (rNum (rNum (rIter rKept i4 (rMany 4 (rNum (rNum (rNum (rNum (rIter rSess i3 (rMany 4 Q2.2).2).2).2).2).2).2).2).2).2).2).2 (bs.getD 1 0) w hb (rNum_bd (rNum (rNum (rIter rKept i4 (rMany 4 (rNum (rNum (rNum (rNum (rIter rSess i3 (rMany 4 Q2.2).2).2).2).2).2).2).2).2).2).2 _ (rNum_bd (rNum (rIter rKept i4 (rMany 4 (rNum (rNum (rNum (rNum (rIter rSess i3 (rMany 4 Q2.2).2).2).2).2).2).2).2).2).2 _ (rNum_bd (rIter rKept i4 (rMany 4 (rNum (rNum (rNum (rNum (rIter rSess i3 (rMany 4 Q2.2).2).2).2).2).2).2).2).2 _ (rIter_bd (B := 9223372036854775807) (fun q h => rKept_bd q _ h) i4 (rMany 4 (rNum (rNum (rNum (rNum (rIter rSess i3 (rMany 4 Q2.2).2).2).2).2).2).2).2 (rMany_bd 4 (rNum (rNum (rNum (rNum (rIter rSess i3 (rMany 4 Q2.2).2).2).2).2).2).2 _ (rNum_bd (rNum (rNum (rNum (rIter rSess i3 (rMany 4 Q2.2).2).2).2).2).2 _ (rNum_bd (rNum (rNum (rIter rSess i3 (rMany 4 Q2.2).2).2).2).2 _ (rNum_bd (rNum (rIter rSess i3 (rMany 4 Q2.2).2).2).2 _ (rNum_bd (rIter rSess i3 (rMany 4 Q2.2).2).2 _ (rIter_bd (B := 9223372036854775807) (fun q h => rSess_bd q _ h) i3 (rMany 4 Q2.2).2 (rMany_bd 4 Q2.2 _ hzQ2))))))))))))
 rintro y _
 refine M1 ?_
 refine Mal (α := DKept) 40 ([(⟨(rNum (rIter rKept i4 (rMany 4 (rNum (rNum (rNum (rNum (rIter rSess i3 (rMany 4 Q2.2).2).2).2).2).2).2).2).2).1, ⟨(rNum (rNum (rIter rKept i4 (rMany 4 (rNum (rNum (rNum (rNum (rIter rSess i3 (rMany 4 Q2.2).2).2).2).2).2).2).2).2).2).1, (rNum (rNum (rNum (rIter rKept i4 (rMany 4 (rNum (rNum (rNum (rNum (rIter rSess i3 (rMany 4 Q2.2).2).2).2).2).2).2).2).2).2).2).1, (rTxt (rNum (rNum (rNum (rIter rKept i4 (rMany 4 (rNum (rNum (rNum (rNum (rIter rSess i3 (rMany 4 Q2.2).2).2).2).2).2).2).2).2).2).2).2).1⟩⟩ : DKept)]) ?_
 intro A30 c30
 refine Mi ?_ (pR ((i4 : Int) + 1))
 refine m_f5 (m_f5 (m_f5 (m_f5 (m_f5 (m_f5 ?_)))))
 exact on5 ⟨i4 + 1, A30, c30⟩ ⟨(by show i4 + 1 ≤ (rMany 4 (rNum (rNum (rNum (rNum (rIter rSess i3 (rMany 4 Q2.2).2).2).2).2).2).2).1.toNat; omega), (fun x hx => by rcases List.mem_append.1 hx with hx | hx; exact h4s x hx; rw [List.mem_singleton] at hx; subst hx; exact (rTxt_bd (rNum (rNum (rNum (rIter rKept i4 (rMany 4 (rNum (rNum (rNum (rNum (rIter rSess i3 (rMany 4 Q2.2).2).2).2).2).2).2).2).2).2).2).2 _ (rNum_bd (rNum (rNum (rIter rKept i4 (rMany 4 (rNum (rNum (rNum (rNum (rIter rSess i3 (rMany 4 Q2.2).2).2).2).2).2).2).2).2).2).2 _ (rNum_bd (rNum (rIter rKept i4 (rMany 4 (rNum (rNum (rNum (rNum (rIter rSess i3 (rMany 4 Q2.2).2).2).2).2).2).2).2).2).2 _ (rNum_bd (rIter rKept i4 (rMany 4 (rNum (rNum (rNum (rNum (rIter rSess i3 (rMany 4 Q2.2).2).2).2).2).2).2).2).2 _ (rIter_bd (B := 9223372036854775807) (fun q h => rKept_bd q _ h) i4 (rMany 4 (rNum (rNum (rNum (rNum (rIter rSess i3 (rMany 4 Q2.2).2).2).2).2).2).2).2 (rMany_bd 4 (rNum (rNum (rNum (rNum (rIter rSess i3 (rMany 4 Q2.2).2).2).2).2).2).2 _ (rNum_bd (rNum (rNum (rNum (rIter rSess i3 (rMany 4 Q2.2).2).2).2).2).2 _ (rNum_bd (rNum (rNum (rIter rSess i3 (rMany 4 Q2.2).2).2).2).2 _ (rNum_bd (rNum (rIter rSess i3 (rMany 4 Q2.2).2).2).2 _ (rNum_bd (rIter rSess i3 (rMany 4 Q2.2).2).2 _ (rIter_bd (B := 9223372036854775807) (fun q h => rSess_bd q _ h) i3 (rMany 4 Q2.2).2 (rMany_bd 4 Q2.2 _ hzQ2)))))))))))).2)⟩ (by show (rMany 4 (rNum (rNum (rNum (rNum (rIter rSess i3 (rMany 4 Q2.2).2).2).2).2).2).2).1.toNat - (i4 + 1) < (rMany 4 (rNum (rNum (rNum (rNum (rIter rSess i3 (rMany 4 Q2.2).2).2).2).2).2).2).1.toNat - i4; omega)

theorem same_state {B B' : Nat → Prop} (a b : CState) (w : World) (ha : Rds.sub B w a) (hb : Rds.sub B' w b) (he : a.abs = b.abs) : Calls Try.prog 90 #[a.val, b.val] w fun e w' => e = .returned (vb true) ∧ Kp [] w w' := by
 have oka := Rds.okof ha
 have okb := Rds.okof hb
 refine M0 ?_ Try.func90
 refine Md (a.index = b.index) (fun h1 => ?_) fun h1 => ?_
 rotate_left
 · exact absurd (congrArg (fun q => q.index) he) h1
 refine Mp ?_ Try.call25 (fun bs w hS => same_locks _ _ w (Rds.kp ha hS.kp).1 (Rds.kp hb hS.kp).1 (congrArg DState.locks he))
 refine Mq 17 true ?_ rfl
 refine Mp ?_ Try.call15 (fun bs w hS => same_pairs a.pairs b.pairs w (Rds.kp ha hS.kp).2.1 (Rds.kp hb hS.kp).2.1 (congrArg DState.pairs he))
 refine Mq 24 true ?_ rfl
 refine Mp ?_ Try.call19 (fun bs w hS => same_sessions _ _ w (Rds.kp ha hS.kp).2.2 (Rds.kp hb hS.kp).2.2 (congrArg DState.sessions he))
 exact Mt [vb true] fun bs w hS => ⟨rfl, hS.kp⟩

theorem repl_kept_ {B : Nat → Prop} (x : CReplica) (w : World) (hx : Rds.sub B w x) : Calls Try.prog 87 #[x.val] w fun e w' => ∃ y : CState, e = .returned (.tuple #[y.val, vi (mKeptS x.abs).2]) ∧ y.abs = (mKeptS x.abs).1 ∧ FreshS w w' y := by
 have qL : x.abs.log = x.log.abs := rfl
 have qS : x.abs.state = x.state.abs := rfl
 have qN : x.abs.snap = x.snap := rfl
 have qB : x.abs.log.base = x.log.base := rfl
 have qI : x.abs.state.index = x.state.index := rfl
 have qM : mLast x.abs.log = x.log.base + (x.log.entries.n : Int) := rfl
 have okx := Rds.okof hx
 have okl := okx.2.1
 have ncx := Sl.ok.nc okl
 have hnx : x.log.entries.n = x.log.entries.xs.length := rfl
 refine M0 ?_ Try.func87
 refine Md (x.log.base = 0) (fun h1 => ?_) fun h1 => ?_
 · refine Mdn (x.snap = emp) (fun h2 => ?_) fun h2 => ?_
   · exact Me2 (keptS_none (r := x.abs) h1 h2) (⟨0, Sl.nil, Sl.nil, Sl.nil⟩ : CState) rfl fun bs w hS => hS.outS (y := (⟨0, Sl.nil, Sl.nil, Sl.nil⟩ : CState)) ⟨Sl.rd_nil _ _, Sl.rd_nil _ _, Sl.rd_nil _ _⟩
   exact Me2 (keptS_some (r := x.abs) h1 h2) (⟨0, Sl.nil, Sl.nil, Sl.nil⟩ : CState) rfl fun bs w hS => hS.outS (y := (⟨0, Sl.nil, Sl.nil, Sl.nil⟩ : CState)) ⟨Sl.rd_nil _ _, Sl.rd_nil _ _, Sl.rd_nil _ _⟩
 refine Mu ?_ Try.call91 (fun bs w hS => snap_Decode x.snap w okx.1)
 rintro fp1 y1 hF1 hok1
 refine Mdn ((mUnsnap x.snap).2 = 0) (fun h3 => ?_) fun h3 => ?_
 rotate_left
 · exact Me2 (keptS_bad (r := x.abs) h1 h3) (⟨0, Sl.nil, Sl.nil, Sl.nil⟩ : CState) rfl fun bs w hS => hS.outS (y := (⟨0, Sl.nil, Sl.nil, Sl.nil⟩ : CState)) ⟨Sl.rd_nil _ _, Sl.rd_nil _ _, Sl.rd_nil _ _⟩
 refine Mdn (y1.index = x.log.base) (fun h4 => ?_) fun h4 => ?_
 rotate_left
 · exact Me2 (keptS_off (r := x.abs) (i := y1.index) h1 (show y1.index = (mUnsnap x.abs.snap).1.index from congrArg DState.index hF1) h4) (⟨0, Sl.nil, Sl.nil, Sl.nil⟩ : CState) rfl fun bs w hS => hS.outS (y := (⟨0, Sl.nil, Sl.nil, Sl.nil⟩ : CState)) ⟨Sl.rd_nil _ _, Sl.rd_nil _ _, Sl.rd_nil _ _⟩
 exact Me2 (keptS_ok (r := x.abs) (i := y1.index) h1 h3 (show y1.index = (mUnsnap x.abs.snap).1.index from congrArg DState.index hF1) h4) y1 (hF1) fun bs w hS => hS.outS (allR_sub i0 (hS.res _ i0))

theorem replica_Check {B : Nat → Prop} (x : CReplica) (w : World) (hx : Rds.sub B w x) : Calls Try.prog 85 #[x.val] w fun e w' => e = .returned (vi (mReplica x.abs)) ∧ Kp [] w w' := by
 have qL : x.abs.log = x.log.abs := rfl
 have qS : x.abs.state = x.state.abs := rfl
 have qN : x.abs.snap = x.snap := rfl
 have qB : x.abs.log.base = x.log.base := rfl
 have qI : x.abs.state.index = x.state.index := rfl
 have qM : mLast x.abs.log = x.log.base + (x.log.entries.n : Int) := rfl
 have okx := Rds.okof hx
 have okl := okx.2.1
 have ncx := Sl.ok.nc okl
 have hnx : x.log.entries.n = x.log.entries.xs.length := rfl
 refine M0 ?_ Try.func85
 refine Mp ?_ Try.call76 (fun bs w hS => log_Check x.log w (Rds.kp hx hS.kp).2.1)
 refine Mdn (mLog x.log.abs = 0) (fun h1 => ?_) fun h1 => ?_
 rotate_left
 · exact Me0 (mLog x.log.abs) (repl_log (r := x.abs) h1)
 obtain ⟨hb1, hb2, hb3, hb4⟩ := mLog_bd h1
 have hb5 : x.log.abs.base = x.log.base := rfl
 have hb6 : x.log.abs.entries = x.log.entries.xs := rfl
 rw [hb5] at hb1 hb2
 rw [hb6] at hb3
 refine Mp ?_ Try.call124 (fun bs w hS => machine_Check x.state w ⟨(Rds.kp hx hS.kp).2.2.1, (Rds.kp hx hS.kp).2.2.2.1, (Rds.kp hx hS.kp).2.2.2.2⟩)
 refine Mdn (mState x.state.abs = 0) (fun h2 => ?_) fun h2 => ?_
 rotate_left
 · exact Me0 (mState x.state.abs) (repl_state (r := x.abs) h1 h2)
 refine Mda 16 [] [] [] Try_mixed ?_
 refine Md (x.state.index < x.log.base) (fun h3 => ?_) fun h3 => ?_
 · exact Me0 9 (repl_out (r := x.abs) h1 h2 (by rw [qI, qB, qM]; omega))
 refine Mp ?_ Try.call77 (fun bs w hS => log_Last x.log w (Rds.kp hx hS.kp).2.1 (by first | exact ⟨by omega, by omega, by omega⟩ | omega))
 refine Md (x.log.base + (x.log.entries.n : Int) < x.state.index) (fun h4 => ?_) fun h4 => ?_
 · exact Me0 9 (repl_out (r := x.abs) h1 h2 (by rw [qI, qB, qM]; omega))
 refine Mu ?_ Try.call87 (fun bs w hS => repl_kept_ x w (Rds.kp hx hS.kp))
 rintro fp1 y1 hF1 hok1
 exact Me0 ((mKeptS x.abs).2) (repl_kept (r := x.abs) h1 h2 (by rw [qI, qB, qM]; omega))

theorem ref_ReplicaFault {B : Nat → Prop} (x : CReplica) (w : World) (hx : Rds.sub B w x) : Calls Try.prog 88 #[x.val] w fun e w' => e = .returned (vi (mReplica x.abs)) ∧ Kp [] w w' := by
 have qL : x.abs.log = x.log.abs := rfl
 have qS : x.abs.state = x.state.abs := rfl
 have qN : x.abs.snap = x.snap := rfl
 have qB : x.abs.log.base = x.log.base := rfl
 have qI : x.abs.state.index = x.state.index := rfl
 have qM : mLast x.abs.log = x.log.base + (x.log.entries.n : Int) := rfl
 have okx := Rds.okof hx
 have okl := okx.2.1
 have ncx := Sl.ok.nc okl
 have hnx : x.log.entries.n = x.log.entries.xs.length := rfl
 refine M0 ?_ Try.func88
 refine Mp ?_ Try.call80 (fun bs w hS => ref_LogFault x.log w (Rds.kp hx hS.kp).2.1)
 refine Md (mLog x.log.abs = 0) (fun h1 => ?_) fun h1 => ?_
 rotate_left
 · refine My false true ?_ (df h1)
   exact Me0 (mLog x.log.abs) (repl_log (r := x.abs) h1)
 obtain ⟨hb1, hb2, hb3, hb4⟩ := mLog_bd h1
 have hb5 : x.log.abs.base = x.log.base := rfl
 have hb6 : x.log.abs.entries = x.log.entries.xs := rfl
 rw [hb5] at hb1 hb2
 rw [hb6] at hb3
 refine Mp ?_ Try.call126 (fun bs w hS => ref_StateFault x.state w ⟨(Rds.kp hx hS.kp).2.2.1, (Rds.kp hx hS.kp).2.2.2.1, (Rds.kp hx hS.kp).2.2.2.2⟩)
 refine Mdn (mState x.state.abs = 0) (fun h2 => ?_) fun h2 => ?_
 rotate_left
 · exact Me0 (mState x.state.abs) (repl_state (r := x.abs) h1 h2)
 refine Mda 11 [] [] [] Try_mixed ?_
 refine Mp ?_ Try.call81 (fun bs w hS => ref_LastOf x.log w (Rds.kp hx hS.kp).2.1 (by first | exact ⟨by omega, by omega, by omega⟩ | omega))
 refine Mp ?_ Try.call56 (fun bs w hS => ref_In x.state.index x.log.base (x.log.base + (x.log.entries.n : Int)) w)
 refine Mbn (inB x.state.index x.log.base (x.log.base + (x.log.entries.n : Int))) (fun h3 => ?_) fun h3 => ?_
 rotate_left
 · simp only [iT, iF] at h3
   exact Me0 9 (repl_out (r := x.abs) h1 h2 (by (try simp only [iT, iF] at h3); rw [qI, qB, qM]; omega))
 simp only [iT, iF] at h3
 refine Md (x.log.base = 0) (fun h4 => ?_) fun h4 => ?_
 · refine Mdn (x.snap = emp) (fun h5 => ?_) fun h5 => ?_
   rotate_left
   · refine Me0 9 ?_
     have hm := repl_kept (r := x.abs) h1 h2 (by (try simp only [iT, iF] at h3); rw [qI, qB, qM]; omega)
     have hk := keptS_some (r := x.abs) h4 h5
     rw [hm, hk]
   have hzh5 : x.snap.size = 0 := by rw [h5]; rfl
   refine Me0 0 ?_
   have hm := repl_kept (r := x.abs) h1 h2 (by (try simp only [iT, iF] at h3); rw [qI, qB, qM]; omega)
   have hk := keptS_none (r := x.abs) h4 h5
   rw [hm, hk]
 refine Mu ?_ Try.call89 (fun bs w hS => ref_SnapOf x.snap w okx.1)
 rintro fp1 y1 hF1 hok1
 refine Mdn ((mUnsnap x.snap).2 = 0) (fun h6 => ?_) fun h6 => ?_
 rotate_left
 · refine Me0 9 ?_
   have hm := repl_kept (r := x.abs) h1 h2 (by (try simp only [iT, iF] at h3); rw [qI, qB, qM]; omega)
   have hk := keptS_bad (r := x.abs) h4 h6
   rw [hm, hk]
 refine Mdn (y1.index = x.log.base) (fun h7 => ?_) fun h7 => ?_
 rotate_left
 · refine Me0 9 ?_
   have hm := repl_kept (r := x.abs) h1 h2 (by (try simp only [iT, iF] at h3); rw [qI, qB, qM]; omega)
   have hk := keptS_off (r := x.abs) (i := y1.index) h4 (show y1.index = (mUnsnap x.abs.snap).1.index from congrArg DState.index hF1) h7
   rw [hm, hk]
 refine Me0 0 ?_
 have hm := repl_kept (r := x.abs) h1 h2 (by (try simp only [iT, iF] at h3); rw [qI, qB, qM]; omega)
 have hk := keptS_ok (r := x.abs) (i := y1.index) h4 h6 (show y1.index = (mUnsnap x.abs.snap).1.index from congrArg DState.index hF1) h7
 rw [hm, hk]

theorem ref_StateCopy {B : Nat → Prop} (x : CState) (w : World) (hx : Rds.sub B w x) (hsm : Rds.small x) : Calls Try.prog 84 #[x.val] w fun e w' => ∃ y : CState, e = .returned (y.val) ∧ y.abs = x.abs ∧ FreshS w w' y := by
 have okx := Rds.okof hx
 have hsp : x.pairs.xs.length * 40 ≤ 140737488355328 := hsm.2.1.1
 refine M0 ?_ Try.func84
 refine Mda 12 [] [] [] Try_mixed ?_
 refine Mu ?_ Try.call22 (fun bs w hS => ref_LocksCopyS x.locks w (Rds.kp hx hS.kp).1 hsm.1)
 rintro fp1 y1 hF1 hok1
 refine m_rowA (α := DPair) 72 ?_
 refine Ma ?_ (α := DPair) (L2 := x.pairs.xs) 40 (fun bs w hS => Sl.rd.src (s := x.pairs) (Rds.kp hx hS.kp).2.1)
 intro A2 c2
 refine Mu ?_ Try.call50 (fun bs w hS => ref_SessionsCopyS x.sessions w (Rds.kp hx hS.kp).2.2 hsm.2.2)
 rintro fp3 y3 hF3 hok3
 refine Mt [.agg #[vi x.index, y1.val, .slice A2 ([] ++ x.pairs.xs).length c2, y3.val]] fun bs w hS => ?_
 have hab : CState.abs (⟨x.index, y1, ⟨A2, c2, [] ++ x.pairs.xs⟩, y3⟩ : CState) = CState.abs x := by simp [CState.abs, *]
 exact ⟨(⟨x.index, y1, ⟨A2, c2, [] ++ x.pairs.xs⟩, y3⟩ : CState), rfl, hab, hS.outS (y := (⟨x.index, y1, ⟨A2, c2, [] ++ x.pairs.xs⟩, y3⟩ : CState)) ⟨(allR_sub i2 (hS.res _ i2)), (allR_row i1 (hS.res _ i1) (fun z hz => Sl.rd.mem (s := x.pairs) (Rds.kp hx hS.kp).2.1 z (by simpa using hz))), (allR_sub i0 (hS.res _ i0))⟩⟩

theorem machine_Copy {B : Nat → Prop} (x : CState) (w : World) (hx : Rds.sub B w x) (hsm : Rds.small x) : Calls Try.prog 125 #[x.val] w fun e w' => ∃ y : CState, e = .returned (y.val) ∧ y.abs = x.abs ∧ FreshS w w' y := by
 have okx := Rds.okof hx
 refine M0 ?_ Try.func125
 refine Mda 12 [] [] [] Try_mixed ?_
 refine Mu ?_ Try.call114 (fun bs w hS => lock_CopyS x.locks w (Rds.kp hx hS.kp).1 hsm.1)
 rintro fp1 y1 hF1 hok1
 refine Mf ?_ Try.call44 (fun bs w hS => clone_Pair x.pairs w (Rds.kp hx hS.kp).2.1 hsm.2.1.1)
 rintro y2 hF2
 refine Mu ?_ Try.call52 (fun bs w hS => session_CopyS x.sessions w (Rds.kp hx hS.kp).2.2 hsm.2.2)
 rintro fp4 y4 hF4 hok4
 refine Mt [.agg #[vi x.index, y1.val, y2.val, y4.val]] fun bs w hS => ?_
 have hab : CState.abs (⟨x.index, y1, y2, y4⟩ : CState) = CState.abs x := by simp [CState.abs, *]
 exact ⟨(⟨x.index, y1, y2, y4⟩ : CState), rfl, hab, hS.outS (y := (⟨x.index, y1, y2, y4⟩ : CState)) ⟨(allR_sub i2 (hS.res _ i2)), (allR_row i1 (hS.res _ i1) (fun z hz => Sl.rd.mem (Rds.kp hx hS.kp).2.1 z (hF2 ▸ hz))), (allR_sub i0 (hS.res _ i0))⟩⟩

theorem ref_ReplicaCopy {B : Nat → Prop} (x : CReplica) (w : World) (hx : Rds.sub B w x) (hsm : Rds.small x) : Calls Try.prog 32 #[x.val] w fun e w' => ∃ y : CReplica, e = .returned (y.val) ∧ y.abs = x.abs ∧ FreshS w w' y := by
 have okx := Rds.okof hx
 refine M0 ?_ Try.func32
 refine Mda 9 [] [] [] Try_mixed ?_
 refine Mu ?_ Try.call28 (fun bs w hS => ref_LogCopy x.log w (Rds.kp hx hS.kp).2.1 hsm.1)
 rintro fp1 y1 hF1 hok1
 refine Mu ?_ Try.call84 (fun bs w hS => ref_StateCopy x.state w ⟨(Rds.kp hx hS.kp).2.2.1, (Rds.kp hx hS.kp).2.2.2.1, (Rds.kp hx hS.kp).2.2.2.2⟩ ⟨hsm.2.1, hsm.2.2.1, hsm.2.2.2⟩)
 rintro fp2 y2 hF2 hok2
 refine Mt [.agg #[vi y1.base, y1.entries.val, vs x.snap, vi y2.index, y2.locks.val, y2.pairs.val, y2.sessions.val]] fun bs w hS => ?_
 have hab : CReplica.abs (⟨⟨y1.base, y1.entries⟩, x.snap, ⟨y2.index, y2.locks, y2.pairs, y2.sessions⟩⟩ : CReplica) = CReplica.abs x := by simp [CReplica.abs, *]
 exact ⟨(⟨⟨y1.base, y1.entries⟩, x.snap, ⟨y2.index, y2.locks, y2.pairs, y2.sessions⟩⟩ : CReplica), rfl, hab, hS.outS (y := (⟨⟨y1.base, y1.entries⟩, x.snap, ⟨y2.index, y2.locks, y2.pairs, y2.sessions⟩⟩ : CReplica)) ⟨okx.1, (allR_sub (y := y1) i1 (hS.res _ i1)), (allR_sub (y := y2) i0 (hS.res _ i0)).1, (allR_sub (y := y2) i0 (hS.res _ i0)).2.1, (allR_sub (y := y2) i0 (hS.res _ i0)).2.2⟩⟩

theorem replica_Copy {B : Nat → Prop} (x : CReplica) (w : World) (hx : Rds.sub B w x) (hsm : Rds.small x) : Calls Try.prog 86 #[x.val] w fun e w' => ∃ y : CReplica, e = .returned (y.val) ∧ y.abs = x.abs ∧ FreshS w w' y := by
 have okx := Rds.okof hx
 refine M0 ?_ Try.func86
 refine Mda 9 [] [] [] Try_mixed ?_
 refine Mu ?_ Try.call78 (fun bs w hS => log_Copy x.log w (Rds.kp hx hS.kp).2.1 hsm.1)
 rintro fp1 y1 hF1 hok1
 refine Mu ?_ Try.call125 (fun bs w hS => machine_Copy x.state w ⟨(Rds.kp hx hS.kp).2.2.1, (Rds.kp hx hS.kp).2.2.2.1, (Rds.kp hx hS.kp).2.2.2.2⟩ ⟨hsm.2.1, hsm.2.2.1, hsm.2.2.2⟩)
 rintro fp2 y2 hF2 hok2
 refine Mt [.agg #[vi y1.base, y1.entries.val, vs x.snap, vi y2.index, y2.locks.val, y2.pairs.val, y2.sessions.val]] fun bs w hS => ?_
 have hab : CReplica.abs (⟨⟨y1.base, y1.entries⟩, x.snap, ⟨y2.index, y2.locks, y2.pairs, y2.sessions⟩⟩ : CReplica) = CReplica.abs x := by simp [CReplica.abs, *]
 exact ⟨(⟨⟨y1.base, y1.entries⟩, x.snap, ⟨y2.index, y2.locks, y2.pairs, y2.sessions⟩⟩ : CReplica), rfl, hab, hS.outS (y := (⟨⟨y1.base, y1.entries⟩, x.snap, ⟨y2.index, y2.locks, y2.pairs, y2.sessions⟩⟩ : CReplica)) ⟨okx.1, (allR_sub (y := y1) i1 (hS.res _ i1)), (allR_sub (y := y2) i0 (hS.res _ i0)).1, (allR_sub (y := y2) i0 (hS.res _ i0)).2.1, (allR_sub (y := y2) i0 (hS.res _ i0)).2.2⟩⟩

theorem same_replica {B B' : Nat → Prop} (a b : CReplica) (w : World) (ha : Rds.sub B w a) (hb : Rds.sub B' w b) (he : a.abs = b.abs) : Calls Try.prog 35 #[a.val, b.val] w fun e w' => e = .returned (vb true) ∧ Kp [] w w' := by
 have oka := Rds.okof ha
 have okb := Rds.okof hb
 refine M0 ?_ Try.func35
 refine Md (a.snap = b.snap) (fun h1 => ?_) fun h1 => ?_
 rotate_left
 · exact absurd (congrArg (fun q => q.snap) he) h1
 refine Mp ?_ Try.call31 (fun bs w hS => same_log a.log b.log w (Rds.kp ha hS.kp).2.1 (Rds.kp hb hS.kp).2.1 (congrArg DReplica.log he))
 refine Mq 17 true ?_ rfl
 refine Mp ?_ Try.call90 (fun bs w hS => same_state a.state b.state w ⟨(Rds.kp ha hS.kp).2.2.1, (Rds.kp ha hS.kp).2.2.2.1, (Rds.kp ha hS.kp).2.2.2.2⟩ ⟨(Rds.kp hb hS.kp).2.2.1, (Rds.kp hb hS.kp).2.2.2.1, (Rds.kp hb hS.kp).2.2.2.2⟩ (congrArg DReplica.state he))
 exact Mt [vb true] fun bs w hS => ⟨rfl, hS.kp⟩

theorem replica_Compact {B : Nat → Prop} (x : CReplica) (w : World) (hx : Rds.sub B w x) : Calls Try.prog 38 #[x.val] w fun e w' => ∃ y : CReplica, e = .returned (.tuple #[y.val, vi (mRCompact x.abs).2]) ∧ y.abs = (mRCompact x.abs).1 ∧ FreshS w w' y := by
 have qL : x.abs.log = x.log.abs := rfl
 have qS : x.abs.state = x.state.abs := rfl
 have qN : x.abs.snap = x.snap := rfl
 have qB : x.abs.log.base = x.log.base := rfl
 have qI : x.abs.state.index = x.state.index := rfl
 have qM : mLast x.abs.log = x.log.base + (x.log.entries.n : Int) := rfl
 have okx := Rds.okof hx
 have okl := okx.2.1
 have ncx := Sl.ok.nc okl
 have hnx : x.log.entries.n = x.log.entries.xs.length := rfl
 refine M0 ?_ Try.func38
 refine Mp ?_ Try.call85 (fun bs w hS => replica_Check x w (Rds.kp hx hS.kp))
 refine Mdn (mReplica x.abs = 0) (fun h1 => ?_) fun h1 => ?_
 rotate_left
 · exact Me2 ((show mRCompact x.abs = (zRepl, mReplica x.abs) by unfold mRCompact; rw [if_pos h1])) (⟨⟨0, Sl.nil⟩, emp, 0, Sl.nil, Sl.nil, Sl.nil⟩ : CReplica) rfl fun bs w hS => hS.outS (y := (⟨⟨0, Sl.nil⟩, emp, 0, Sl.nil, Sl.nil, Sl.nil⟩ : CReplica)) ⟨(by show emp.size ≤ _; rw [emp_size]; omega), Sl.rd_nil _ _, Sl.rd_nil _ _, Sl.rd_nil _ _, Sl.rd_nil _ _⟩
 obtain ⟨hp1, hp2, hp3, hp4, hp5⟩ := mReplica_parts h1
 obtain ⟨hb1, hb2, hb3, hb4⟩ := mLog_bd hp1
 have hb6 : x.abs.log.entries = x.log.entries.xs := rfl
 rw [qB] at hb1 hb2 hp3
 rw [qI] at hp3 hp4
 rw [qM] at hp4
 rw [hb6] at hb3
 refine Md (x.state.index = x.log.base) (fun h2 => ?_) fun h2 => ?_
 · exact Me2 ((show mRCompact x.abs = (zRepl, 12) by unfold mRCompact; rw [if_neg (fun q => q h1), if_pos (show x.abs.state.index = x.abs.log.base from h2)])) (⟨⟨0, Sl.nil⟩, emp, 0, Sl.nil, Sl.nil, Sl.nil⟩ : CReplica) rfl fun bs w hS => hS.outS (y := (⟨⟨0, Sl.nil⟩, emp, 0, Sl.nil, Sl.nil, Sl.nil⟩ : CReplica)) ⟨(by show emp.size ≤ _; rw [emp_size]; omega), Sl.rd_nil _ _, Sl.rd_nil _ _, Sl.rd_nil _ _, Sl.rd_nil _ _⟩
 refine Mu ?_ Try.call92 (fun bs w hS => log_Cut x.log x.state.index w (Rds.kp hx hS.kp).2.1)
 rintro fp1 y1 hF1 hok1
 refine Mdn ((mCut x.log.abs x.state.index).2 = 0) (fun h3 => ?_) fun h3 => ?_
 rotate_left
 · exact Me2 ((show mRCompact x.abs = (zRepl, (mCut x.log.abs x.state.index).2) by unfold mRCompact; rw [if_neg (fun q => q h1), if_neg (show ¬ x.abs.state.index = x.abs.log.base from h2), if_pos (show ¬ (mCut x.abs.log x.abs.state.index).2 = 0 from h3)]; rfl)) (⟨⟨0, Sl.nil⟩, emp, 0, Sl.nil, Sl.nil, Sl.nil⟩ : CReplica) rfl fun bs w hS => hS.outS (y := (⟨⟨0, Sl.nil⟩, emp, 0, Sl.nil, Sl.nil, Sl.nil⟩ : CReplica)) ⟨(by show emp.size ≤ _; rw [emp_size]; omega), Sl.rd_nil _ _, Sl.rd_nil _ _, Sl.rd_nil _ _, Sl.rd_nil _ _⟩
 refine Mp ?_ Try.call93 (fun bs w hS => snap_Encode x.state w ⟨(Rds.kp hx hS.kp).2.2.1, (Rds.kp hx hS.kp).2.2.2.1, (Rds.kp hx hS.kp).2.2.2.2⟩)
 refine Mdn ((mSnap x.state.abs).2 = 0) (fun h4 => ?_) fun h4 => ?_
 rotate_left
 · exact absurd (mSnap_ok (s := x.state.abs) hp2) h4
 refine Mu ?_ Try.call86 (fun bs w hS => replica_Copy x w (Rds.kp hx hS.kp) (small_repl (by assumption)))
 rintro fp2 y2 hF2 hok2
 refine Mt [.agg #[vi y1.base, y1.entries.val, vs (mSnap x.state.abs).1, vi y2.state.index, y2.state.locks.val, y2.state.pairs.val, y2.state.sessions.val], vi 0] fun bs w hS => ?_
 have hm : mRCompact x.abs = (⟨(mCut x.log.abs x.state.index).1, (mSnap x.state.abs).1, x.state.abs⟩, 0) := by grind [mRCompact]
 have hs2 : y2.state.abs = x.state.abs := congrArg DReplica.state hF2
 have hp := (show Rds.sub (· ∈ (allR [subR fp2 y2, subR fp1 y1]).fp) w y2 from allR_sub (y := y2) i0 (hS.res _ i0))
 refine ⟨(⟨y1, (mSnap x.state.abs).1, y2.state⟩ : CReplica), ?_, ?_, hS.outS (y := (⟨y1, (mSnap x.state.abs).1, y2.state⟩ : CReplica)) ⟨mSnap_size _, (show Rds.sub (· ∈ (allR [subR fp2 y2, subR fp1 y1]).fp) w y1 from allR_sub (y := y1) i1 (hS.res _ i1)), hp.2.2⟩⟩
 · rw [hm]; rfl
 · rw [hm]; show (⟨y1.abs, _, y2.state.abs⟩ : DReplica) = _; rw [hF1, hs2]

theorem ref_CompactedOf {B : Nat → Prop} (x : CReplica) (w : World) (hx : Rds.sub B w x) : Calls Try.prog 39 #[x.val] w fun e w' => ∃ y : CReplica, e = .returned (.tuple #[y.val, vi (mRCompact x.abs).2]) ∧ y.abs = (mRCompact x.abs).1 ∧ FreshS w w' y := by
 have qL : x.abs.log = x.log.abs := rfl
 have qS : x.abs.state = x.state.abs := rfl
 have qN : x.abs.snap = x.snap := rfl
 have qB : x.abs.log.base = x.log.base := rfl
 have qI : x.abs.state.index = x.state.index := rfl
 have qM : mLast x.abs.log = x.log.base + (x.log.entries.n : Int) := rfl
 have okx := Rds.okof hx
 have okl := okx.2.1
 have ncx := Sl.ok.nc okl
 have hnx : x.log.entries.n = x.log.entries.xs.length := rfl
 refine M0 ?_ Try.func39
 refine Mp ?_ Try.call88 (fun bs w hS => ref_ReplicaFault x w (Rds.kp hx hS.kp))
 refine Md (mReplica x.abs = 0) (fun h1 => ?_) fun h1 => ?_
 rotate_left
 · refine My false true ?_ (df h1)
   exact Me2 ((show mRCompact x.abs = (zRepl, mReplica x.abs) by unfold mRCompact; rw [if_pos h1])) (⟨⟨0, Sl.nil⟩, emp, 0, Sl.nil, Sl.nil, Sl.nil⟩ : CReplica) rfl fun bs w hS => hS.outS (y := (⟨⟨0, Sl.nil⟩, emp, 0, Sl.nil, Sl.nil, Sl.nil⟩ : CReplica)) ⟨(by show emp.size ≤ _; rw [emp_size]; omega), Sl.rd_nil _ _, Sl.rd_nil _ _, Sl.rd_nil _ _, Sl.rd_nil _ _⟩
 obtain ⟨hp1, hp2, hp3, hp4, hp5⟩ := mReplica_parts h1
 obtain ⟨hb1, hb2, hb3, hb4⟩ := mLog_bd hp1
 have hb6 : x.abs.log.entries = x.log.entries.xs := rfl
 rw [qB] at hb1 hb2 hp3
 rw [qI] at hp3 hp4
 rw [qM] at hp4
 rw [hb6] at hb3
 refine Md (x.state.index = x.log.base) (fun h2 => ?_) fun h2 => ?_
 · refine Mq 22 true ?_ rfl
   exact Me2 ((show mRCompact x.abs = (zRepl, 12) by unfold mRCompact; rw [if_neg (fun q => q h1), if_pos (show x.abs.state.index = x.abs.log.base from h2)])) (⟨⟨0, Sl.nil⟩, emp, 0, Sl.nil, Sl.nil, Sl.nil⟩ : CReplica) rfl fun bs w hS => hS.outS (y := (⟨⟨0, Sl.nil⟩, emp, 0, Sl.nil, Sl.nil, Sl.nil⟩ : CReplica)) ⟨(by show emp.size ≤ _; rw [emp_size]; omega), Sl.rd_nil _ _, Sl.rd_nil _ _, Sl.rd_nil _ _, Sl.rd_nil _ _⟩
 refine My true true ?_ (dt h1)
 refine Mu ?_ Try.call94 (fun bs w hS => ref_CutOf x.log x.state.index w (Rds.kp hx hS.kp).2.1)
 rintro fp1 y1 hF1 hok1
 refine Mdn ((mCut x.log.abs x.state.index).2 = 0) (fun h4 => ?_) fun h4 => ?_
 rotate_left
 · exact Me2 ((show mRCompact x.abs = (zRepl, (mCut x.log.abs x.state.index).2) by unfold mRCompact; rw [if_neg (fun q => q h1), if_neg (show ¬ x.abs.state.index = x.abs.log.base from h2), if_pos (show ¬ (mCut x.abs.log x.abs.state.index).2 = 0 from h4)]; rfl)) (⟨⟨0, Sl.nil⟩, emp, 0, Sl.nil, Sl.nil, Sl.nil⟩ : CReplica) rfl fun bs w hS => hS.outS (y := (⟨⟨0, Sl.nil⟩, emp, 0, Sl.nil, Sl.nil, Sl.nil⟩ : CReplica)) ⟨(by show emp.size ≤ _; rw [emp_size]; omega), Sl.rd_nil _ _, Sl.rd_nil _ _, Sl.rd_nil _ _, Sl.rd_nil _ _⟩
 refine Mu ?_ Try.call32 (fun bs w hS => ref_ReplicaCopy x w (Rds.kp hx hS.kp) (small_repl (by assumption)))
 rintro fp2 y2 hF2 hok2
 refine Mp ?_ Try.call95 (fun bs w hS => ref_SnapBytes x.state w ⟨(Rds.kp hx hS.kp).2.2.1, (Rds.kp hx hS.kp).2.2.2.1, (Rds.kp hx hS.kp).2.2.2.2⟩)
 refine Mt [.agg #[vi y1.base, y1.entries.val, vs (mSnap x.state.abs).1, vi y2.state.index, y2.state.locks.val, y2.state.pairs.val, y2.state.sessions.val], vi 0] fun bs w hS => ?_
 have hm : mRCompact x.abs = (⟨(mCut x.log.abs x.state.index).1, (mSnap x.state.abs).1, x.state.abs⟩, 0) := by grind [mRCompact]
 have hs2 : y2.state.abs = x.state.abs := congrArg DReplica.state hF2
 have hp := (show Rds.sub (· ∈ (allR [subR fp2 y2, subR fp1 y1]).fp) w y2 from allR_sub (y := y2) i0 (hS.res _ i0))
 refine ⟨(⟨y1, (mSnap x.state.abs).1, y2.state⟩ : CReplica), ?_, ?_, hS.outS (y := (⟨y1, (mSnap x.state.abs).1, y2.state⟩ : CReplica)) ⟨mSnap_size _, (show Rds.sub (· ∈ (allR [subR fp2 y2, subR fp1 y1]).fp) w y1 from allR_sub (y := y1) i1 (hS.res _ i1)), hp.2.2⟩⟩
 · rw [hm]; rfl
 · rw [hm]; show (⟨y1.abs, _, y2.state.abs⟩ : DReplica) = _; rw [hF1, hs2]

theorem law_ReplicaCompacts {B : Nat → Prop} (x : CReplica) (w : World) (hx : Rds.sub B w x) (hsm : Rds.small x) : Calls Try.prog 11 #[x.val] w fun e w' => e = .returned (vb true) ∧ Kp [] w w' := by
 have okx := Rds.okof hx
 refine M0 ?_ Try.func11
 refine Mu ?_ Try.call32 (fun bs w hS => ref_ReplicaCopy x w (Rds.kp hx hS.kp) hsm)
 rintro fp1 y1 hF1 hok1
 refine Mu ?_ Try.call38 (fun bs w hS => replica_Compact y1 w (hS.res _ i0))
 rintro fp2 y2 hF2 hok2
 refine Mu ?_ Try.call39 (fun bs w hS => ref_CompactedOf x w (Rds.kp hx hS.kp))
 rintro fp3 y3 hF3 hok3
 refine Md ((mRCompact y1.abs).2 = (mRCompact x.abs).2) (fun h1 => ?_) fun h1 => ?_
 rotate_left
 · exfalso; first | (simp at h1; done) | (rw [hF1] at h1; simp at h1; done)
 refine Mp ?_ Try.call35 (fun bs w hS => same_replica y2 y3 w (hS.res _ i1) (hS.res _ i0) (by rw [hF2, hF3, hF1]))
 refine Mq 28 true ?_ rfl
 refine Mp ?_ Try.call35 (fun bs w hS => same_replica y1 x w (hS.res _ i2) (Rds.kp hx hS.kp) hF1)
 exact Meb true (by simp [retOf, den])

end Go.Proofs.Ytakdjdfkdbofoab.W
