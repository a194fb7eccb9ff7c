/-
  The functions that the law ReplicaApplies reaches, walked: each returns what its model says.
  Conditions: those that each theorem states.
-/
import Derived.Test.YtbjakddkfgjkaaaGreatWReplicaAppliesa
set_option linter.unusedVariables false
set_option linter.unusedSimpArgs false
set_option maxRecDepth 100000
set_option maxHeartbeats 2000000
namespace Go.Proofs.YtbjakddkfgjkaaaGreat.W
open Go.Proofs.YtbjakddkfgjkaaaGreat.Fw Go.RowKit
attribute [local irreducible] JM nx

theorem session_Leave {B : Nat → Prop} (s : Sl CSession) (n t : Int) (w : World) (hs : s.rd B w) (ht : inR t) : Calls Tryz.prog 26 #[.slice s.A s.n s.c, .int .i64 n, .int .i64 t] w fun e w' => ∃ y : Sl CSession, e = .returned (.tuple #[.slice y.A y.n y.c, .agg #[.int .i64 ((mLeave (s.xs.map CSession.abs) n t).2.1).code, .int .i64 ((mLeave (s.xs.map CSession.abs) n t).2.1).n, .string ((mLeave (s.xs.map CSession.abs) n t).2.1).text], .int .i64 (mLeave (s.xs.map CSession.abs) n t).2.2]) ∧ y.xs.map CSession.abs = (mLeave (s.xs.map CSession.abs) n t).1 ∧ FreshS w w' y := by
 have oks := Sl.rd.ok hs
 have ncs := Sl.ok.nc oks
 have hns : s.n = s.xs.length := rfl
 have hml : (s.xs.map CSession.abs).length = s.n := by simp
 refine M0 Tryz.func26 (J := ?_)
 refine Mp Tryz.call63 (fun bs w hS => session_Check s n w (Sl.rd.kp hs hS.kp)) (J := ?_)
 refine Mdn (mSess (s.xs.map CSession.abs) n = 0) (T := fun h1 => ?_) (F := fun h1 => ?_)
 rotate_left
 · refine Mt [.slice none 0 0, .agg #[.int .i64 0, .int .i64 0, .string emp], .int .i64 (mSess (s.xs.map CSession.abs) n)] fun bs w hS => ?_
   have hm : mLeave (s.xs.map CSession.abs) n t = ([], zRep, mSess (s.xs.map CSession.abs) n) := by unfold mLeave; rw [if_pos h1]
   refine ⟨Sl.nil, ?_, ?_, hS.outS (Sl.rd_nil _ _)⟩
   · rw [hm]; rfl
   · rw [hm]; rfl
 obtain ⟨hi0, hi1, hln, hall⟩ := mSess_bd h1
 refine Mf (σ := Sl CSession) (v := fun y1 => .slice y1.A y1.n y1.c) (F := fun y1 => y1.xs.map CSession.abs = s.xs.map CSession.abs) (r := fun y1 => sessR 118 141 y1) Tryz.call70 (fun bs w hS => session_Copy s w (Sl.rd.kp hs hS.kp) (small_sess (by assumption))) (J := ?_)
 rintro y1 hF1
 refine m_split2 ?_
 have hnm1 := sess_texts (hs) hF1
 refine m_know (F := ∀ i, i < y1.n → Rds.ok (y1.at i)) (fun bs w hS i hi => Rds.okof (Sl.rd.sub (own_sess (A := y1.A) (c := y1.c) (L := y1.xs) (hS.res _ (.head _)) (hS.res _ (.tail _ (.head _))) hnm1) hi)) fun okown1 => ?_
 refine m_know (F := RowOk y1.A y1.c (y1.xs : List CSession)) (fun bs w hS => rowA_rok (hS.res _ (.tail _ (.head _)))) fun hrow1 => ?_
 have nchrow1 := hrow1.2
 have hnn := map_n hF1
 have hnx : y1.n = y1.xs.length := rfl
 have hok1 : Sl.ok y1 := ⟨nchrow1.1, by unfold maxLen; exact nchrow1.2, fun i hi => ⟨hrow1.1 i hi, okown1 i hi⟩⟩
 refine Mp Tryz.call76 (fun bs w hS => session_find y1 t w (own_sess (A := y1.A) (c := y1.c) (L := y1.xs) (hS.res _ (.head _)) (hS.res _ (.tail _ (.head _))) hnm1) (by omega)) (J := ?_)
 refine Mbn (mBSf (fun x : CSession => IntKind.i64.wrap (x.client - t)) y1.xs) (T := fun h2 => ?_) (F := fun h2 => ?_)
 rotate_left
 · refine Mt [.slice y1.A y1.n y1.c, .agg #[.int .i64 11, .int .i64 0, .string emp], .int .i64 0] fun bs w hS => ?_
   have hmi : mIdx (fun x : DSession => decide (x.client = t)) (y1.xs.map CSession.abs) = mIdx (fun x : DSession => decide (x.client = t)) (s.xs.map CSession.abs) := by rw [hF1]
   have hb := bsf_sess (L := y1.xs) (index := n) (t := t) (by rw [hF1]; assumption) ht
   have hb1 := hb.1
   rw [h2, hmi] at hb1
   have hb3 := of_decide_eq_false hb1.symm
   have hm : mLeave (s.xs.map CSession.abs) n t = (s.xs.map CSession.abs, ⟨11, 0, emp⟩, 0) := by unfold mLeave; rw [if_neg (by simpa using (by assumption : mSess _ _ = 0)), if_pos (by omega)]
   refine ⟨y1, ?_, ?_, hS.outS (y := y1) (out_sess (L0 := y1.xs) (.tail _ (.head _)) (.head _) hS.res (fun x hx => hx) hnm1)⟩
   · rw [hm]; rfl
   · rw [hm]; exact hF1
 have hlt := mBSf_lt h2
 refine Mi (pR (((mBS (fun x : CSession => IntKind.i64.wrap (x.client - t)) y1.xs : Nat) : Int) + 1)) (J := ?_)
 refine m_f1 ?_
 refine Mtu (σ := Unit) (v := fun _ => .slice y1.A (y1.xs.take (((mBS (fun x : CSession => IntKind.i64.wrap (x.client - t)) y1.xs : Nat) : Int)).toNat ++ y1.xs.drop ((((mBS (fun x : CSession => IntKind.i64.wrap (x.client - t)) y1.xs : Nat) : Int)).toNat + 1)).length y1.c) (F := fun _ => True) (r := fun _ => rowA 118 y1.A y1.c (y1.xs.take (((mBS (fun x : CSession => IntKind.i64.wrap (x.client - t)) y1.xs : Nat) : Int)).toNat ++ y1.xs.drop ((((mBS (fun x : CSession => IntKind.i64.wrap (x.client - t)) y1.xs : Nat) : Int)).toNat + 1) : List CSession)) (vs := fun bs => [.slice y1.A y1.n y1.c, .int .i64 ((mBS (fun x : CSession => IntKind.i64.wrap (x.client - t)) y1.xs : Nat) : Int), .int .i64 (((mBS (fun x : CSession => IntKind.i64.wrap (x.client - t)) y1.xs : Nat) : Int) + 1)]) Tryz.call78 (fun bs w hS => (delR_Session y1.A y1.c y1.xs (((mBS (fun x : CSession => IntKind.i64.wrap (x.client - t)) y1.xs : Nat) : Int)).toNat ((((mBS (fun x : CSession => IntKind.i64.wrap (x.client - t)) y1.xs : Nat) : Int)).toNat + 1) _ _ w (hS.res _ (.head _)) hS.head1.2.2 (by omega) (by omega) (by omega) (by omega)).mono (fun e w' ⟨h1, h2⟩ => ⟨(), h1, trivial, h2⟩)) (J := ?_)
 rintro _ _
 refine Mt [.slice y1.A (y1.xs.take (((mBS (fun x : CSession => IntKind.i64.wrap (x.client - t)) y1.xs : Nat) : Int)).toNat ++ y1.xs.drop ((((mBS (fun x : CSession => IntKind.i64.wrap (x.client - t)) y1.xs : Nat) : Int)).toNat + 1)).length y1.c, .agg #[.int .i64 0, .int .i64 0, .string emp], .int .i64 0] fun bs w hS => ?_
 have hmi : mIdx (fun x : DSession => decide (x.client = t)) (y1.xs.map CSession.abs) = mIdx (fun x : DSession => decide (x.client = t)) (s.xs.map CSession.abs) := by rw [hF1]
 have hb := bsf_sess (L := y1.xs) (index := n) (t := t) (by rw [hF1]; assumption) ht
 have hb1 := hb.1
 rw [h2, hmi] at hb1
 have hb3 := of_decide_eq_true hb1.symm
 have hb2 := hb.2 h2
 rw [hmi] at hb2
 have hm : mLeave (s.xs.map CSession.abs) n t = ((s.xs.map CSession.abs).take (mIdx (fun x : DSession => decide (x.client = t)) (s.xs.map CSession.abs)).toNat ++ (s.xs.map CSession.abs).drop ((mIdx (fun x : DSession => decide (x.client = t)) (s.xs.map CSession.abs)).toNat + 1), zRep, 0) := by unfold mLeave; rw [if_neg (by simpa using (by assumption : mSess _ _ = 0)), if_neg (by omega)]
 refine ⟨⟨y1.A, y1.c, y1.xs.take (((mBS (fun x : CSession => IntKind.i64.wrap (x.client - t)) y1.xs : Nat) : Int)).toNat ++ y1.xs.drop ((((mBS (fun x : CSession => IntKind.i64.wrap (x.client - t)) y1.xs : Nat) : Int)).toNat + 1)⟩, ?_, ?_, hS.outS (y := (⟨y1.A, y1.c, y1.xs.take (((mBS (fun x : CSession => IntKind.i64.wrap (x.client - t)) y1.xs : Nat) : Int)).toNat ++ y1.xs.drop ((((mBS (fun x : CSession => IntKind.i64.wrap (x.client - t)) y1.xs : Nat) : Int)).toNat + 1)⟩ : Sl CSession)) (out_sess (L0 := y1.xs) (.head _) (.tail _ (.head _)) hS.res (fun x hx => ?_) hnm1)⟩
 · rw [hm]; rfl
 · rw [hm, ← hb2, Int.toNat_natCast, ← hF1]; simp [List.map_append, List.map_take, List.map_drop]
 · simp only [List.nil_append, List.mem_append] at hx; rcases hx with hx | hx
   · exact List.mem_of_mem_take hx
   · exact List.mem_of_mem_drop hx

theorem ref_LeftOf {B : Nat → Prop} (s : Sl CSession) (n t : Int) (w : World) (hs : s.rd B w) (ht : inR t) : Calls Tryz.prog 35 #[.slice s.A s.n s.c, .int .i64 n, .int .i64 t] w fun e w' => ∃ y : Sl CSession, e = .returned (.tuple #[.slice y.A y.n y.c, .agg #[.int .i64 ((mLeave (s.xs.map CSession.abs) n t).2.1).code, .int .i64 ((mLeave (s.xs.map CSession.abs) n t).2.1).n, .string ((mLeave (s.xs.map CSession.abs) n t).2.1).text], .int .i64 (mLeave (s.xs.map CSession.abs) n t).2.2]) ∧ y.xs.map CSession.abs = (mLeave (s.xs.map CSession.abs) n t).1 ∧ FreshS w w' y := by
 have oks := Sl.rd.ok hs
 have ncs := Sl.ok.nc oks
 have hns : s.n = s.xs.length := rfl
 have hml : (s.xs.map CSession.abs).length = s.n := by simp
 refine M0 Tryz.func35 (J := ?_)
 refine Mp Tryz.call92 (fun bs w hS => ref_SessionsFault s n w (Sl.rd.kp hs hS.kp)) (J := ?_)
 refine Mdn (mSess (s.xs.map CSession.abs) n = 0) (T := fun h1 => ?_) (F := fun h1 => ?_)
 rotate_left
 · refine Mt [.slice none 0 0, .agg #[.int .i64 0, .int .i64 0, .string emp], .int .i64 (mSess (s.xs.map CSession.abs) n)] fun bs w hS => ?_
   have hm : mLeave (s.xs.map CSession.abs) n t = ([], zRep, mSess (s.xs.map CSession.abs) n) := by unfold mLeave; rw [if_pos h1]
   refine ⟨Sl.nil, ?_, ?_, hS.outS (Sl.rd_nil _ _)⟩
   · rw [hm]; rfl
   · rw [hm]; rfl
 obtain ⟨hi0, hi1, hln, hall⟩ := mSess_bd h1
 refine Mf (σ := Sl CSession) (v := fun y1 => .slice y1.A y1.n y1.c) (F := fun y1 => y1.xs.map CSession.abs = s.xs.map CSession.abs) (r := fun y1 => sessR 118 141 y1) Tryz.call19 (fun bs w hS => ref_SessionsCopy s w (Sl.rd.kp hs hS.kp) (small_sess (by assumption))) (J := ?_)
 rintro y1 hF1
 refine m_split2 ?_
 have hnm1 := sess_texts (hs) hF1
 refine m_know (F := ∀ i, i < y1.n → Rds.ok (y1.at i)) (fun bs w hS i hi => Rds.okof (Sl.rd.sub (own_sess (A := y1.A) (c := y1.c) (L := y1.xs) (hS.res _ (.head _)) (hS.res _ (.tail _ (.head _))) hnm1) hi)) fun okown1 => ?_
 refine m_know (F := RowOk y1.A y1.c (y1.xs : List CSession)) (fun bs w hS => rowA_rok (hS.res _ (.tail _ (.head _)))) fun hrow1 => ?_
 have nchrow1 := hrow1.2
 have hnn := map_n hF1
 have hnx : y1.n = y1.xs.length := rfl
 have hbdi := mIdx_bd (fun x : CSession => decide (x.client = t)) y1.xs
 have hok1 : Sl.ok y1 := ⟨nchrow1.1, by unfold maxLen; exact nchrow1.2, fun i hi => ⟨hrow1.1 i hi, okown1 i hi⟩⟩
 refine Mp Tryz.call98 (fun bs w hS => tackroomref_sessionAt y1 t w (own_sess (A := y1.A) (c := y1.c) (L := y1.xs) (hS.res _ (.head _)) (hS.res _ (.tail _ (.head _))) hnm1)) (J := ?_)
 refine Md (mIdx (fun x : CSession => decide (x.client = t)) y1.xs < 0) (T := fun h2 => ?_) (F := fun h2 => ?_)
 · refine Mt [.slice y1.A y1.n y1.c, .agg #[.int .i64 11, .int .i64 0, .string emp], .int .i64 0] fun bs w hS => ?_
   have hmi : mIdx (fun x : DSession => decide (x.client = t)) (y1.xs.map CSession.abs) = mIdx (fun x : DSession => decide (x.client = t)) (s.xs.map CSession.abs) := by rw [hF1]
   have hie : mIdx (fun x : CSession => decide (x.client = t)) y1.xs = mIdx (fun x : DSession => decide (x.client = t)) (s.xs.map CSession.abs) := (mIdx_map CSession.abs (fun x : DSession => decide (x.client = t)) y1.xs).trans hmi
   have hm : mLeave (s.xs.map CSession.abs) n t = (s.xs.map CSession.abs, ⟨11, 0, emp⟩, 0) := by unfold mLeave; rw [if_neg (by simpa using (by assumption : mSess _ _ = 0)), if_pos (by omega)]
   refine ⟨y1, ?_, ?_, hS.outS (y := y1) (out_sess (L0 := y1.xs) (.tail _ (.head _)) (.head _) hS.res (fun x hx => hx) hnm1)⟩
   · rw [hm]; rfl
   · rw [hm]; exact hF1
 refine Mi (pG [(31, .sl 0 (mIdx (fun x : CSession => decide (x.client = t)) y1.xs).toNat)] (oc (rfl : 0 = 0) (oc ((by omega) : mIdx (fun x : CSession => decide (x.client = t)) y1.xs = (((mIdx (fun x : CSession => decide (x.client = t)) y1.xs).toNat : Nat) : Int)) (oc ((by omega) : (mIdx (fun x : CSession => decide (x.client = t)) y1.xs).toNat ≤ y1.c) on)))) (J := ?_)
 refine m_rowA (α := CSession) 118 ?_
 refine Ma (α := CSession) (L2 := (y1.xs).take (mIdx (fun x : CSession => decide (x.client = t)) y1.xs).toNat) 56 (fun bs w hS => SrcAt.takeL (rowA_src (hS.res _ (.tail _ (.tail _ (.head _))))) (by omega)) (h63 := (by simp only [List.length_append, List.length_nil, List.length_take, List.length_drop]; omega)) (hb := (by simp only [List.length_append, List.length_nil, List.length_take, List.length_drop]; omega)) (hn2 := (by rw [List.length_take]; exact Nat.min_eq_left (by omega))) (J := ?_)
 intro A3 c3
 refine Mi (pc (pR ((mIdx (fun x : CSession => decide (x.client = t)) y1.xs) + 1)) (pG [(37, .sl ((mIdx (fun x : CSession => decide (x.client = t)) y1.xs) + 1).toNat y1.n)] (oc ((by omega) : (mIdx (fun x : CSession => decide (x.client = t)) y1.xs) + 1 = ((((mIdx (fun x : CSession => decide (x.client = t)) y1.xs) + 1).toNat : Nat) : Int)) (oc (rfl : y1.n = y1.n) (oc ((by omega) : ((mIdx (fun x : CSession => decide (x.client = t)) y1.xs) + 1).toNat ≤ y1.n) on))))) (J := ?_)
 refine Ma (α := CSession) (L2 := y1.xs.drop ((mIdx (fun x : CSession => decide (x.client = t)) y1.xs) + 1).toNat) 56 (fun bs w hS => Sl.rd.srcDrop (s := y1) (own_sess (A := y1.A) (c := y1.c) (L := y1.xs) (hS.res _ (.tail _ (.head _))) (hS.res _ (.tail _ (.tail _ (.head _)))) hnm1) (by omega)) (h63 := (by simp only [List.length_append, List.length_nil, List.length_take, List.length_drop]; omega)) (hb := (by simp only [List.length_append, List.length_nil, List.length_take, List.length_drop]; omega)) (hn2 := (List.length_drop ..)) (J := ?_)
 intro A4 c4
 refine Mt [.slice A4 ([] ++ (y1.xs).take (mIdx (fun x : CSession => decide (x.client = t)) y1.xs).toNat ++ y1.xs.drop ((mIdx (fun x : CSession => decide (x.client = t)) y1.xs) + 1).toNat).length c4, .agg #[.int .i64 0, .int .i64 0, .string emp], .int .i64 0] fun bs w hS => ?_
 have hmi : mIdx (fun x : DSession => decide (x.client = t)) (y1.xs.map CSession.abs) = mIdx (fun x : DSession => decide (x.client = t)) (s.xs.map CSession.abs) := by rw [hF1]
 have hie : mIdx (fun x : CSession => decide (x.client = t)) y1.xs = mIdx (fun x : DSession => decide (x.client = t)) (s.xs.map CSession.abs) := (mIdx_map CSession.abs (fun x : DSession => decide (x.client = t)) y1.xs).trans hmi
 have hm : mLeave (s.xs.map CSession.abs) n t = ((s.xs.map CSession.abs).take (mIdx (fun x : DSession => decide (x.client = t)) (s.xs.map CSession.abs)).toNat ++ (s.xs.map CSession.abs).drop ((mIdx (fun x : DSession => decide (x.client = t)) (s.xs.map CSession.abs)).toNat + 1), zRep, 0) := by unfold mLeave; rw [if_neg (by simpa using (by assumption : mSess _ _ = 0)), if_neg (by omega)]
 refine ⟨⟨A4, c4, [] ++ (y1.xs).take (mIdx (fun x : CSession => decide (x.client = t)) y1.xs).toNat ++ y1.xs.drop ((mIdx (fun x : CSession => decide (x.client = t)) y1.xs) + 1).toNat⟩, ?_, ?_, hS.outS (y := (⟨A4, c4, [] ++ (y1.xs).take (mIdx (fun x : CSession => decide (x.client = t)) y1.xs).toNat ++ y1.xs.drop ((mIdx (fun x : CSession => decide (x.client = t)) y1.xs) + 1).toNat⟩ : Sl CSession)) (out_sess (L0 := y1.xs) (.head _) (.tail _ (.head _)) hS.res (fun x hx => ?_) hnm1)⟩
 · rw [hm]; rfl
 · have hto : (mIdx (fun x : CSession => decide (x.client = t)) y1.xs + 1).toNat = (mIdx (fun x : CSession => decide (x.client = t)) y1.xs).toNat + 1 := by omega
   rw [hm, ← hie, ← hF1]; simp [List.map_append, List.map_take, List.map_drop, hto]
 · simp only [List.nil_append, List.mem_append] at hx; rcases hx with hx | hx
   · exact List.mem_of_mem_take hx
   · exact List.mem_of_mem_drop hx

theorem ref_unlined {B : Nat → Prop} (s : Sl Int) (who : Int) (w : World) (hs : s.rd B w) (hb : s.n ≤ 1048576) : Calls Tryz.prog 105 #[.slice s.A s.n s.c, .int .i64 who] w fun e w' => ∃ y : Sl Int, e = .returned y.val ∧ y.xs = unline s.xs who ∧ FreshS w w' y := by
 have oks := Sl.rd.ok hs
 have ncs := Sl.ok.nc oks
 have hns : s.n = s.xs.length := rfl
 refine M0 Tryz.func105 (J := ?_)
 refine m_rowA (α := Int) 3 ?_
 refine Ml (σ := Nat × Option Addr × Nat × List Int) (fun ⟨i, A, c, L⟩ => i ≤ s.n ∧ L = (s.xs.take i).filter (fun z => !decide (z = who))) (fun ⟨i, A, c, L⟩ => s.n - i) (fun ⟨i, A, c, L⟩ => [rowA 3 A c (L : List Int)]) [6, 5, 0, 1] (fun ⟨i, A, c, L⟩ => [(6, vI (i : Int)), (5, .v (.slice A L.length c))]) (fun _ => []) (⟨0, none, 0, []⟩) ⟨Nat.zero_le _, rfl⟩ (B := ?_)
 rintro ⟨i, A, c, L⟩ ⟨hi, hI⟩ _ on1
 have hLn : L.length ≤ i := by rw [hI]; exact Nat.le_trans (List.length_filter_le _ _) (by rw [List.length_take]; omega)
 refine Md ((i : Int) < (s.n : Int)) (T := fun h1 => ?_) (F := fun h1 => ?_)
 rotate_left
 · exact Mt [.slice A L.length c] fun bs w hS => ⟨⟨A, c, L⟩, rfl, by show L = _; rw [hI, take_all (by omega)]; rfl, hS.outS (y := (⟨A, c, L⟩ : Sl Int)) (allR_row (.head _) (hS.res _ (.head _)) (fun _ _ => trivial))⟩
 refine Mi (pA 15 16 (i : Int) i (rdk hs)) (J := ?_)
 refine Mdn ((s.at i) = who) (T := fun h2 => ?_) (F := fun h2 => ?_)
 · refine Mi (pR ((i : Int) + 1)) (J := ?_)
   exact on1 (⟨i + 1, A, c, L⟩ : Nat × Option Addr × Nat × List Int) ⟨by omega, by first | exact filtS_in (p := fun z => decide (z = who)) hI (by omega) (decide_eq_false (by assumption)) | exact filtS_out (p := fun z => decide (z = who)) hI (by omega) (decide_eq_true (by assumption))⟩ (by show s.n - (i + 1) < s.n - i; omega)
 refine Mi (pA 22 23 (i : Int) i (rdk hs)) (J := ?_)
 refine M1 (J := ?_)
 refine Mal (α := Int) 8 ([(s.at i)]) (h63 := (by first | omega | (simp only [List.length_append, List.length_nil, List.length_cons]; omega))) (hb := (by first | omega | (simp only [List.length_append, List.length_nil, List.length_cons]; omega))) (J := ?_)
 intro A1 c1
 refine Mi (pR ((i : Int) + 1)) (J := ?_)
 exact on1 (⟨i + 1, A1, c1, L ++ [(s.at i)]⟩ : Nat × Option Addr × Nat × List Int) ⟨by omega, by first | exact filtS_in (p := fun z => decide (z = who)) hI (by omega) (decide_eq_false (by assumption)) | exact filtS_out (p := fun z => decide (z = who)) hI (by omega) (decide_eq_true (by assumption))⟩ (by show s.n - (i + 1) < s.n - i; omega)

theorem ref_passed {B : Nat → Prop} (x : CLock) (w : World) (hx : Rds.sub B w x) (hf : 1 ≤ x.fence ∧ x.fence ≤ 1073741824) (hl : x.line.n ≤ 1048576) : Calls Tryz.prog 104 #[.agg #[.string x.name, .int .i64 x.holder, .int .i64 x.fence, .slice x.line.A x.line.n x.line.c]] w fun e w' => ∃ y : CLock, e = .returned (.agg #[.string y.name, .int .i64 y.holder, .int .i64 y.fence, .slice y.line.A y.line.n y.line.c]) ∧ y.abs = mPass x.abs ∧ FreshS w w' y := by
 have okx := Rds.okof hx
 have ncx := Sl.ok.nc okx.2
 have hnx : x.line.n = x.line.xs.length := rfl
 have hq1 : x.abs.line = x.line.xs := rfl
 have hq2 : x.abs.fence = x.fence := rfl
 refine M0 Tryz.func104 (J := ?_)
 refine Md ((x.line.n : Int) = 0) (T := fun h1 => ?_) (F := fun h1 => ?_)
 · refine Mt [.agg #[.string x.name, .int .i64 0, .int .i64 x.fence, .slice none 0 0]] fun bs w hS => ?_
   have hp : mPass x.abs = ⟨x.name, 0, x.fence, []⟩ := by unfold mPass; rw [hq1, hq2, if_neg (by omega)]; rfl
   exact ⟨⟨x.name, 0, x.fence, Sl.nil⟩, rfl, hp.symm, hS.outS (y := (⟨x.name, 0, x.fence, Sl.nil⟩ : CLock)) ⟨okx.1, Sl.rd_nil _ _⟩⟩
 refine Md ((1073741824 : Int) ≤ x.fence) (T := fun h2 => ?_) (F := fun h2 => ?_)
 · refine Mt [.agg #[.string x.name, .int .i64 0, .int .i64 x.fence, .slice none 0 0]] fun bs w hS => ?_
   have hp : mPass x.abs = ⟨x.name, 0, x.fence, []⟩ := by unfold mPass; rw [hq1, hq2, if_neg (by omega)]; rfl
   exact ⟨⟨x.name, 0, x.fence, Sl.nil⟩, rfl, hp.symm, hS.outS (y := (⟨x.name, 0, x.fence, Sl.nil⟩ : CLock)) ⟨okx.1, Sl.rd_nil _ _⟩⟩
 refine Mda 14 [] [] [] Tryz_mixed (J := ?_)
 refine Mih (pc (pA 21 22 0 0 (s := x.line) (fun w hk hr => (And.right (Rds.kp hx hk)))) (pc (pR (x.fence + 1)) (pG [(28, .sl 1 x.line.n)] (oc (rfl : (1 : Int) = ((1 : Nat) : Int)) (oc (rfl : x.line.n = x.line.n) (oc ((by omega) : 1 ≤ x.line.n) on)))))) (J := ?_)
 refine m_rowA (α := Int) 3 ?_
 refine Ma (α := Int) (L2 := x.line.xs.drop 1) 8 (fun bs w hS => Sl.rd.srcDrop (s := x.line) (And.right (Rds.kp hx hS.kp)) (by omega)) (h63 := (by simp only [List.length_nil, List.length_drop]; omega)) (hb := (by simp only [List.length_nil, List.length_drop]; omega)) (hn2 := (List.length_drop ..)) (J := ?_)
 intro A1 c1
 refine m_weak (rowA 3 A1 c1 (x.line.xs.drop 1 : List Int)) (List.Sublist.refl _) (fun w h => h) ?_
 refine Mt [.agg #[.string x.name, .int .i64 (x.line.at 0), .int .i64 (x.fence + 1), .slice A1 (x.line.xs.drop 1).length c1]] fun bs w hS => ?_
 have hp : mPass x.abs = ⟨x.name, x.line.at 0, x.fence + 1, x.line.xs.drop 1⟩ := by unfold mPass; rw [hq1, hq2, if_pos (by omega)]; rfl
 exact ⟨⟨x.name, x.line.at 0, x.fence + 1, ⟨A1, c1, x.line.xs.drop 1⟩⟩, rfl, hp.symm, hS.outS (y := (⟨x.name, x.line.at 0, x.fence + 1, ⟨A1, c1, x.line.xs.drop 1⟩⟩ : CLock)) ⟨okx.1, allR_row (.head _) (hS.res _ (.head _)) (fun _ _ => trivial)⟩⟩

theorem lock_pass {B : Nat → Prop} (A : Option Addr) (c : Nat) (L : List CLock) (k : Nat) (w : World) (hrow : (rowA 115 A c L).p w) (hlt : ∀ b, b ∈ (rowA 115 A c L).fp → b < w.heap.size) (hk : k < L.length) (hx : Rds.sub B w (L.getD k default)) (hB : ∀ b, B b → b ∉ (rowA 115 A c L).fp) (hf : 1 ≤ (L.getD k default).fence ∧ (L.getD k default).fence ≤ 1073741824) : Calls Tryz.prog 140 #[.pointer (some ((oad A).add (k * 4)))] w fun e w' => ∃ _ : Unit, e = .returned (.tuple #[]) ∧ True ∧ Turned (rowA 115 A c L) w w' (rowA 115 A c (L.set k (passC (L.getD k default)))) := by
 have hrok := rowA_rok hrow
 have nc := hrok.2
 have okx := Rds.okof hx
 have ncx := Sl.ok.nc okx.2
 have hnx : (L.getD k default).line.n = (L.getD k default).line.xs.length := rfl
 have hst : ∀ w', Kp (rowA 115 A c L).fp w w' → Rds.sub B w' (L.getD k default) := fun w' hk => Rds.stay (fun b hb hlt => hk.block b hlt (hB b hb)) hx
 refine Mj Tryz.func140 (WS.start1 w _ hrow (by cases A <;> simp [rowA, rowR]) hlt) (J := ?_)
 refine Ms k 1 (⟨(L.getD k default).name, 0, (L.getD k default).fence, (L.getD k default).line⟩ : CLock) (by omega) (J := ?_)
 intro L1 hL1 hlL1
 have hgL1 : L1.getD k default = (⟨(L.getD k default).name, 0, (L.getD k default).fence, (L.getD k default).line⟩ : CLock) := by rw [hL1]; exact getD_set (by omega)
 have hbL1 : L1 = List.set L k (⟨(L.getD k default).name, 0, (L.getD k default).fence, (L.getD k default).line⟩ : CLock) := by rw [hL1]
 refine Mi (pFk 8 k 3 1 hgL1 (.head _)) (J := ?_)
 refine Md ((0 : Int) < (((L.getD k default).line.n : Nat) : Int)) (T := fun h1 => ?_) (F := fun h1 => ?_)
 rotate_left
 · refine Ms k 3 (⟨(L.getD k default).name, 0, (L.getD k default).fence, Sl.nil⟩ : CLock) (by omega) (hg := hgL1) (J := ?_)
   intro L6 hL6 hlL6
   have hgL6 : L6.getD k default = (⟨(L.getD k default).name, 0, (L.getD k default).fence, Sl.nil⟩ : CLock) := by rw [hL6]; exact getD_set (by omega)
   have hbL6 : L6 = List.set L k (⟨(L.getD k default).name, 0, (L.getD k default).fence, Sl.nil⟩ : CLock) := by rw [hL6, hbL1, List.set_set]
   refine Mt [] fun bs w hS => ?_
   have hp : passC (L.getD k default) = (⟨(L.getD k default).name, 0, (L.getD k default).fence, Sl.nil⟩ : CLock) := by unfold passC; rw [if_neg (by rintro ⟨h8, h9⟩; omega)]
   have hL : L6 = L.set k (passC (L.getD k default)) := by rw [hp]; exact hbL6
   subst hL
   exact ⟨(), rfl, trivial, hS.turned⟩
 refine Mi (pFk 15 k 2 1 hgL1 (.head _)) (J := ?_)
 refine Md ((L.getD k default).fence < 1073741824) (T := fun h2 => ?_) (F := fun h2 => ?_)
 rotate_left
 · refine Ms k 3 (⟨(L.getD k default).name, 0, (L.getD k default).fence, Sl.nil⟩ : CLock) (by omega) (hg := hgL1) (J := ?_)
   intro L5 hL5 hlL5
   have hgL5 : L5.getD k default = (⟨(L.getD k default).name, 0, (L.getD k default).fence, Sl.nil⟩ : CLock) := by rw [hL5]; exact getD_set (by omega)
   have hbL5 : L5 = List.set L k (⟨(L.getD k default).name, 0, (L.getD k default).fence, Sl.nil⟩ : CLock) := by rw [hL5, hbL1, List.set_set]
   refine Mt [] fun bs w hS => ?_
   have hp : passC (L.getD k default) = (⟨(L.getD k default).name, 0, (L.getD k default).fence, Sl.nil⟩ : CLock) := by unfold passC; rw [if_neg (by rintro ⟨h8, h9⟩; omega)]
   have hL : L5 = L.set k (passC (L.getD k default)) := by rw [hp]; exact hbL5
   subst hL
   exact ⟨(), rfl, trivial, hS.turned⟩
 refine Mda 27 [21] [] [rowA 115 A c (L1 : List CLock)] Tryz_mixed (J := ?_)
 refine Mih (pc (pFk 24 k 3 1 hgL1 (.head _)) (pc (pA 25 26 0 0 (s := (L.getD k default).line) (fun w hk hr => (And.right (hst _ hk)))) (pc (pFk 30 k 2 1 hgL1 (.head _)) (pc (pR ((L.getD k default).fence + 1)) (pc (pFk 35 k 3 1 hgL1 (.head _)) (pG [(36, .sl 1 (L.getD k default).line.n)] (oc (rfl : (1 : Int) = ((1 : Nat) : Int)) (oc (rfl : (L.getD k default).line.n = (L.getD k default).line.n) (oc ((by omega) : 1 ≤ (L.getD k default).line.n) on))))))))) (J := ?_)
 refine MsX [] k 1 (⟨(L.getD k default).name, ((L.getD k default).line.at 0), (L.getD k default).fence, (L.getD k default).line⟩ : CLock) (by omega) (hg := hgL1) (J := ?_)
 intro L2 hL2 hlL2
 have hgL2 : L2.getD k default = (⟨(L.getD k default).name, ((L.getD k default).line.at 0), (L.getD k default).fence, (L.getD k default).line⟩ : CLock) := by rw [hL2]; exact getD_set (by omega)
 have hbL2 : L2 = List.set L k (⟨(L.getD k default).name, ((L.getD k default).line.at 0), (L.getD k default).fence, (L.getD k default).line⟩ : CLock) := by rw [hL2, hbL1, List.set_set]
 refine Ms k 2 (⟨(L.getD k default).name, ((L.getD k default).line.at 0), (L.getD k default).fence + 1, (L.getD k default).line⟩ : CLock) (by omega) (hg := hgL2) (J := ?_)
 intro L3 hL3 hlL3
 have hgL3 : L3.getD k default = (⟨(L.getD k default).name, ((L.getD k default).line.at 0), (L.getD k default).fence + 1, (L.getD k default).line⟩ : CLock) := by rw [hL3]; exact getD_set (by omega)
 have hbL3 : L3 = List.set L k (⟨(L.getD k default).name, ((L.getD k default).line.at 0), (L.getD k default).fence + 1, (L.getD k default).line⟩ : CLock) := by rw [hL3, hbL2, List.set_set]
 refine Ms k 3 (⟨(L.getD k default).name, ((L.getD k default).line.at 0), (L.getD k default).fence + 1, ⟨offA (L.getD k default).line.A (L.getD k default).line.c 1 1, (L.getD k default).line.c - 1, (L.getD k default).line.xs.drop 1⟩⟩ : CLock) (by omega) (hg := hgL3) (hcell := (Eq.trans (by kernel_rfl) (congrArg (fun q => [Value.string (L.getD k default).name, .int .i64 ((L.getD k default).line.at 0), .int .i64 ((L.getD k default).fence + 1), .slice (offA (L.getD k default).line.A (L.getD k default).line.c 1 1) q ((L.getD k default).line.c - 1)]) (List.length_drop ..).symm))) (J := ?_)
 intro L4 hL4 hlL4
 have hgL4 : L4.getD k default = (⟨(L.getD k default).name, ((L.getD k default).line.at 0), (L.getD k default).fence + 1, ⟨offA (L.getD k default).line.A (L.getD k default).line.c 1 1, (L.getD k default).line.c - 1, (L.getD k default).line.xs.drop 1⟩⟩ : CLock) := by rw [hL4]; exact getD_set (by omega)
 have hbL4 : L4 = List.set L k (⟨(L.getD k default).name, ((L.getD k default).line.at 0), (L.getD k default).fence + 1, ⟨offA (L.getD k default).line.A (L.getD k default).line.c 1 1, (L.getD k default).line.c - 1, (L.getD k default).line.xs.drop 1⟩⟩ : CLock) := by rw [hL4, hbL3, List.set_set]
 refine Mt [] fun bs w hS => ?_
 have hp : passC (L.getD k default) = (⟨(L.getD k default).name, ((L.getD k default).line.at 0), (L.getD k default).fence + 1, ⟨offA (L.getD k default).line.A (L.getD k default).line.c 1 1, (L.getD k default).line.c - 1, (L.getD k default).line.xs.drop 1⟩⟩ : CLock) := by unfold passC; rw [if_pos ⟨by show 0 < (L.getD k default).line.xs.length; omega, by omega⟩]
 have hL : L4 = L.set k (passC (L.getD k default)) := by rw [hp]; exact hbL4
 subst hL
 exact ⟨(), rfl, trivial, hS.turned⟩

theorem delR_Int (A : Option Addr) (c : Nat) (L : List Int) (i j : Nat) (ii jj : Int) (w : World) (hrow : (rowA 3 A c L).p w) (hlt : ∀ b, b ∈ (rowA 3 A c L).fp → b < w.heap.size) (ei : ii = (i : Int)) (ej : jj = (j : Int)) (hij : i ≤ j) (hj : j ≤ L.length) :
    Calls Tryz.prog 139 #[.slice A L.length c, .int .i64 ii, .int .i64 jj] w fun e w' => e = .returned (.slice A (L.take i ++ L.drop j).length c) ∧ Turned (rowA 3 A c L) w w' (rowA 3 A c (L.take i ++ L.drop j)) := by
 subst ei ej
 have hrok := rowA_rok hrow
 have nc := hrok.2
 refine Mj Tryz.func139 (WS.start1 w _ hrow (by cases A <;> simp [rowA, rowR]) hlt) (J := ?_)
 refine Ms3 (e := 3) (A := A) (n := L.length) (il := (i : Int)) (ih := (j : Int)) (im := (L.length : Int)) (c := c) i j L.length rfl rfl rfl (by omega) (by omega) (by omega) (J := ?_)
 refine Md ((i : Int) = (j : Int)) (T := fun h1 => ?_) (F := fun h1 => ?_)
 · refine Mt [.slice A L.length c] fun bs w hS => ?_
   have hij2 : i = j := by omega
   subst hij2
   rw [List.take_append_drop]
   exact ⟨rfl, hS.turned⟩
 refine Mda 6 [] [] [rowA 3 A c (L : List Int)] Tryz_mixed (J := ?_)
 refine Mih (pc (pG [(22, .sl 0 i)] (oc (rfl : 0 = 0) (oc (rfl : (i : Int) = (i : Int)) (oc ((by omega) : i ≤ c) on)))) (pG [(25, .sl j L.length)] (oc (rfl : (j : Int) = (j : Int)) (oc (rfl : L.length = L.length) (oc ((by omega) : j ≤ L.length) on))))) (J := ?_)
 refine Mz (J := ?_)
 refine Mad 8 i j hij hj (J := ?_)
 refine Mi (pG [(31, .sl (i + (L.length - j)) L.length)] (oc (rfl : ((i + (L.length - j) : Nat) : Int) = (((i + (L.length - j)) : Nat) : Int)) (oc (rfl : (L.length : Int) = (L.length : Int)) (oc ((by omega) : (i + (L.length - j)) ≤ L.length) (oc ((by omega) : L.length ≤ c) on))))) (J := ?_)
 refine Mcl (i + (L.length - j)) (L.length - (i + (L.length - j))) (by simp only [List.length_append, List.length_take, List.length_drop]; omega) (by omega) (J := ?_)
 refine Mt [.slice A (i + (L.length - j)) c] fun bs w hS => ?_
 have hlen : (L.take i ++ L.drop j).length = i + (L.length - j) := by simp only [List.length_append, List.length_take, List.length_drop]; omega
 have hS2 := hS
 rw [← hlen, List.take_length] at hS2
 refine ⟨?_, hS2.turned⟩
 rw [hlen]
 rfl

theorem lock_Gone {B : Nat → Prop} (s : Sl CLock) (who : Int) (w : World) (hs : s.rd B w) : Calls Tryz.prog 75 #[.slice s.A s.n s.c, .int .i64 who] w fun e w' => ∃ y : Sl CLock, e = .returned (.tuple #[.slice y.A y.n y.c, .int .i64 (mGone (s.xs.map CLock.abs) who).2]) ∧ y.xs.map CLock.abs = (mGone (s.xs.map CLock.abs) who).1 ∧ FreshS w w' y := by
 have oks := Sl.rd.ok hs
 have ncs := Sl.ok.nc oks
 have hns : s.n = s.xs.length := rfl
 refine M0 Tryz.func75 (J := ?_)
 refine Mp Tryz.call64 (fun bs w hS => lock_Check s w (Sl.rd.kp hs hS.kp)) (J := ?_)
 refine Mdn (mLocks (s.xs.map CLock.abs) = 0) (T := fun h1 => ?_) (F := fun h1 => ?_)
 rotate_left
 · refine Mt [.slice none 0 0, .int .i64 (mLocks (s.xs.map CLock.abs))] fun bs w hS => ?_
   have hm := gone_bad (who := who) h1
   refine ⟨Sl.nil, ?_, ?_, hS.outS (Sl.rd_nil _ _)⟩
   · rw [hm] <;> rfl
   · rw [hm] <;> rfl
 refine Mp Tryz.call130 (fun bs w hS => lock_client who w) (J := ?_)
 refine Mbn (inB who 1 9) (T := fun h2 => ?_) (F := fun h2 => ?_)
 rotate_left
 · simp only [inB, Bool.and_eq_true, Bool.and_eq_false_iff, decide_eq_true_eq, decide_eq_false_iff_not] at h2
   refine Mt [.slice none 0 0, .int .i64 2] fun bs w hS => ?_
   have hm := gone_who (who := who) h1 (by simp only [inB, Bool.and_eq_true, Bool.and_eq_false_iff, decide_eq_true_eq, decide_eq_false_iff_not] at *; omega)
   refine ⟨Sl.nil, ?_, ?_, hS.outS (Sl.rd_nil _ _)⟩
   · rw [hm] <;> rfl
   · rw [hm] <;> rfl
 simp only [inB, Bool.and_eq_true, Bool.and_eq_false_iff, decide_eq_true_eq, decide_eq_false_iff_not] at h2
 refine Mf (σ := Sl CLock) (v := fun y1 => .slice y1.A y1.n y1.c) (F := fun y1 => y1.xs.map CLock.abs = s.xs.map CLock.abs) (r := fun y1 => locksR 115 3 y1) Tryz.call68 (fun bs w hS => lock_Copy s w (Sl.rd.kp hs hS.kp) (small_locks (by assumption))) (J := ?_)
 rintro y1 hF1
 refine m_split2 ?_
 obtain ⟨A1, c1, S1⟩ := y1
 have hF1 : S1.map CLock.abs = s.xs.map CLock.abs := hF1
 refine m_perm (R' := [ownL (lineR 3) S1, rowA 115 A1 c1 (S1 : List CLock)]) (List.Perm.refl _) ?_
 have hnm1 := locks_names (y := (⟨A1, c1, S1⟩ : Sl CLock)) (hs) hF1
 have hlen1 : S1.length = s.xs.length := by simpa using congrArg List.length hF1
 refine m_know (F := ∀ i, i < S1.length → Rds.ok (S1.getD i default)) (fun bs w hS i hi => Rds.okof (B := anyB) (w := w) (own_eltL (hS.res _ (.head _)) hnm1 (mem_of_getD hi))) fun okown1 => ?_
 refine m_know (F := RowOk A1 c1 (S1 : List CLock)) (fun bs w hS => rowA_rok (hS.res _ (.tail _ (.head _)))) fun hrow1 => ?_
 have nchrow1 := hrow1.2
 have hm1 : mLocks (S1.map CLock.abs) = 0 := by rw [hF1]; assumption
 have hln5 : S1.length ≤ 5 := by have h9 := (mLocks_bd hm1).1; simpa using h9
 refine m_nores (goneR [] (S1.take 0)) rfl (fun w x hx => by cases hx) ?_
 refine Ml (σ := Nat × List CLock × List Nat) (fun ⟨k, L, fp⟩ => GoneI who S1 k L) (fun ⟨k, L, fp⟩ => S1.length - k) (fun ⟨k, L, fp⟩ => [goneR fp (L.take k), ownL (lineR 3) (S1.drop k), rowA 115 A1 c1 (L : List CLock)]) [22, 21, 0, 1] (fun ⟨k, L, fp⟩ => [(22, vI (k : Int))]) (fun _ => []) (⟨0, S1, []⟩) (GoneI.start hnm1) (B := ?_)
 rintro ⟨k, L, fp⟩ hI _ on1
 have hIl := hI.len
 have hIk := hI.le
 refine Md ((k : Int) < (S1.length : Int)) (T := fun h3 => ?_) (F := fun h3 => ?_)
 rotate_left
 · refine Mt [.slice A1 S1.length c1, .int .i64 0] fun bs w hS => ?_
   clear on1
   have hm := gone_ok (who := who) h1 (by simp only [inB, Bool.and_eq_true, Bool.and_eq_false_iff, decide_eq_true_eq, decide_eq_false_iff_not] at *; omega)
   refine ⟨⟨A1, c1, L⟩, ?_, ?_, hS.outS (y := (⟨A1, c1, L⟩ : Sl CLock)) (gone_out hI (by omega) (.tail _ (.tail _ (.head _))) (.head _) hS.res)⟩
   · rw [hm]; exact congrArg (fun q => Ending.returned (.tuple #[.slice A1 q c1, .int .i64 0])) hI.len.symm
   · rw [hm, ← hF1]; exact hI.fin (by omega)
 have hD : (L.getD k default) = S1.getD k default := hI.rest k (Nat.le_refl _)
 have hkL : k < L.length := by omega
 have hk5 := lock_all hm1 (k := k) (by omega)
 rw [← hD] at hk5
 obtain ⟨hk51, hk52, hk53, hk54, hk55, hk56⟩ := hk5
 have hk7 : (L.getD k default).line.n = (L.getD k default).line.xs.length := rfl
 have okD := okown1 k (by omega)
 rw [← hD] at okD
 have ncD := Sl.ok.nc okD.2
 refine m_f1 ?_
 refine m_part2 (rowA 3 (L.getD k default).line.A (L.getD k default).line.c ((L.getD k default).line.xs : List Int)) (ownL (lineR 3) (S1.drop (k + 1))) (own_uncons_fp (lineR 3) (i := k) (by omega) hD) (own_uncons_p (lineR 3) (i := k) (by omega) hD) ?_
 refine Mi (pc (pIo 27 (k : Int) k S1.length (.tail _ (.tail _ (.tail _ (.head _))))) (pFo 31 k 3 1 (.tail _ (.tail _ (.tail _ (.head _)))))) (J := ?_)
 refine Mp (v := .int .i64 (mIdx (fun z => decide (z = who)) ((L.getD k default).line.xs.take (L.getD k default).line.n))) (vs := fun bs => [.slice (L.getD k default).line.A (L.getD k default).line.n (L.getD k default).line.c, .int .i64 who]) Tryz.call138 (fun bs w hS => idx_ints (L.getD k default).line (L.getD k default).line.n who w (And.right ⟨hI.names _ (mem_of_getD hkL), Rr (B := anyB) (hS.res _ (.head _)) (fun _ _ => trivial) (fun _ _ => trivial)⟩) (by omega)) (J := ?_)
 have hix : mIdx (fun z => decide (z = who)) ((L.getD k default).line.xs.take (L.getD k default).line.n) = mIdx (fun z => decide (z = who)) (L.getD k default).line.xs := by rw [take_all (Nat.le_refl _)]
 rw [hix]
 have hIb := mIdx_bd (fun z => decide (z = who)) (L.getD k default).line.xs
 generalize hIx : mIdx (fun z => decide (z = who)) (L.getD k default).line.xs = I at hIb ⊢
 refine Md ((0 : Int) ≤ I) (T := fun h4 => ?_) (F := fun h4 => ?_)
 rotate_left
 · refine Mi (pFo 50 k 1 1 (.tail _ (.tail _ (.tail _ (.head _))))) (J := ?_)
   refine Md ((L.getD k default).holder = who) (T := fun h6 => ?_) (F := fun h6 => ?_)
   rotate_left
   · refine Mi (pR ((k : Int) + 1)) (J := ?_)
     have hul : (L.getD k default).line.xs = unline (L.getD k default).line.xs who := (line_none (by rw [hIx]; omega)).symm
     have hga : ((L.getD k default)).abs = goneF who (L.getD k default).abs := gone_keep (D := (L.getD k default)) (x := (L.getD k default)) rfl rfl rfl hul h6
     have hgn : ((L.getD k default)).name = (L.getD k default).name := rfl
     refine m_f2 ?_
     refine m_f1 ?_
     refine m_join (goneR (fp ++ (rowA 3 (L.getD k default).line.A (L.getD k default).line.c ((L.getD k default).line.xs : List Int)).fp) (List.take (k + 1) L)) List.perm_append_comm (fun w h1 h2 => goneR_step hkL (set_getD hkL).symm (Rr (A := (L.getD k default).line.A) (c := (L.getD k default).line.c) (L := (L.getD k default).line.xs) h1 (fun b hb => hb) (fun _ _ => trivial)) h2) ?_
     refine m_f2 (m_f2 (m_f2 ?_))
     exact on1 (⟨k + 1, L, fp ++ (rowA 3 (L.getD k default).line.A (L.getD k default).line.c ((L.getD k default).line.xs : List Int)).fp⟩ : Nat × List CLock × List Nat) (GoneI.step hI (by omega) (set_getD hkL).symm hga hgn) (by show S1.length - (k + 1) < S1.length - k; omega)
   refine m_f3 ?_
   refine Mtu (σ := Unit) (v := fun _ => .tuple #[]) (F := fun _ => True) (r := fun _ => rowA 115 A1 c1 (L.set k (passC (L.getD k default)) : List CLock)) (vs := fun bs => [.pointer (some ((oad A1).add (k * 4)))]) Tryz.call140 (fun bs w hS => lock_pass (B := (· ∈ (rowA 3 (L.getD k default).line.A (L.getD k default).line.c ((L.getD k default).line.xs : List Int)).fp)) A1 c1 L k w (hS.res _ (.head _)) hS.head1.2.2 (by omega) ⟨(show (L.getD k default).name.size ≤ 9223372036854775807 from hI.names _ (mem_of_getD hkL)), Rr (hS.res _ (.tail _ (.head _))) (fun b hb => hb) (fun _ _ => trivial)⟩ (fun b hb => hS.disj (r2 := rowA 3 (L.getD k default).line.A (L.getD k default).line.c ((L.getD k default).line.xs : List Int)) (.head _) b hb) ⟨hk54, hk55⟩) (J := ?_)
   rintro _ _
   obtain ⟨L8, hL8⟩ : ∃ M : List CLock, M = L.set k (passC (L.getD k default)) := ⟨_, rfl⟩
   rw [← hL8]
   have hlL8 : L8.length = L.length := by rw [hL8, List.length_set]
   have hgL8 : L8.getD k default = passC (L.getD k default) := by rw [hL8]; exact getD_set (by omega)
   have hbL8 : L8 = List.set L k (passC (L.getD k default)) := by rw [hL8]
   refine Mi (pR ((k : Int) + 1)) (J := ?_)
   have hul : (L.getD k default).line.xs = unline (L.getD k default).line.xs who := (line_none (by rw [hIx]; omega)).symm
   have hga : ((passC (L.getD k default))).abs = goneF who (L.getD k default).abs := gone_pass (D := (L.getD k default)) (x := (L.getD k default)) (passC_abs _) rfl rfl rfl hul h6
   have hgn : ((passC (L.getD k default))).name = (L.getD k default).name := passC_name _
   refine m_f3 ?_
   refine m_f2 ?_
   refine m_join (goneR (fp ++ (rowA 3 (L.getD k default).line.A (L.getD k default).line.c ((L.getD k default).line.xs : List Int)).fp) (List.take (k + 1) L8)) List.perm_append_comm (fun w h1 h2 => goneR_step hkL hbL8 (passC_rd (x := (L.getD k default)) (Rr (A := (L.getD k default).line.A) (c := (L.getD k default).line.c) (L := (L.getD k default).line.xs) h1 (fun b hb => hb) (fun _ _ => trivial))) h2) ?_
   refine m_f1 (m_f2 (m_f2 ?_))
   exact on1 (⟨k + 1, L8, fp ++ (rowA 3 (L.getD k default).line.A (L.getD k default).line.c ((L.getD k default).line.xs : List Int)).fp⟩ : Nat × List CLock × List Nat) (GoneI.step hI (by omega) hbL8 hga hgn) (by show S1.length - (k + 1) < S1.length - k; omega)
 refine Mi (pc (pFo 40 k 3 1 (.tail _ (.tail _ (.tail _ (.head _))))) (pR (I + 1))) (J := ?_)
 refine Mtu (σ := Unit) (v := fun _ => .slice (L.getD k default).line.A ((L.getD k default).line.xs.take I.toNat ++ (L.getD k default).line.xs.drop (I.toNat + 1)).length (L.getD k default).line.c) (F := fun _ => True) (r := fun _ => rowA 3 (L.getD k default).line.A (L.getD k default).line.c ((L.getD k default).line.xs.take I.toNat ++ (L.getD k default).line.xs.drop (I.toNat + 1) : List Int)) (vs := fun bs => [.slice (L.getD k default).line.A (L.getD k default).line.n (L.getD k default).line.c, .int .i64 I, .int .i64 (I + 1)]) Tryz.call139 (fun bs w hS => (delR_Int (L.getD k default).line.A (L.getD k default).line.c (L.getD k default).line.xs I.toNat (I.toNat + 1) _ _ w (hS.res _ (.head _)) hS.head1.2.2 (by omega) (by omega) (by first | omega | (simp only [Sl.n] at *; omega)) (by first | omega | (simp only [Sl.n] at *; omega))).mono (fun e w' ⟨h1, h2⟩ => ⟨(), h1, trivial, h2⟩)) (J := ?_)
 rintro _ _
 refine m_f3 ?_
 refine Ms k 3 (⟨(L.getD k default).name, (L.getD k default).holder, (L.getD k default).fence, ⟨(L.getD k default).line.A, (L.getD k default).line.c, (L.getD k default).line.xs.take I.toNat ++ (L.getD k default).line.xs.drop (I.toNat + 1)⟩⟩ : CLock) (by omega) (J := ?_)
 intro L4 hL4 hlL4
 have hgL4 : L4.getD k default = (⟨(L.getD k default).name, (L.getD k default).holder, (L.getD k default).fence, ⟨(L.getD k default).line.A, (L.getD k default).line.c, (L.getD k default).line.xs.take I.toNat ++ (L.getD k default).line.xs.drop (I.toNat + 1)⟩⟩ : CLock) := by rw [hL4]; exact getD_set (by omega)
 have hbL4 : L4 = List.set L k (⟨(L.getD k default).name, (L.getD k default).holder, (L.getD k default).fence, ⟨(L.getD k default).line.A, (L.getD k default).line.c, (L.getD k default).line.xs.take I.toNat ++ (L.getD k default).line.xs.drop (I.toNat + 1)⟩⟩ : CLock) := by rw [hL4]
 refine Mi (pFk 50 k 1 1 hgL4 (.head _)) (J := ?_)
 refine Md ((L.getD k default).holder = who) (T := fun h5 => ?_) (F := fun h5 => ?_)
 rotate_left
 · refine Mi (pR ((k : Int) + 1)) (J := ?_)
   have hul : (L.getD k default).line.xs.take I.toNat ++ (L.getD k default).line.xs.drop (I.toNat + 1) = unline (L.getD k default).line.xs who := line_one' (d := (L.getD k default).abs) hk53 (i := I.toNat) (by show mIdx _ (L.getD k default).line.xs = _; rw [hIx]; omega) rfl
   have hga : ((⟨(L.getD k default).name, (L.getD k default).holder, (L.getD k default).fence, ⟨(L.getD k default).line.A, (L.getD k default).line.c, (L.getD k default).line.xs.take I.toNat ++ (L.getD k default).line.xs.drop (I.toNat + 1)⟩⟩ : CLock)).abs = goneF who (L.getD k default).abs := gone_keep (D := (L.getD k default)) (x := (⟨(L.getD k default).name, (L.getD k default).holder, (L.getD k default).fence, ⟨(L.getD k default).line.A, (L.getD k default).line.c, (L.getD k default).line.xs.take I.toNat ++ (L.getD k default).line.xs.drop (I.toNat + 1)⟩⟩ : CLock)) rfl rfl rfl hul h5
   have hgn : ((⟨(L.getD k default).name, (L.getD k default).holder, (L.getD k default).fence, ⟨(L.getD k default).line.A, (L.getD k default).line.c, (L.getD k default).line.xs.take I.toNat ++ (L.getD k default).line.xs.drop (I.toNat + 1)⟩⟩ : CLock)).name = (L.getD k default).name := rfl
   refine m_f3 ?_
   refine m_f2 ?_
   refine m_join (goneR (fp ++ (rowA 3 (L.getD k default).line.A (L.getD k default).line.c ((L.getD k default).line.xs.take I.toNat ++ (L.getD k default).line.xs.drop (I.toNat + 1) : List Int)).fp) (List.take (k + 1) L4)) List.perm_append_comm (fun w h1 h2 => goneR_step hkL hbL4 (Rr (A := (L.getD k default).line.A) (c := (L.getD k default).line.c) (L := (L.getD k default).line.xs.take I.toNat ++ (L.getD k default).line.xs.drop (I.toNat + 1)) h1 (fun b hb => hb) (fun _ _ => trivial)) h2) ?_
   refine m_f1 (m_f2 (m_f2 ?_))
   exact on1 (⟨k + 1, L4, fp ++ (rowA 3 (L.getD k default).line.A (L.getD k default).line.c ((L.getD k default).line.xs.take I.toNat ++ (L.getD k default).line.xs.drop (I.toNat + 1) : List Int)).fp⟩ : Nat × List CLock × List Nat) (GoneI.step hI (by omega) hbL4 hga hgn) (by show S1.length - (k + 1) < S1.length - k; omega)
 refine Mtu (σ := Unit) (v := fun _ => .tuple #[]) (F := fun _ => True) (r := fun _ => rowA 115 A1 c1 (L4.set k (passC (L4.getD k default)) : List CLock)) (vs := fun bs => [.pointer (some ((oad A1).add (k * 4)))]) Tryz.call140 (fun bs w hS => lock_pass (B := (· ∈ (rowA 3 (L.getD k default).line.A (L.getD k default).line.c ((L.getD k default).line.xs.take I.toNat ++ (L.getD k default).line.xs.drop (I.toNat + 1) : List Int)).fp)) A1 c1 L4 k w (hS.res _ (.head _)) hS.head1.2.2 (by omega) (by rw [hgL4]; exact ⟨(show (L.getD k default).name.size ≤ 9223372036854775807 from hI.names _ (mem_of_getD hkL)), Rr (hS.res _ (.tail _ (.head _))) (fun b hb => hb) (fun _ _ => trivial)⟩) (fun b hb => hS.disj (r2 := rowA 3 (L.getD k default).line.A (L.getD k default).line.c ((L.getD k default).line.xs.take I.toNat ++ (L.getD k default).line.xs.drop (I.toNat + 1) : List Int)) (.head _) b hb) (by rw [hgL4]; exact ⟨hk54, hk55⟩)) (J := ?_)
 rintro _ _
 obtain ⟨L6, hL6⟩ : ∃ M : List CLock, M = L4.set k (passC (L4.getD k default)) := ⟨_, rfl⟩
 rw [← hL6]
 have hlL6 : L6.length = L4.length := by rw [hL6, List.length_set]
 have hgL6 : L6.getD k default = passC (⟨(L.getD k default).name, (L.getD k default).holder, (L.getD k default).fence, ⟨(L.getD k default).line.A, (L.getD k default).line.c, (L.getD k default).line.xs.take I.toNat ++ (L.getD k default).line.xs.drop (I.toNat + 1)⟩⟩ : CLock) := by rw [hL6, hgL4]; exact getD_set (by omega)
 have hbL6 : L6 = List.set L k (passC (⟨(L.getD k default).name, (L.getD k default).holder, (L.getD k default).fence, ⟨(L.getD k default).line.A, (L.getD k default).line.c, (L.getD k default).line.xs.take I.toNat ++ (L.getD k default).line.xs.drop (I.toNat + 1)⟩⟩ : CLock)) := by rw [hL6, hgL4, hbL4, List.set_set]
 refine Mi (pR ((k : Int) + 1)) (J := ?_)
 have hul : (L.getD k default).line.xs.take I.toNat ++ (L.getD k default).line.xs.drop (I.toNat + 1) = unline (L.getD k default).line.xs who := line_one' (d := (L.getD k default).abs) hk53 (i := I.toNat) (by show mIdx _ (L.getD k default).line.xs = _; rw [hIx]; omega) rfl
 have hga : ((passC (⟨(L.getD k default).name, (L.getD k default).holder, (L.getD k default).fence, ⟨(L.getD k default).line.A, (L.getD k default).line.c, (L.getD k default).line.xs.take I.toNat ++ (L.getD k default).line.xs.drop (I.toNat + 1)⟩⟩ : CLock))).abs = goneF who (L.getD k default).abs := gone_pass (D := (L.getD k default)) (x := (⟨(L.getD k default).name, (L.getD k default).holder, (L.getD k default).fence, ⟨(L.getD k default).line.A, (L.getD k default).line.c, (L.getD k default).line.xs.take I.toNat ++ (L.getD k default).line.xs.drop (I.toNat + 1)⟩⟩ : CLock)) (passC_abs _) rfl rfl rfl hul h5
 have hgn : ((passC (⟨(L.getD k default).name, (L.getD k default).holder, (L.getD k default).fence, ⟨(L.getD k default).line.A, (L.getD k default).line.c, (L.getD k default).line.xs.take I.toNat ++ (L.getD k default).line.xs.drop (I.toNat + 1)⟩⟩ : CLock))).name = (L.getD k default).name := passC_name _
 refine m_f3 ?_
 refine m_f2 ?_
 refine m_join (goneR (fp ++ (rowA 3 (L.getD k default).line.A (L.getD k default).line.c ((L.getD k default).line.xs.take I.toNat ++ (L.getD k default).line.xs.drop (I.toNat + 1) : List Int)).fp) (List.take (k + 1) L6)) List.perm_append_comm (fun w h1 h2 => goneR_step hkL hbL6 (passC_rd (x := (⟨(L.getD k default).name, (L.getD k default).holder, (L.getD k default).fence, ⟨(L.getD k default).line.A, (L.getD k default).line.c, (L.getD k default).line.xs.take I.toNat ++ (L.getD k default).line.xs.drop (I.toNat + 1)⟩⟩ : CLock)) (Rr (A := (L.getD k default).line.A) (c := (L.getD k default).line.c) (L := (L.getD k default).line.xs.take I.toNat ++ (L.getD k default).line.xs.drop (I.toNat + 1)) h1 (fun b hb => hb) (fun _ _ => trivial))) h2) ?_
 refine m_f1 (m_f2 (m_f2 ?_))
 exact on1 (⟨k + 1, L6, fp ++ (rowA 3 (L.getD k default).line.A (L.getD k default).line.c ((L.getD k default).line.xs.take I.toNat ++ (L.getD k default).line.xs.drop (I.toNat + 1) : List Int)).fp⟩ : Nat × List CLock × List Nat) (GoneI.step hI (by omega) hbL6 hga hgn) (by show S1.length - (k + 1) < S1.length - k; omega)

theorem ref_GoneOf {B : Nat → Prop} (s : Sl CLock) (who : Int) (w : World) (hs : s.rd B w) : Calls Tryz.prog 99 #[.slice s.A s.n s.c, .int .i64 who] w fun e w' => ∃ y : Sl CLock, e = .returned (.tuple #[.slice y.A y.n y.c, .int .i64 (mGone (s.xs.map CLock.abs) who).2]) ∧ y.xs.map CLock.abs = (mGone (s.xs.map CLock.abs) who).1 ∧ FreshS w w' y := by
 have oks := Sl.rd.ok hs
 have ncs := Sl.ok.nc oks
 have hns : s.n = s.xs.length := rfl
 refine M0 Tryz.func99 (J := ?_)
 refine Mp Tryz.call93 (fun bs w hS => ref_LocksFault s w (Sl.rd.kp hs hS.kp)) (J := ?_)
 refine Md (mLocks (s.xs.map CLock.abs) = 0) (T := fun h1 => ?_) (F := fun h1 => ?_)
 rotate_left
 · refine Mdn (mLocks (s.xs.map CLock.abs) = 0) (T := fun h6 => ?_) (F := fun h6 => ?_)
   · exact absurd h6 h1
   refine Mt [.slice none 0 0, .int .i64 (mLocks (s.xs.map CLock.abs))] fun bs w hS => ?_
   have hm := gone_bad (who := who) h6
   refine ⟨Sl.nil, ?_, ?_, hS.outS (Sl.rd_nil _ _)⟩
   · rw [hm] <;> rfl
   · rw [hm] <;> rfl
 refine Mp Tryz.call51 (fun bs w hS => ref_In who 1 9 w) (J := ?_)
 refine Mbn (inB who 1 9) (T := fun h2 => ?_) (F := fun h2 => ?_)
 rotate_left
 · simp only [inB, Bool.and_eq_true, Bool.and_eq_false_iff, decide_eq_true_eq, decide_eq_false_iff_not] at h2
   refine Mq 19 true rfl (J := ?_)
   refine Mt [.slice none 0 0, .int .i64 2] fun bs w hS => ?_
   have hm := gone_who (who := who) h1 (by simp only [inB, Bool.and_eq_true, Bool.and_eq_false_iff, decide_eq_true_eq, decide_eq_false_iff_not] at *; omega)
   refine ⟨Sl.nil, ?_, ?_, hS.outS (Sl.rd_nil _ _)⟩
   · rw [hm] <;> rfl
   · rw [hm] <;> rfl
 simp only [inB, Bool.and_eq_true, Bool.and_eq_false_iff, decide_eq_true_eq, decide_eq_false_iff_not] at h2
 refine Mdn (mLocks (s.xs.map CLock.abs) = 0) (T := fun h3 => ?_) (F := fun h3 => ?_)
 rotate_left
 · exact absurd h1 h3
 refine Mf (σ := Sl CLock) (v := fun y1 => .slice y1.A y1.n y1.c) (F := fun y1 => y1.xs.map CLock.abs = s.xs.map CLock.abs) (r := fun y1 => locksR 115 3 y1) Tryz.call18 (fun bs w hS => ref_LocksCopy s w (Sl.rd.kp hs hS.kp) (small_locks (by assumption))) (J := ?_)
 rintro y1 hF1
 refine m_split2 ?_
 obtain ⟨A1, c1, S1⟩ := y1
 have hF1 : S1.map CLock.abs = s.xs.map CLock.abs := hF1
 refine m_perm (R' := [ownL (lineR 3) S1, rowA 115 A1 c1 (S1 : List CLock)]) (List.Perm.refl _) ?_
 have hnm1 := locks_names (y := (⟨A1, c1, S1⟩ : Sl CLock)) (hs) hF1
 have hlen1 : S1.length = s.xs.length := by simpa using congrArg List.length hF1
 refine m_know (F := ∀ i, i < S1.length → Rds.ok (S1.getD i default)) (fun bs w hS i hi => Rds.okof (B := anyB) (w := w) (own_eltL (hS.res _ (.head _)) hnm1 (mem_of_getD hi))) fun okown1 => ?_
 refine m_know (F := RowOk A1 c1 (S1 : List CLock)) (fun bs w hS => rowA_rok (hS.res _ (.tail _ (.head _)))) fun hrow1 => ?_
 have nchrow1 := hrow1.2
 have hm1 : mLocks (S1.map CLock.abs) = 0 := by rw [hF1]; assumption
 have hln5 : S1.length ≤ 5 := by have h9 := (mLocks_bd hm1).1; simpa using h9
 refine m_nores (goneR [] (S1.take 0)) rfl (fun w x hx => by cases hx) ?_
 refine Ml (σ := Nat × List CLock × List Nat) (fun ⟨k, L, fp⟩ => GoneI who S1 k L) (fun ⟨k, L, fp⟩ => S1.length - k) (fun ⟨k, L, fp⟩ => [goneR fp (L.take k), ownL (lineR 3) S1, rowA 115 A1 c1 (L : List CLock)]) [8, 7, 1] (fun ⟨k, L, fp⟩ => [(8, vI (k : Int))]) (fun _ => []) (⟨0, S1, []⟩) (GoneI.start hnm1) (B := ?_)
 rintro ⟨k, L, fp⟩ hI _ on1
 have hIl := hI.len
 have hIk := hI.le
 refine Md ((k : Int) < (S1.length : Int)) (T := fun h4 => ?_) (F := fun h4 => ?_)
 rotate_left
 · refine Mt [.slice A1 S1.length c1, .int .i64 0] fun bs w hS => ?_
   clear on1
   have hm := gone_ok (who := who) h3 (by simp only [inB, Bool.and_eq_true, Bool.and_eq_false_iff, decide_eq_true_eq, decide_eq_false_iff_not] at *; omega)
   refine ⟨⟨A1, c1, L⟩, ?_, ?_, hS.outS (y := (⟨A1, c1, L⟩ : Sl CLock)) (gone_out hI (by omega) (.tail _ (.tail _ (.head _))) (.head _) hS.res)⟩
   · rw [hm]; exact congrArg (fun q => Ending.returned (.tuple #[.slice A1 q c1, .int .i64 0])) hI.len.symm
   · rw [hm, ← hF1]; exact hI.fin (by omega)
 have hD : (L.getD k default) = S1.getD k default := hI.rest k (Nat.le_refl _)
 have hkL : k < L.length := by omega
 have hk5 := lock_all hm1 (k := k) (by omega)
 rw [← hD] at hk5
 obtain ⟨hk51, hk52, hk53, hk54, hk55, hk56⟩ := hk5
 have hk7 : (L.getD k default).line.n = (L.getD k default).line.xs.length := rfl
 have okD := okown1 k (by omega)
 rw [← hD] at okD
 have ncD := Sl.ok.nc okD.2
 refine Mi (pc (pIo 33 (k : Int) k S1.length (.tail _ (.tail _ (.head _)))) (pFo 35 k 3 1 (.tail _ (.tail _ (.head _))))) (J := ?_)
 refine Mu (σ := Sl Int) (v := fun y3 => .slice y3.A y3.n y3.c) (F := fun y3 => y3.xs = unline (L.getD k default).line.xs who) Tryz.call105 (fun bs w hS => ref_unlined (L.getD k default).line who w (And.right (by rw [hD]; exact own_eltL (hS.res _ (.tail _ (.head _))) hnm1 (mem_of_getD (i := k) (by omega)))) (by omega)) (J := ?_)
 rintro fp3 y3 hF3 hok3
 refine Mi (pIo 38 (k : Int) k S1.length (.tail _ (.tail _ (.tail _ (.head _))))) (J := ?_)
 refine m_f3 ?_
 refine Ms k 3 (⟨(L.getD k default).name, (L.getD k default).holder, (L.getD k default).fence, y3⟩ : CLock) (by omega) (J := ?_)
 intro L4 hL4 hlL4
 have hgL4 : L4.getD k default = (⟨(L.getD k default).name, (L.getD k default).holder, (L.getD k default).fence, y3⟩ : CLock) := by rw [hL4]; exact getD_set (by omega)
 have hbL4 : L4 = List.set L k (⟨(L.getD k default).name, (L.getD k default).holder, (L.getD k default).fence, y3⟩ : CLock) := by rw [hL4]
 refine Mi (pc (pIo 42 (k : Int) k S1.length (.head _)) (pFk 44 k 1 1 hgL4 (.head _))) (J := ?_)
 refine Md ((L.getD k default).holder = who) (T := fun h5 => ?_) (F := fun h5 => ?_)
 rotate_left
 · refine Mi (pR ((k : Int) + 1)) (J := ?_)
   have hga : ((⟨(L.getD k default).name, (L.getD k default).holder, (L.getD k default).fence, y3⟩ : CLock)).abs = goneF who (L.getD k default).abs := gone_keep (D := (L.getD k default)) (x := (⟨(L.getD k default).name, (L.getD k default).holder, (L.getD k default).fence, y3⟩ : CLock)) rfl rfl rfl hF3 h5
   have hgn : ((⟨(L.getD k default).name, (L.getD k default).holder, (L.getD k default).fence, y3⟩ : CLock)).name = (L.getD k default).name := rfl
   refine m_f2 ?_
   refine m_f2 ?_
   refine m_join (goneR (fp ++ fp3) (List.take (k + 1) L4)) List.perm_append_comm (fun w h1 h2 => goneR_step hkL hbL4 h1 h2) ?_
   refine m_f1 (m_f2 (m_f2 ?_))
   exact on1 (⟨k + 1, L4, fp ++ fp3⟩ : Nat × List CLock × List Nat) (GoneI.step hI (by omega) hbL4 hga hgn) (by show S1.length - (k + 1) < S1.length - k; omega)
 refine Mi (pc (pIo 51 (k : Int) k S1.length (.head _)) (pEk 52 k hgL4 (.head _))) (J := ?_)
 have hyl : y3.xs.length ≤ 3 := by rw [hF3]; exact Nat.le_trans (List.length_filter_le _ _) (by omega)
 refine Mu (σ := CLock) (v := fun y5 => .agg #[.string y5.name, .int .i64 y5.holder, .int .i64 y5.fence, .slice y5.line.A y5.line.n y5.line.c]) (F := fun y5 => y5.abs = mPass (⟨(L.getD k default).name, (L.getD k default).holder, (L.getD k default).fence, y3⟩ : CLock).abs) (vs := fun bs => [.agg #[.string (L.getD k default).name, .int .i64 (L.getD k default).holder, .int .i64 (L.getD k default).fence, .slice y3.A y3.n y3.c]]) Tryz.call104 (fun bs w hS => ref_passed (⟨(L.getD k default).name, (L.getD k default).holder, (L.getD k default).fence, y3⟩ : CLock) w ⟨(show (L.getD k default).name.size ≤ 9223372036854775807 from hI.names _ (mem_of_getD hkL)), (hS.res _ (.tail _ (.head _)))⟩ ⟨hk54, hk55⟩ (by show y3.xs.length ≤ _; omega)) (J := ?_)
 rintro fp5 y5 hF5 hok5
 refine Mi (pIo 54 (k : Int) k S1.length (.tail _ (.head _))) (J := ?_)
 refine m_f1 ?_
 refine Ms k 0 (⟨y5.name, y5.holder, y5.fence, y5.line⟩ : CLock) (by omega) (hg := hgL4) (J := ?_)
 intro L6 hL6 hlL6
 have hgL6 : L6.getD k default = (⟨y5.name, y5.holder, y5.fence, y5.line⟩ : CLock) := by rw [hL6]; exact getD_set (by omega)
 have hbL6 : L6 = List.set L k (⟨y5.name, y5.holder, y5.fence, y5.line⟩ : CLock) := by rw [hL6, hbL4, List.set_set]
 refine Mi (pR ((k : Int) + 1)) (J := ?_)
 have hga : ((⟨y5.name, y5.holder, y5.fence, y5.line⟩ : CLock)).abs = goneF who (L.getD k default).abs := gone_pass (D := (L.getD k default)) (x := (⟨(L.getD k default).name, (L.getD k default).holder, (L.getD k default).fence, y3⟩ : CLock)) hF5 rfl rfl rfl hF3 h5
 have hgn : ((⟨y5.name, y5.holder, y5.fence, y5.line⟩ : CLock)).name = (L.getD k default).name := (congrArg DLock.name hF5).trans (mPass_name _)
 refine m_f3 ?_
 refine m_f3 ?_
 refine m_join (goneR (fp ++ fp3) (L.take k)) List.perm_append_comm (fun w h1 h2 x hx => Sl.rd.wide (h2 x hx) fun b hb => List.mem_append_left _ hb) ?_
 refine m_f2 ?_
 refine m_join (goneR ((fp ++ fp3) ++ fp5) (List.take (k + 1) L6)) List.perm_append_comm (fun w h1 h2 => goneR_step hkL hbL6 h1.2 h2) ?_
 refine m_f1 (m_f2 (m_f2 ?_))
 exact on1 (⟨k + 1, L6, (fp ++ fp3) ++ fp5⟩ : Nat × List CLock × List Nat) (GoneI.step hI (by omega) hbL6 hga hgn) (by show S1.length - (k + 1) < S1.length - k; omega)

theorem idxF_Kept {B : Nat → Prop} (s : Sl (Fl DKept)) (p : Fl DKept → Bool) (kf : Nat) (caps : Array Value) (w : World) (hs : s.rd B w) (hcall : ∀ args w, (callFunc kf args).run Tryz.prog w = .ok (.enter kf args) w)
    (hf : ∀ (w' : World) (x : (Fl DKept)), x ∈ s.xs → Kp [] w w' → Calls Tryz.prog kf (#[.agg #[.int .i64 x.v.seq, .int .i64 x.v.reply.code, .int .i64 x.v.reply.n, .string x.v.reply.text]] ++ caps) w' fun e w'' => e = .returned (.bool (p x)) ∧ Kp [] w' w'') : Calls Tryz.prog 81 #[.slice s.A s.n s.c, .func (.func kf) #[] caps] w fun e w' => e = .returned (.int .i64 (mIdx p s.xs)) ∧ Kp [] w w' := by
 have oks := Sl.rd.ok hs
 have ncs := Sl.ok.nc oks
 have hns : s.n = s.xs.length := rfl
 refine M0 Tryz.func81 (J := ?_)
 refine Ml (σ := Nat) (fun i => i ≤ s.n ∧ ∀ j, j < i → p (s.at j) = false) (fun i => s.n - i) (fun _ => []) [8, 7, 0, 1] (fun i => [(8, vI (i : Int))]) (fun _ => []) 0 ⟨Nat.zero_le _, fun j hj => absurd hj (Nat.not_lt_zero _)⟩ (B := ?_)
 rintro i ⟨hi, hI⟩ _ on1
 refine Md ((i : Int) < (s.n : Int)) (T := fun h1 => ?_) (F := fun h1 => ?_)
 rotate_left
 · refine Mt [.int .i64 (-1)] fun bs w hS => ?_
   refine ⟨?_, hS.kp⟩
   rw [mIdx_none fun j hj => hI j (by omega)]
   rfl
 refine Mi (pA 14 15 (i : Int) i (rdk hs)) (J := ?_)
 refine Mv hcall (fun bs w hS => hf w (s.at i) (List.mem_of_getElem? (Sl.at_some (show i < s.n by omega))) hS.kp) (J := ?_)
 refine Mb (p (s.at i)) (T := fun h2 => ?_) (F := fun h2 => ?_)
 · refine Mt [.int .i64 (i : Int)] fun bs w hS => ?_
   refine ⟨?_, hS.kp⟩
   rw [mIdx_here (i := i) (by omega) (by assumption) hI]
   rfl
 refine Mi (pR ((i : Int) + 1)) (J := ?_)
 exact on1 (i + 1) ⟨by omega, fun j hj => by rcases Nat.lt_succ_iff_lt_or_eq.1 hj with h | h; exact hI j h; subst h; assumption⟩ (by omega)
theorem idx_Kept {B : Nat → Prop} (s : Sl DKept) (p : DKept → Bool) (kf : Nat) (caps : Array Value) (w : World) (hs : s.rd B w) (hcall : ∀ args w, (callFunc kf args).run Tryz.prog w = .ok (.enter kf args) w)
    (hf : ∀ (w' : World) (x : DKept), x ∈ s.xs → Kp [] w w' → Calls Tryz.prog kf (#[.agg #[.int .i64 x.seq, .int .i64 x.reply.code, .int .i64 x.reply.n, .string x.reply.text]] ++ caps) w' fun e w'' => e = .returned (.bool (p x)) ∧ Kp [] w' w'') : Calls Tryz.prog 81 #[.slice s.A s.n s.c, .func (.func kf) #[] caps] w fun e w' => e = .returned (.int .i64 (mIdx p s.xs)) ∧ Kp [] w w' := by
  have h := idxF_Kept (⟨s.A, s.c, fls s.xs⟩ : Sl (Fl DKept)) (fun x => p x.v) kf caps w hs.fl hcall (fun w' x hx hk => hf w' x.v (by obtain ⟨y, hy, rfl⟩ := List.mem_map.1 hx; exact hy) hk)
  simp only [mIdx_fl, Sl.n, List.length_map] at h
  exact h

theorem delF_Kept (A : Option Addr) (c : Nat) (L : List (Fl DKept)) (p : Fl DKept → Bool) (kf : Nat) (caps : Array Value) (w : World) (hrow : (rowA 141 A c L).p w) (hlt : ∀ b, b ∈ (rowA 141 A c L).fp → b < w.heap.size) (hn : L.length ≤ 1048576) (hcall : ∀ args w, (callFunc kf args).run Tryz.prog w = .ok (.enter kf args) w)
    (hf : ∀ (w' : World) (x : (Fl DKept)), x ∈ L → Kp (rowA 141 A c L).fp w w' → Calls Tryz.prog kf (#[.agg #[.int .i64 x.v.seq, .int .i64 x.v.reply.code, .int .i64 x.v.reply.n, .string x.v.reply.text]] ++ caps) w' fun e w'' => e = .returned (.bool (p x)) ∧ Kp [] w' w'') :
    Calls Tryz.prog 79 #[.slice A L.length c, .func (.func kf) #[] caps] w fun e w' => e = .returned (.slice A (L.filter fun x => !p x).length c) ∧ Turned (rowA 141 A c L) w w' (rowA 141 A c (L.filter fun x => !p x)) := by
 have hrok := rowA_rok hrow
 have nc := hrok.2
 refine Mj Tryz.func79 (WS.start1 w _ hrow (by cases A <;> simp [rowA, rowR]) hlt) (J := ?_)
 refine Mp Tryz.call81 (fun bs w hS => idxF_Kept (⟨A, c, L⟩ : Sl (Fl DKept)) p kf caps w (Rr (B := anyB) (hS.res _ (.head _)) (fun _ _ => trivial) (fun _ _ => trivial)) hcall (fun w' x hx hk => hf w' x hx (hS.kp.step hk (fun i hi => by cases hi)))) (J := ?_)
 refine Md (mIdx p L = (-1)) (T := fun h1 => ?_) (F := fun h1 => ?_)
 · refine Mt [.slice A L.length c] fun bs w hS => ?_
   have hid : L.filter (fun x => !p x) = L := delF_none (by assumption)
   rw [hid]
   exact ⟨rfl, hS.turned⟩
 obtain ⟨i0, hi1, hi2, hi3, hi4⟩ := delF_some (p := p) h1
 refine Mi (pR ((mIdx p L) + 1)) (J := ?_)
 refine Mk 6 (show (vI ((mIdx p L) + 1)) = vI (((i0 : Int)) + 1) by rw [hi4]) (J := ?_)
 refine Mk 5 (show (vI (mIdx p L)) = vI ((i0 : Int)) by rw [hi4]) (J := ?_)
 refine Ml (σ := Nat × Nat × List (Fl DKept)) (fun ⟨i, j, M⟩ => i < j ∧ j ≤ L.length ∧ M.length = L.length ∧ M.take i = (L.take j).filter (fun x => !p x) ∧ M.drop j = L.drop j) (fun ⟨i, j, M⟩ => L.length - j) (fun ⟨i, j, M⟩ => [rowA 141 A c (M : List (Fl DKept))]) [6, 5, 0, 1] (fun ⟨i, j, M⟩ => [(6, vI (j : Int)), (5, vI (i : Int))]) (fun _ => []) (⟨i0, i0 + 1, L⟩) ⟨by omega, by omega, rfl, delF_start hi1 hi2 hi3, rfl⟩ (B := ?_)
 rintro ⟨i, j, M⟩ ⟨h1, h2, hM, hT, hD⟩ _ on1
 refine Md ((j : Int) < (L.length : Int)) (T := fun h2 => ?_) (F := fun h2 => ?_)
 rotate_left
 · refine Mi (pG [(38, .sl i L.length)] (oc (rfl : (i : Int) = (i : Int)) (oc (rfl : L.length = L.length) (oc ((by omega) : i ≤ L.length) on)))) (J := ?_)
   refine Mcl i (L.length - i) (by omega) (by omega) (J := ?_)
   refine Mi (pG [(41, .sl 0 i)] (oc (rfl : 0 = 0) (oc (rfl : (i : Int) = (i : Int)) (oc ((by omega) : i ≤ c) on)))) (J := ?_)
   refine Mt [.slice A i c] fun bs w hS => ?_
   have hid : M.take i = L.filter (fun x => !p x) := by rw [hT, show j = L.length by omega, List.take_length]
   have hil : (L.filter (fun x => !p x)).length = i := by rw [← hid, List.length_take]; omega
   have hS2 := hS
   rw [hid] at hS2
   refine ⟨?_, hS2.turned⟩
   rw [hil]
   rfl
 refine Mi (pc (pIo 24 (j : Int) j L.length (.head _)) (pEo 25 j (.head _))) (J := ?_)
 refine Mv hcall (fun bs w hS => hf w (M.getD j default) (by rw [getD_drop hD (by omega)]; exact mem_of_getD (by omega)) hS.kp) (J := ?_)
 refine Mbn (p (M.getD j default)) (T := fun h3 => ?_) (F := fun h3 => ?_)
 · refine Mi (pR ((j : Int) + 1)) (J := ?_)
   have hjL : M.getD j default = L.getD j default := getD_drop hD (by omega)
   exact on1 (⟨i, j + 1, M⟩ : Nat × Nat × List (Fl DKept)) ⟨by omega, by omega, hM, delF_skip (by omega) hT (hjL ▸ by assumption), drop_next hD⟩ (by show L.length - (j + 1) < L.length - j; omega)
 refine Mi (pIo 33 (i : Int) i L.length (.head _)) (J := ?_)
 refine Mse i (M.getD j default) (by omega) (J := ?_)
 intro L2 hL2 hl2
 refine Mi (pc (pR ((i : Int) + 1)) (pR ((j : Int) + 1))) (J := ?_)
 have hjL : M.getD j default = L.getD j default := getD_drop hD (by omega)
 exact on1 (⟨i + 1, j + 1, L2⟩ : Nat × Nat × List (Fl DKept)) ⟨by omega, by omega, by omega, by rw [hL2]; exact delF_keep h1 (by omega) hM hT (hjL ▸ by assumption) hjL, by rw [hL2]; exact delF_drop h1 hD⟩ (by show L.length - (j + 1) < L.length - j; omega)
theorem del_Kept (A : Option Addr) (c : Nat) (L : List DKept) (p : DKept → Bool) (kf : Nat) (caps : Array Value) (w : World) (hrow : (rowA 141 A c L).p w) (hlt : ∀ b, b ∈ (rowA 141 A c L).fp → b < w.heap.size) (hn : L.length ≤ 1048576) (hcall : ∀ args w, (callFunc kf args).run Tryz.prog w = .ok (.enter kf args) w)
    (hf : ∀ (w' : World) (x : DKept), x ∈ L → Kp (rowA 141 A c L).fp w w' → Calls Tryz.prog kf (#[.agg #[.int .i64 x.seq, .int .i64 x.reply.code, .int .i64 x.reply.n, .string x.reply.text]] ++ caps) w' fun e w'' => e = .returned (.bool (p x)) ∧ Kp [] w' w'') :
    Calls Tryz.prog 79 #[.slice A L.length c, .func (.func kf) #[] caps] w fun e w' => e = .returned (.slice A (L.filter fun x => !p x).length c) ∧ Turned (rowA 141 A c L) w w' (rowA 141 A c (L.filter fun x => !p x)) := by
  have h := delF_Kept A c (fls L) (fun x => p x.v) kf caps w (by rw [rowA_fl]; exact hrow) (by rw [rowA_fl]; exact hlt) (by simpa using hn) hcall (fun w' x hx hk => hf w' x.v (by obtain ⟨y, hy, rfl⟩ := List.mem_map.1 hx; exact hy) (by rwa [rowA_fl] at hk))
  have e1 : (fls L).filter (fun x => !(p x.v)) = fls (L.filter fun x => !p x) := fls_filter (fun x => !p x) L
  simp only [e1, rowA_fl, List.length_map] at h
  exact h

theorem clo_session_Ready_2 (x : DKept) (c : DCommand) (b : Nat) (w : World) (hb : (blkR b 63 [.int .i64 c.kind, .int .i64 c.client, .int .i64 c.session, .int .i64 c.seq, .int .i64 c.acked, .int .i64 c.op.kind, .string c.op.a, .string c.op.b, .int .i64 c.op.n]).p w) : Calls Tryz.prog 82 #[.agg #[.int .i64 x.seq, .int .i64 x.reply.code, .int .i64 x.reply.n, .string x.reply.text], .pointer (some (⟨b, 0, none⟩ : Addr))] w fun e w' => e = .returned (.bool (decide (x.seq = c.seq))) ∧ Kp [] w w' := by
 refine M0 Tryz.func82 (J := ?_)
 refine Mi (pX 7 [.int .i64 c.seq] (fun w hk hr => (blkR_fld (blkR_kp hb hk) 3 1 rfl))) (J := ?_)
 exact Mt [.bool (decide (x.seq = c.seq))] fun bs w hS => ⟨rfl, hS.kp⟩

theorem clo_session_Ready_1 (x : DKept) (a : Addr) (q : Int) (b : Nat) (w : World) (hb : (blkR b 138 [.pointer (some a)]).p w) (ha : CellsAt w (a.add 2) [.int .i64 q]) : Calls Tryz.prog 80 #[.agg #[.int .i64 x.seq, .int .i64 x.reply.code, .int .i64 x.reply.n, .string x.reply.text], .pointer (some (⟨b, 0, none⟩ : Addr))] w fun e w' => e = .returned (.bool (decide (x.seq ≤ q))) ∧ Kp [] w w' := by
 refine M0 Tryz.func80 (J := ?_)
 refine Mda 8 [] [] [] Tryz_mixed (J := ?_)
 refine Mih (pc (pX 6 [.pointer (some a)] (fun w hk hr => (blkR_pre (blkR_kp hb hk) 1 rfl))) (pX 9 [.int .i64 q] (fun w hk hr => (CellsAt.kp ha hk)))) (J := ?_)
 exact Mt [.bool (decide (x.seq ≤ q))] fun bs w hS => ⟨rfl, hS.kp⟩

theorem session_Ready {B : Nat → Prop} (s : Sl CSession) (n : Int) (c : DCommand) (w : World) (hs : s.rd B w) (ht : inR c.client) (hc : Rds.sub B w c) : Calls Tryz.prog 27 #[.slice s.A s.n s.c, .int .i64 n, .agg #[.int .i64 c.kind, .int .i64 c.client, .int .i64 c.session, .int .i64 c.seq, .int .i64 c.acked, .int .i64 c.op.kind, .string c.op.a, .string c.op.b, .int .i64 c.op.n]] w fun e w' => ∃ y : Sl CSession, e = .returned (.tuple #[.slice y.A y.n y.c, .agg #[.int .i64 ((mReady (s.xs.map CSession.abs) n c).2.1).code, .int .i64 ((mReady (s.xs.map CSession.abs) n c).2.1).n, .string ((mReady (s.xs.map CSession.abs) n c).2.1).text], .bool (mReady (s.xs.map CSession.abs) n c).2.2.1, .int .i64 (mReady (s.xs.map CSession.abs) n c).2.2.2]) ∧ y.xs.map CSession.abs = (mReady (s.xs.map CSession.abs) n c).1 ∧ FreshS w w' y := by
 have oks := Sl.rd.ok hs
 have ncs := Sl.ok.nc oks
 have hns : s.n = s.xs.length := rfl
 have hml : (s.xs.map CSession.abs).length = s.n := by simp
 refine M0 Tryz.func27 (J := ?_)
 refine Mp Tryz.call63 (fun bs w hS => session_Check s n w (Sl.rd.kp hs hS.kp)) (J := ?_)
 refine Mdn (mSess (s.xs.map CSession.abs) n = 0) (T := fun h1 => ?_) (F := fun h1 => ?_)
 rotate_left
 · refine Mt [.slice none 0 0, .agg #[.int .i64 0, .int .i64 0, .string emp], .bool false, .int .i64 (mSess (s.xs.map CSession.abs) n)] fun bs w hS => ?_
   have hm := ready_bad (c := c) h1
   refine ⟨Sl.nil, ?_, ?_, hS.outS (Sl.rd_nil _ _)⟩
   · rw [hm] <;> rfl
   · rw [hm] <;> rfl
 obtain ⟨hi0, hi1, hln, hall⟩ := mSess_bd h1
 have hln2 : s.xs.length ≤ 4 := by simpa using hln
 refine Md (n = 1073741824) (T := fun h2 => ?_) (F := fun h2 => ?_)
 · refine Mt [.slice none 0 0, .agg #[.int .i64 0, .int .i64 0, .string emp], .bool false, .int .i64 2] fun bs w hS => ?_
   have hm := ready_inv (c := c) h1 (by unfold rInv; omega)
   refine ⟨Sl.nil, ?_, ?_, hS.outS (Sl.rd_nil _ _)⟩
   · rw [hm] <;> rfl
   · rw [hm] <;> rfl
 refine Md (c.seq < 1) (T := fun h3 => ?_) (F := fun h3 => ?_)
 · refine Mt [.slice none 0 0, .agg #[.int .i64 0, .int .i64 0, .string emp], .bool false, .int .i64 2] fun bs w hS => ?_
   have hm := ready_inv (c := c) h1 (by unfold rInv; omega)
   refine ⟨Sl.nil, ?_, ?_, hS.outS (Sl.rd_nil _ _)⟩
   · rw [hm] <;> rfl
   · rw [hm] <;> rfl
 refine Md ((1048576 : Int) < c.seq) (T := fun h4 => ?_) (F := fun h4 => ?_)
 · refine Mt [.slice none 0 0, .agg #[.int .i64 0, .int .i64 0, .string emp], .bool false, .int .i64 2] fun bs w hS => ?_
   have hm := ready_inv (c := c) h1 (by unfold rInv; omega)
   refine ⟨Sl.nil, ?_, ?_, hS.outS (Sl.rd_nil _ _)⟩
   · rw [hm] <;> rfl
   · rw [hm] <;> rfl
 refine Md (c.acked < 0) (T := fun h5 => ?_) (F := fun h5 => ?_)
 · refine Mt [.slice none 0 0, .agg #[.int .i64 0, .int .i64 0, .string emp], .bool false, .int .i64 2] fun bs w hS => ?_
   have hm := ready_inv (c := c) h1 (by unfold rInv; omega)
   refine ⟨Sl.nil, ?_, ?_, hS.outS (Sl.rd_nil _ _)⟩
   · rw [hm] <;> rfl
   · rw [hm] <;> rfl
 refine Md (c.seq ≤ c.acked) (T := fun h6 => ?_) (F := fun h6 => ?_)
 · refine Mt [.slice none 0 0, .agg #[.int .i64 0, .int .i64 0, .string emp], .bool false, .int .i64 2] fun bs w hS => ?_
   have hm := ready_inv (c := c) h1 (by unfold rInv; omega)
   refine ⟨Sl.nil, ?_, ?_, hS.outS (Sl.rd_nil _ _)⟩
   · rw [hm] <;> rfl
   · rw [hm] <;> rfl
 refine Mf (σ := Sl CSession) (v := fun y1 => .slice y1.A y1.n y1.c) (F := fun y1 => y1.xs.map CSession.abs = s.xs.map CSession.abs) (r := fun y1 => sessR 118 141 y1) Tryz.call70 (fun bs w hS => session_Copy s w (Sl.rd.kp hs hS.kp) (small_sess (by assumption))) (J := ?_)
 rintro y1 hF1
 refine m_split2 ?_
 obtain ⟨A1, c1, S1⟩ := y1
 have hF1 : S1.map CSession.abs = s.xs.map CSession.abs := hF1
 refine m_perm (R' := [ownL (keptR 141) S1, rowA 118 A1 c1 (S1 : List CSession)]) (List.Perm.refl _) ?_
 have hnm1 := sess_texts (y := (⟨A1, c1, S1⟩ : Sl CSession)) (hs) hF1
 have hlen1 : S1.length = s.xs.length := by simpa using congrArg List.length hF1
 refine m_know (F := ∀ i, i < S1.length → Rds.ok (S1.getD i default)) (fun bs w hS i hi => Rds.okof (B := anyB) (w := w) (own_elt (hS.res _ (.head _)) hnm1 (mem_of_getD hi))) fun okown1 => ?_
 refine m_know (F := RowOk A1 c1 (S1 : List CSession)) (fun bs w hS => rowA_rok (hS.res _ (.tail _ (.head _)))) fun hrow1 => ?_
 have nchrow1 := hrow1.2
 have hml1 : (S1.map CSession.abs).length = S1.length := by simp
 have hm1 : mSess (S1.map CSession.abs) n = 0 := by rw [hF1]; assumption
 refine Mp (v := .tuple #[.int .i64 ((mBS (fun x : CSession => IntKind.i64.wrap (x.client - c.client)) S1 : Nat) : Int), .bool (mBSf (fun x : CSession => IntKind.i64.wrap (x.client - c.client)) S1)]) Tryz.call76 (fun bs w hS => session_find (⟨A1, c1, S1⟩ : Sl CSession) c.client w (own_sess (hS.res _ (.head _)) (hS.res _ (.tail _ (.head _))) hnm1) (show S1.length ≤ 1048576 by omega)) (J := ?_)
 have hbs := bsf_sess (L := S1) (index := n) (t := c.client) (by rw [hF1]; assumption) ht
 have hJb := mIdx_bd (fun x : DSession => decide (x.client = c.client)) (S1.map CSession.abs)
 generalize hJ : mIdx (fun x : DSession => decide (x.client = c.client)) (S1.map CSession.abs) = J at hbs hJb
 have hkl := mBS_le (fun x : CSession => IntKind.i64.wrap (x.client - c.client)) S1
 generalize hk : mBS (fun x : CSession => IntKind.i64.wrap (x.client - c.client)) S1 = k at hbs hkl ⊢
 generalize hf : mBSf (fun x : CSession => IntKind.i64.wrap (x.client - c.client)) S1 = fb at hbs ⊢
 refine Mda 12 [] [] [ownL (keptR 141) S1, rowA 118 A1 c1 (S1 : List CSession)] Tryz_mixed (J := ?_)
 refine Mbn (fb) (T := fun h7 => ?_) (F := fun h7 => ?_)
 rotate_left
 · have h0J := of_decide_eq_false (hbs.1.symm.trans h7)
   refine Mz (J := ?_)
   refine Mt [.slice A1 S1.length c1, .agg #[.int .i64 11, .int .i64 0, .string emp], .bool false, .int .i64 0] fun bs w hS => ?_
   have hv : ¬ rInv n c := by unfold rInv; omega
   rw [← hF1]
   have hm := ready_none (l := S1.map CSession.abs) (c := c) hm1 hv (by show mIdx _ _ < 0; rw [hJ]; omega)
   refine ⟨⟨A1, c1, S1⟩, ?_, ?_, hS.outS (y := (⟨A1, c1, S1⟩ : Sl CSession)) (out_sessG (.tail _ (.head _)) hS.res (fun x hx => ?_))⟩
   · rw [hm] <;> rfl
   · exact (congrArg Prod.fst hm).symm
   · exact own_in (.head _) hS.res hnm1 hx
 have hkJ := hbs.2 h7
 subst hkJ
 have hk5 := sess_all hm1 (k := k) (by omega)
 have hk6 : (S1.getD k default).replies.xs.length ≤ 4 := mReplies_len hk5.2.2.2.2
 have hk7 : (S1.getD k default).replies.n = (S1.getD k default).replies.xs.length := rfl
 refine Mih (pc (pIo 61 (k : Int) k S1.length (.tail _ (.head _))) (pFo 63 k 1 1 (.tail _ (.head _)))) (J := ?_)
 refine Mz (J := ?_)
 refine Mdn ((S1.getD k default).id = c.session) (T := fun h8 => ?_) (F := fun h8 => ?_)
 rotate_left
 · refine Mt [.slice A1 S1.length c1, .agg #[.int .i64 11, .int .i64 0, .string emp], .bool false, .int .i64 0] fun bs w hS => ?_
   have hv : ¬ rInv n c := by unfold rInv; omega
   rw [← hF1]
   have hm := ready_other (c := c) hm1 hv (K := k) (by show (mIdx _ _).toNat = _; rw [hJ]; rfl) h8
   refine ⟨⟨A1, c1, S1⟩, ?_, ?_, hS.outS (y := (⟨A1, c1, S1⟩ : Sl CSession)) (out_sessG (.tail _ (.head _)) hS.res (fun x hx => ?_))⟩
   · rw [hm] <;> rfl
   · exact (congrArg Prod.fst hm).symm
   · exact own_in (.head _) hS.res hnm1 hx
 refine Mi (pc (pIo 72 (k : Int) k S1.length (.tail _ (.head _))) (pR (n + 1))) (J := ?_)
 refine m_f1 ?_
 refine Ms k 3 (⟨(S1.getD k default).client, (S1.getD k default).id, (S1.getD k default).acked, n + 1, (S1.getD k default).replies⟩ : CSession) (by omega) (J := ?_)
 intro L3 hL3 hlL3
 have hgL3 : L3.getD k default = (⟨(S1.getD k default).client, (S1.getD k default).id, (S1.getD k default).acked, n + 1, (S1.getD k default).replies⟩ : CSession) := by rw [hL3]; exact getD_set (by omega)
 have hbL3 : L3 = List.set S1 k (⟨(S1.getD k default).client, (S1.getD k default).id, (S1.getD k default).acked, n + 1, (S1.getD k default).replies⟩ : CSession) := by rw [hL3]
 refine Mda 7 [] [] [rowA 118 A1 c1 (L3 : List CSession), ownL (keptR 141) S1] Tryz_mixed (J := ?_)
 refine Mih (pFk 83 k 2 1 hgL3 (.head _)) (J := ?_)
 refine Mz (J := ?_)
 refine Md ((S1.getD k default).acked < c.acked) (T := fun h9 => ?_) (F := fun h9 => ?_)
 rotate_left
 · have hak : kAck (S1.getD k default).abs c = (S1.getD k default).acked := ack_same (d := (S1.getD k default).abs) h9
   have hll : kLeft (S1.getD k default).abs c = (S1.getD k default).replies.xs := left_same (d := (S1.getD k default).abs) hak hk5.2.2.2.2
   refine Mda 7 [] [] [rowA 118 A1 c1 (L3 : List CSession), ownL (keptR 141) S1] Tryz_mixed (J := ?_)
   refine Mih (pFk 104 k 2 1 hgL3 (.head _)) (J := ?_)
   refine Mz (J := ?_)
   refine Md (c.seq ≤ (S1.getD k default).acked) (T := fun h13 => ?_) (F := fun h13 => ?_)
   · refine Mt [.slice A1 S1.length c1, .agg #[.int .i64 12, .int .i64 0, .string emp], .bool false, .int .i64 0] fun bs w hS => ?_
     have hv : ¬ rInv n c := by unfold rInv; omega
     rw [← hF1]
     have ha := ans_old hak h13
     have hm := ready_one (c := c) hm1 hv (K := k) (by show ¬ mIdx _ _ < 0; rw [hJ]; omega) (by show (mIdx _ _).toNat = _; rw [hJ]; rfl) h8 (kSess_of hak hll) ha
     have hvx := setS_map hbL3
     refine ⟨⟨A1, c1, L3⟩, ?_, ?_, hS.outS (y := (⟨A1, c1, L3⟩ : Sl CSession)) (out_sessG (.head _) hS.res (fun x hx => ?_))⟩
     · have hll2 : S1.length = L3.length := by rw [hbL3, List.length_set]
       rw [hm]
       exact congrArg (fun q => Ending.returned (.tuple #[.slice A1 q c1, .agg #[.int .i64 12, .int .i64 0, .string emp], .bool false, .int .i64 0])) hll2
     · exact Eq.trans hvx (congrArg Prod.fst hm).symm
     · rw [hbL3] at hx
       rcases mem_set hx with hx | hx
       · subst hx; exact own_in (x := (S1.getD k default)) (.tail _ (.head _)) hS.res hnm1 (mem_of_getD (L := S1) (i := k) (by omega))
       · exact own_in (.tail _ (.head _)) hS.res hnm1 hx
   refine Mi (pFk 111 k 4 1 hgL3 (.head _)) (J := ?_)
   refine Mp (v := .int .i64 (mIdx (fun z : DKept => decide (z.seq = c.seq)) (S1.getD k default).replies.xs)) (vs := fun bs => [.slice (S1.getD k default).replies.A (S1.getD k default).replies.n (S1.getD k default).replies.c, .func (.func 82) #[] #[.pointer (some (adr bs 0 0))]]) Tryz.call81 (fun bs w hS => idx_Kept (S1.getD k default).replies (fun z : DKept => decide (z.seq = c.seq)) 82 #[.pointer (some (adr bs 0 0))] w (own_elt (hS.res _ (.tail _ (.head _))) hnm1 (mem_of_getD (i := k) (by omega))) Tryz.call82 (fun w' z hz hk => clo_session_Ready_2 z c (bs.getD 0 0) w' (show (blkR _ _ _).p w' from (hS.pure hk).loc 0 ⟨63, [vI c.kind, vI c.client, vI c.session, vI c.seq, vI c.acked, vI c.op.kind, vS c.op.a, vS c.op.b, vI c.op.n]⟩ (by kernel_rfl) (by simp)))) (J := ?_)
   have hIb := mIdx_bd (fun z : DKept => decide (z.seq = c.seq)) (S1.getD k default).replies.xs
   generalize hIx : mIdx (fun z : DKept => decide (z.seq = c.seq)) (S1.getD k default).replies.xs = I at hIb ⊢
   refine Md ((0 : Int) ≤ I) (T := fun h14 => ?_) (F := fun h14 => ?_)
   · refine Mda 13 [] [1] [rowA 118 A1 c1 (L3 : List CSession), ownL (keptR 141) S1] Tryz_mixed (J := ?_)
     refine Mih (pc (pFk 120 k 4 1 hgL3 (.head _)) (pc (pI 122 I I.toNat (s := (S1.getD k default).replies) (fun w hk hr => (own_elt (hr _ (.tail _ (.head _))) hnm1 (mem_of_getD (i := k) (by omega))))) (pF 124 I.toNat 1 3 (s := (S1.getD k default).replies) (fun w hk hr => (own_elt (hr _ (.tail _ (.head _))) hnm1 (mem_of_getD (i := k) (by omega))))))) (J := ?_)
     refine Mz (J := ?_)
     refine Mt [.slice A1 S1.length c1, .agg #[.int .i64 ((S1.getD k default).replies.at I.toNat).reply.code, .int .i64 ((S1.getD k default).replies.at I.toNat).reply.n, .string ((S1.getD k default).replies.at I.toNat).reply.text], .bool false, .int .i64 0] fun bs w hS => ?_
     have hv : ¬ rInv n c := by unfold rInv; omega
     rw [← hF1]
     have ha := ans_kept hak hll (idx_at hIx) h13 h14
     have hm := ready_one (c := c) hm1 hv (K := k) (by show ¬ mIdx _ _ < 0; rw [hJ]; omega) (by show (mIdx _ _).toNat = _; rw [hJ]; rfl) h8 (kSess_of hak hll) ha
     have hvx := setS_map hbL3
     refine ⟨⟨A1, c1, L3⟩, ?_, ?_, hS.outS (y := (⟨A1, c1, L3⟩ : Sl CSession)) (out_sessG (.head _) hS.res (fun x hx => ?_))⟩
     · have hll2 : S1.length = L3.length := by rw [hbL3, List.length_set]
       rw [hm]
       exact congrArg (fun q => Ending.returned (.tuple #[.slice A1 q c1, .agg #[.int .i64 ((S1.getD k default).replies.at I.toNat).reply.code, .int .i64 ((S1.getD k default).replies.at I.toNat).reply.n, .string ((S1.getD k default).replies.at I.toNat).reply.text], .bool false, .int .i64 0])) hll2
     · exact Eq.trans hvx (congrArg Prod.fst hm).symm
     · rw [hbL3] at hx
       rcases mem_set hx with hx | hx
       · subst hx; exact own_in (x := (S1.getD k default)) (.tail _ (.head _)) hS.res hnm1 (mem_of_getD (L := S1) (i := k) (by omega))
       · exact own_in (.tail _ (.head _)) hS.res hnm1 hx
   refine Mda 8 [] [] [rowA 118 A1 c1 (L3 : List CSession), ownL (keptR 141) S1] Tryz_mixed (J := ?_)
   refine Mih (pc (pFk 130 k 2 1 hgL3 (.head _)) (pR ((S1.getD k default).acked + 4))) (J := ?_)
   refine Mz (J := ?_)
   refine Md ((S1.getD k default).acked + 4 < c.seq) (T := fun h15 => ?_) (F := fun h15 => ?_)
   rotate_left
   · refine Mt [.slice A1 S1.length c1, .agg #[.int .i64 0, .int .i64 0, .string emp], .bool true, .int .i64 0] fun bs w hS => ?_
     have hv : ¬ rInv n c := by unfold rInv; omega
     rw [← hF1]
     have ha := ans_new hak hll (idx_at hIx) h13 h14 h15
     have hm := ready_one (c := c) hm1 hv (K := k) (by show ¬ mIdx _ _ < 0; rw [hJ]; omega) (by show (mIdx _ _).toNat = _; rw [hJ]; rfl) h8 (kSess_of hak hll) ha
     have hvx := setS_map hbL3
     refine ⟨⟨A1, c1, L3⟩, ?_, ?_, hS.outS (y := (⟨A1, c1, L3⟩ : Sl CSession)) (out_sessG (.head _) hS.res (fun x hx => ?_))⟩
     · have hll2 : S1.length = L3.length := by rw [hbL3, List.length_set]
       rw [hm]
       exact congrArg (fun q => Ending.returned (.tuple #[.slice A1 q c1, .agg #[.int .i64 0, .int .i64 0, .string emp], .bool true, .int .i64 0])) hll2
     · exact Eq.trans hvx (congrArg Prod.fst hm).symm
     · rw [hbL3] at hx
       rcases mem_set hx with hx | hx
       · subst hx; exact own_in (x := (S1.getD k default)) (.tail _ (.head _)) hS.res hnm1 (mem_of_getD (L := S1) (i := k) (by omega))
       · exact own_in (.tail _ (.head _)) hS.res hnm1 hx
   refine Mt [.slice A1 S1.length c1, .agg #[.int .i64 2, .int .i64 0, .string emp], .bool false, .int .i64 0] fun bs w hS => ?_
   have hv : ¬ rInv n c := by unfold rInv; omega
   rw [← hF1]
   have ha := ans_far hak hll (idx_at hIx) h13 h14 h15
   have hm := ready_one (c := c) hm1 hv (K := k) (by show ¬ mIdx _ _ < 0; rw [hJ]; omega) (by show (mIdx _ _).toNat = _; rw [hJ]; rfl) h8 (kSess_of hak hll) ha
   have hvx := setS_map hbL3
   refine ⟨⟨A1, c1, L3⟩, ?_, ?_, hS.outS (y := (⟨A1, c1, L3⟩ : Sl CSession)) (out_sessG (.head _) hS.res (fun x hx => ?_))⟩
   · have hll2 : S1.length = L3.length := by rw [hbL3, List.length_set]
     rw [hm]
     exact congrArg (fun q => Ending.returned (.tuple #[.slice A1 q c1, .agg #[.int .i64 2, .int .i64 0, .string emp], .bool false, .int .i64 0])) hll2
   · exact Eq.trans hvx (congrArg Prod.fst hm).symm
   · rw [hbL3] at hx
     rcases mem_set hx with hx | hx
     · subst hx; exact own_in (x := (S1.getD k default)) (.tail _ (.head _)) hS.res hnm1 (mem_of_getD (L := S1) (i := k) (by omega))
     · exact own_in (.tail _ (.head _)) hS.res hnm1 hx
 have hak := ack_up (d := (S1.getD k default).abs) (c := c) h9
 have hll := left_more hak
 have hfl := List.length_filter_le (fun z : DKept => !decide (z.seq ≤ c.acked)) (S1.getD k default).replies.xs
 refine Ms k 2 (⟨(S1.getD k default).client, (S1.getD k default).id, c.acked, n + 1, (S1.getD k default).replies⟩ : CSession) (by omega) (hg := hgL3) (J := ?_)
 intro L4 hL4 hlL4
 have hgL4 : L4.getD k default = (⟨(S1.getD k default).client, (S1.getD k default).id, c.acked, n + 1, (S1.getD k default).replies⟩ : CSession) := by rw [hL4]; exact getD_set (by omega)
 have hbL4 : L4 = List.set S1 k (⟨(S1.getD k default).client, (S1.getD k default).id, c.acked, n + 1, (S1.getD k default).replies⟩ : CSession) := by rw [hL4, hbL3, List.set_set]
 refine m_f1 ?_
 refine m_part2 (rowA 141 (S1.getD k default).replies.A (S1.getD k default).replies.c ((S1.getD k default).replies.xs : List DKept)) (ownL (keptR 141) (List.eraseIdx S1 k)) (ownL_get_fp (keptR 141) (i := k) (by omega)) (fun w h => ownL_get_p (keptR 141) (i := k) (by omega) w h) ?_
 refine m_know (F := RowOk (S1.getD k default).replies.A (S1.getD k default).replies.c ((S1.getD k default).replies.xs : List DKept)) (fun bs w hS => rowA_rok (hS.res _ (.head _))) fun hrowK => ?_
 have nchrowK := hrowK.2
 refine Mda 9 [] [] [ownL (keptR 141) (List.eraseIdx S1 k), rowA 118 A1 c1 (L4 : List CSession)] Tryz_mixed (hR := (.cons _ (List.Sublist.refl _))) (J := ?_)
 refine Mih (pFk 94 k 4 1 hgL4 (.tail _ (.head _))) (hR := (.cons _ (List.Sublist.refl _))) (J := ?_)
 refine Mtu (σ := Unit) (v := fun _ => .slice (S1.getD k default).replies.A ((S1.getD k default).replies.xs.filter fun z : DKept => !decide (z.seq ≤ c.acked)).length (S1.getD k default).replies.c) (F := fun _ => True) (r := fun _ => rowA 141 (S1.getD k default).replies.A (S1.getD k default).replies.c ((S1.getD k default).replies.xs.filter fun z : DKept => !decide (z.seq ≤ c.acked) : List DKept)) (vs := fun bs => [.slice (S1.getD k default).replies.A (S1.getD k default).replies.n (S1.getD k default).replies.c, .func (.func 80) #[] #[.pointer (some (adr bs 2 0))]]) Tryz.call79 (fun bs w hS => (del_Kept (S1.getD k default).replies.A (S1.getD k default).replies.c (S1.getD k default).replies.xs (fun z : DKept => decide (z.seq ≤ c.acked)) 80 #[.pointer (some (adr bs 2 0))] w (hS.res _ (.head _)) hS.head1.2.2 (by omega) Tryz.call80 (fun w' x hx hk => clo_session_Ready_1 x ((oad A1).add (k * 5)) c.acked (bs.getD 2 0) w' (show (blkR _ _ _).p w' from hS.blkIn (i := 2) (b := ⟨138, [.v (.pointer (some ((oad A1).add (k * 5))))]⟩) hk (by kernel_rfl) (by simp)) (rowA_fld (i := k) (hS.resIn hk (.tail _ (.head _))) (by omega) 2 1 (by rw [hgL4]; rfl)))).mono (fun e w' ⟨h1, h2⟩ => ⟨(), h1, trivial, h2⟩)) (J := ?_)
 rintro _ _
 refine Mz (J := ?_)
 refine m_f2 ?_
 refine Ms k 4 (⟨(S1.getD k default).client, (S1.getD k default).id, c.acked, n + 1, ⟨(S1.getD k default).replies.A, (S1.getD k default).replies.c, (S1.getD k default).replies.xs.filter fun z : DKept => !decide (z.seq ≤ c.acked)⟩⟩ : CSession) (by omega) (hg := hgL4) (J := ?_)
 intro L6 hL6 hlL6
 have hgL6 : L6.getD k default = (⟨(S1.getD k default).client, (S1.getD k default).id, c.acked, n + 1, ⟨(S1.getD k default).replies.A, (S1.getD k default).replies.c, (S1.getD k default).replies.xs.filter fun z : DKept => !decide (z.seq ≤ c.acked)⟩⟩ : CSession) := by rw [hL6]; exact getD_set (by omega)
 have hbL6 : L6 = List.set S1 k (⟨(S1.getD k default).client, (S1.getD k default).id, c.acked, n + 1, ⟨(S1.getD k default).replies.A, (S1.getD k default).replies.c, (S1.getD k default).replies.xs.filter fun z : DKept => !decide (z.seq ≤ c.acked)⟩⟩ : CSession) := by rw [hL6, hbL4, List.set_set]
 refine Mda 7 [] [] [rowA 118 A1 c1 (L6 : List CSession), rowA 141 (S1.getD k default).replies.A (S1.getD k default).replies.c ((S1.getD k default).replies.xs.filter fun z : DKept => !decide (z.seq ≤ c.acked) : List DKept), ownL (keptR 141) (List.eraseIdx S1 k)] Tryz_mixed (J := ?_)
 refine Mih (pFk 104 k 2 1 hgL6 (.head _)) (J := ?_)
 refine Mz (J := ?_)
 refine Md (c.seq ≤ c.acked) (T := fun h10 => ?_) (F := fun h10 => ?_)
 · exact absurd h10 h6
 refine Mi (pFk 111 k 4 1 hgL6 (.head _)) (J := ?_)
 refine Mp (v := .int .i64 (mIdx (fun z : DKept => decide (z.seq = c.seq)) ((S1.getD k default).replies.xs.filter fun z : DKept => !decide (z.seq ≤ c.acked)))) (vs := fun bs => [.slice (S1.getD k default).replies.A ((S1.getD k default).replies.xs.filter fun z : DKept => !decide (z.seq ≤ c.acked)).length (S1.getD k default).replies.c, .func (.func 82) #[] #[.pointer (some (adr bs 0 0))]]) Tryz.call81 (fun bs w hS => idx_Kept (⟨(S1.getD k default).replies.A, (S1.getD k default).replies.c, (S1.getD k default).replies.xs.filter fun z : DKept => !decide (z.seq ≤ c.acked)⟩ : Sl DKept) (fun z : DKept => decide (z.seq = c.seq)) 82 #[.pointer (some (adr bs 0 0))] w (Rr (B := anyB) (hS.res _ (.tail _ (.head _))) (fun _ _ => trivial) (fun z hz => hnm1 _ (mem_of_getD (L := S1) (i := k) (by omega)) z (List.mem_filter.1 hz).1)) Tryz.call82 (fun w' z hz hk => clo_session_Ready_2 z c (bs.getD 0 0) w' (show (blkR _ _ _).p w' from (hS.pure hk).loc 0 ⟨63, [vI c.kind, vI c.client, vI c.session, vI c.seq, vI c.acked, vI c.op.kind, vS c.op.a, vS c.op.b, vI c.op.n]⟩ (by kernel_rfl) (by simp)))) (J := ?_)
 have hIb := mIdx_bd (fun z : DKept => decide (z.seq = c.seq)) ((S1.getD k default).replies.xs.filter fun z : DKept => !decide (z.seq ≤ c.acked))
 generalize hIx : mIdx (fun z : DKept => decide (z.seq = c.seq)) ((S1.getD k default).replies.xs.filter fun z : DKept => !decide (z.seq ≤ c.acked)) = I at hIb ⊢
 refine Md ((0 : Int) ≤ I) (T := fun h11 => ?_) (F := fun h11 => ?_)
 · refine Mda 13 [] [1] [rowA 118 A1 c1 (L6 : List CSession), rowA 141 (S1.getD k default).replies.A (S1.getD k default).replies.c ((S1.getD k default).replies.xs.filter fun z : DKept => !decide (z.seq ≤ c.acked) : List DKept), ownL (keptR 141) (List.eraseIdx S1 k)] Tryz_mixed (J := ?_)
   refine Mih (pc (pFk 120 k 4 1 hgL6 (.head _)) (pc (pIo 122 I I.toNat ((S1.getD k default).replies.xs.filter fun z : DKept => !decide (z.seq ≤ c.acked)).length (.tail _ (.head _))) (pFo 124 I.toNat 1 3 (.tail _ (.head _))))) (J := ?_)
   refine Mz (J := ?_)
   refine Mt [.slice A1 S1.length c1, .agg #[.int .i64 (((S1.getD k default).replies.xs.filter fun z : DKept => !decide (z.seq ≤ c.acked)).getD I.toNat default).reply.code, .int .i64 (((S1.getD k default).replies.xs.filter fun z : DKept => !decide (z.seq ≤ c.acked)).getD I.toNat default).reply.n, .string (((S1.getD k default).replies.xs.filter fun z : DKept => !decide (z.seq ≤ c.acked)).getD I.toNat default).reply.text], .bool false, .int .i64 0] fun bs w hS => ?_
   have hv : ¬ rInv n c := by unfold rInv; omega
   rw [← hF1]
   have ha := ans_kept hak hll (idx_at hIx) h10 h11
   have hm := ready_one (c := c) hm1 hv (K := k) (by show ¬ mIdx _ _ < 0; rw [hJ]; omega) (by show (mIdx _ _).toNat = _; rw [hJ]; rfl) h8 (kSess_of hak hll) ha
   have hvx := setS_map hbL6
   refine ⟨⟨A1, c1, L6⟩, ?_, ?_, hS.outS (y := (⟨A1, c1, L6⟩ : Sl CSession)) (out_sessG (.head _) hS.res (fun x hx => ?_))⟩
   · have hll2 : S1.length = L6.length := by rw [hbL6, List.length_set]
     rw [hm]
     exact congrArg (fun q => Ending.returned (.tuple #[.slice A1 q c1, .agg #[.int .i64 (((S1.getD k default).replies.xs.filter fun z : DKept => !decide (z.seq ≤ c.acked)).getD I.toNat default).reply.code, .int .i64 (((S1.getD k default).replies.xs.filter fun z : DKept => !decide (z.seq ≤ c.acked)).getD I.toNat default).reply.n, .string (((S1.getD k default).replies.xs.filter fun z : DKept => !decide (z.seq ≤ c.acked)).getD I.toNat default).reply.text], .bool false, .int .i64 0])) hll2
   · exact Eq.trans hvx (congrArg Prod.fst hm).symm
   · rw [hbL6] at hx
     rcases mem_set_ne hx with hx | hx
     · subst hx; exact allR_row (.tail _ (.head _)) (hS.res _ (.tail _ (.head _))) (fun z hz => hnm1 _ (mem_of_getD (L := S1) (i := k) (by omega)) z (List.mem_filter.1 hz).1)
     · exact own_in (.tail _ (.tail _ (.head _))) hS.res (fun z hz => hnm1 z (List.mem_of_mem_eraseIdx hz)) hx
 refine Mda 8 [] [] [rowA 118 A1 c1 (L6 : List CSession), rowA 141 (S1.getD k default).replies.A (S1.getD k default).replies.c ((S1.getD k default).replies.xs.filter fun z : DKept => !decide (z.seq ≤ c.acked) : List DKept), ownL (keptR 141) (List.eraseIdx S1 k)] Tryz_mixed (J := ?_)
 refine Mih (pc (pFk 130 k 2 1 hgL6 (.head _)) (pR (c.acked + 4))) (J := ?_)
 refine Mz (J := ?_)
 refine Md (c.acked + 4 < c.seq) (T := fun h12 => ?_) (F := fun h12 => ?_)
 rotate_left
 · refine Mt [.slice A1 S1.length c1, .agg #[.int .i64 0, .int .i64 0, .string emp], .bool true, .int .i64 0] fun bs w hS => ?_
   have hv : ¬ rInv n c := by unfold rInv; omega
   rw [← hF1]
   have ha := ans_new hak hll (idx_at hIx) h10 h11 h12
   have hm := ready_one (c := c) hm1 hv (K := k) (by show ¬ mIdx _ _ < 0; rw [hJ]; omega) (by show (mIdx _ _).toNat = _; rw [hJ]; rfl) h8 (kSess_of hak hll) ha
   have hvx := setS_map hbL6
   refine ⟨⟨A1, c1, L6⟩, ?_, ?_, hS.outS (y := (⟨A1, c1, L6⟩ : Sl CSession)) (out_sessG (.head _) hS.res (fun x hx => ?_))⟩
   · have hll2 : S1.length = L6.length := by rw [hbL6, List.length_set]
     rw [hm]
     exact congrArg (fun q => Ending.returned (.tuple #[.slice A1 q c1, .agg #[.int .i64 0, .int .i64 0, .string emp], .bool true, .int .i64 0])) hll2
   · exact Eq.trans hvx (congrArg Prod.fst hm).symm
   · rw [hbL6] at hx
     rcases mem_set_ne hx with hx | hx
     · subst hx; exact allR_row (.tail _ (.head _)) (hS.res _ (.tail _ (.head _))) (fun z hz => hnm1 _ (mem_of_getD (L := S1) (i := k) (by omega)) z (List.mem_filter.1 hz).1)
     · exact own_in (.tail _ (.tail _ (.head _))) hS.res (fun z hz => hnm1 z (List.mem_of_mem_eraseIdx hz)) hx
 refine Mt [.slice A1 S1.length c1, .agg #[.int .i64 2, .int .i64 0, .string emp], .bool false, .int .i64 0] fun bs w hS => ?_
 have hv : ¬ rInv n c := by unfold rInv; omega
 rw [← hF1]
 have ha := ans_far hak hll (idx_at hIx) h10 h11 h12
 have hm := ready_one (c := c) hm1 hv (K := k) (by show ¬ mIdx _ _ < 0; rw [hJ]; omega) (by show (mIdx _ _).toNat = _; rw [hJ]; rfl) h8 (kSess_of hak hll) ha
 have hvx := setS_map hbL6
 refine ⟨⟨A1, c1, L6⟩, ?_, ?_, hS.outS (y := (⟨A1, c1, L6⟩ : Sl CSession)) (out_sessG (.head _) hS.res (fun x hx => ?_))⟩
 · have hll2 : S1.length = L6.length := by rw [hbL6, List.length_set]
   rw [hm]
   exact congrArg (fun q => Ending.returned (.tuple #[.slice A1 q c1, .agg #[.int .i64 2, .int .i64 0, .string emp], .bool false, .int .i64 0])) hll2
 · exact Eq.trans hvx (congrArg Prod.fst hm).symm
 · rw [hbL6] at hx
   rcases mem_set_ne hx with hx | hx
   · subst hx; exact allR_row (.tail _ (.head _)) (hS.res _ (.tail _ (.head _))) (fun z hz => hnm1 _ (mem_of_getD (L := S1) (i := k) (by omega)) z (List.mem_filter.1 hz).1)
   · exact own_in (.tail _ (.tail _ (.head _))) hS.res (fun z hz => hnm1 z (List.mem_of_mem_eraseIdx hz)) hx

theorem ref_ReadyOf {B : Nat → Prop} (s : Sl CSession) (n : Int) (c : DCommand) (w : World) (hs : s.rd B w) (ht : inR c.client) (hc : Rds.sub B w c) : Calls Tryz.prog 36 #[.slice s.A s.n s.c, .int .i64 n, .agg #[.int .i64 c.kind, .int .i64 c.client, .int .i64 c.session, .int .i64 c.seq, .int .i64 c.acked, .int .i64 c.op.kind, .string c.op.a, .string c.op.b, .int .i64 c.op.n]] w fun e w' => ∃ y : Sl CSession, e = .returned (.tuple #[.slice y.A y.n y.c, .agg #[.int .i64 ((mReady (s.xs.map CSession.abs) n c).2.1).code, .int .i64 ((mReady (s.xs.map CSession.abs) n c).2.1).n, .string ((mReady (s.xs.map CSession.abs) n c).2.1).text], .bool (mReady (s.xs.map CSession.abs) n c).2.2.1, .int .i64 (mReady (s.xs.map CSession.abs) n c).2.2.2]) ∧ y.xs.map CSession.abs = (mReady (s.xs.map CSession.abs) n c).1 ∧ FreshS w w' y := by
 have oks := Sl.rd.ok hs
 have ncs := Sl.ok.nc oks
 have hns : s.n = s.xs.length := rfl
 have hml : (s.xs.map CSession.abs).length = s.n := by simp
 refine M0 Tryz.func36 (J := ?_)
 refine Mp Tryz.call92 (fun bs w hS => ref_SessionsFault s n w (Sl.rd.kp hs hS.kp)) (J := ?_)
 refine Md (mSess (s.xs.map CSession.abs) n = 0) (T := fun h1 => ?_) (F := fun h1 => ?_)
 rotate_left
 · refine Mdn (mSess (s.xs.map CSession.abs) n = 0) (T := fun h21 => ?_) (F := fun h21 => ?_)
   · exact absurd h21 h1
   refine Mt [.slice none 0 0, .agg #[.int .i64 0, .int .i64 0, .string emp], .bool false, .int .i64 (mSess (s.xs.map CSession.abs) n)] fun bs w hS => ?_
   have hm := ready_bad (c := c) h21
   refine ⟨Sl.nil, ?_, ?_, hS.outS (Sl.rd_nil _ _)⟩
   · rw [hm] <;> rfl
   · rw [hm] <;> rfl
 obtain ⟨hi0, hi1, hln, hall⟩ := mSess_bd h1
 have hln2 : s.xs.length ≤ 4 := by simpa using hln
 refine Md ((1073741824 : Int) ≤ n) (T := fun h2 => ?_) (F := fun h2 => ?_)
 · refine Mq 41 true rfl (J := ?_)
   refine Mt [.slice none 0 0, .agg #[.int .i64 0, .int .i64 0, .string emp], .bool false, .int .i64 2] fun bs w hS => ?_
   have hm := ready_inv (c := c) h1 (by unfold rInv; simp only [inB, Bool.and_eq_true, Bool.and_eq_false_iff, decide_eq_true_eq, decide_eq_false_iff_not] at *; omega)
   refine ⟨Sl.nil, ?_, ?_, hS.outS (Sl.rd_nil _ _)⟩
   · rw [hm] <;> rfl
   · rw [hm] <;> rfl
 refine Mp Tryz.call51 (fun bs w hS => ref_In c.seq 1 1048576 w) (J := ?_)
 refine Mbn (inB c.seq 1 1048576) (T := fun h3 => ?_) (F := fun h3 => ?_)
 rotate_left
 · simp only [inB, Bool.and_eq_true, Bool.and_eq_false_iff, decide_eq_true_eq, decide_eq_false_iff_not] at h3
   refine Mq 41 true rfl (J := ?_)
   refine Mt [.slice none 0 0, .agg #[.int .i64 0, .int .i64 0, .string emp], .bool false, .int .i64 2] fun bs w hS => ?_
   have hm := ready_inv (c := c) h1 (by unfold rInv; simp only [inB, Bool.and_eq_true, Bool.and_eq_false_iff, decide_eq_true_eq, decide_eq_false_iff_not] at *; omega)
   refine ⟨Sl.nil, ?_, ?_, hS.outS (Sl.rd_nil _ _)⟩
   · rw [hm] <;> rfl
   · rw [hm] <;> rfl
 simp only [inB, Bool.and_eq_true, Bool.and_eq_false_iff, decide_eq_true_eq, decide_eq_false_iff_not] at h3
 refine Mi (pR (c.seq - 1)) (J := ?_)
 refine Mp Tryz.call51 (fun bs w hS => ref_In c.acked 0 (c.seq - 1) w) (J := ?_)
 refine Mbn (inB c.acked 0 (c.seq - 1)) (T := fun h4 => ?_) (F := fun h4 => ?_)
 rotate_left
 · simp only [inB, Bool.and_eq_true, Bool.and_eq_false_iff, decide_eq_true_eq, decide_eq_false_iff_not] at h4
   refine Mq 41 true rfl (J := ?_)
   refine Mt [.slice none 0 0, .agg #[.int .i64 0, .int .i64 0, .string emp], .bool false, .int .i64 2] fun bs w hS => ?_
   have hm := ready_inv (c := c) h1 (by unfold rInv; simp only [inB, Bool.and_eq_true, Bool.and_eq_false_iff, decide_eq_true_eq, decide_eq_false_iff_not] at *; omega)
   refine ⟨Sl.nil, ?_, ?_, hS.outS (Sl.rd_nil _ _)⟩
   · rw [hm] <;> rfl
   · rw [hm] <;> rfl
 simp only [inB, Bool.and_eq_true, Bool.and_eq_false_iff, decide_eq_true_eq, decide_eq_false_iff_not] at h4
 refine Mdn (mSess (s.xs.map CSession.abs) n = 0) (T := fun h5 => ?_) (F := fun h5 => ?_)
 rotate_left
 · exact absurd h1 h5
 obtain ⟨hi0, hi1, hln, hall⟩ := mSess_bd h5
 have hln2 : s.xs.length ≤ 4 := by simpa using hln
 refine Mf (σ := Sl CSession) (v := fun y1 => .slice y1.A y1.n y1.c) (F := fun y1 => y1.xs.map CSession.abs = s.xs.map CSession.abs) (r := fun y1 => sessR 118 141 y1) Tryz.call19 (fun bs w hS => ref_SessionsCopy s w (Sl.rd.kp hs hS.kp) (small_sess (by assumption))) (J := ?_)
 rintro y1 hF1
 refine m_split2 ?_
 obtain ⟨A1, c1, S1⟩ := y1
 have hF1 : S1.map CSession.abs = s.xs.map CSession.abs := hF1
 refine m_perm (R' := [ownL (keptR 141) S1, rowA 118 A1 c1 (S1 : List CSession)]) (List.Perm.refl _) ?_
 have hnm1 := sess_texts (y := (⟨A1, c1, S1⟩ : Sl CSession)) (hs) hF1
 have hlen1 : S1.length = s.xs.length := by simpa using congrArg List.length hF1
 refine m_know (F := ∀ i, i < S1.length → Rds.ok (S1.getD i default)) (fun bs w hS i hi => Rds.okof (B := anyB) (w := w) (own_elt (hS.res _ (.head _)) hnm1 (mem_of_getD hi))) fun okown1 => ?_
 refine m_know (F := RowOk A1 c1 (S1 : List CSession)) (fun bs w hS => rowA_rok (hS.res _ (.tail _ (.head _)))) fun hrow1 => ?_
 have nchrow1 := hrow1.2
 have hml1 : (S1.map CSession.abs).length = S1.length := by simp
 have hm1 : mSess (S1.map CSession.abs) n = 0 := by rw [hF1]; assumption
 refine Mp (v := .int .i64 (mIdx (fun x : CSession => decide (x.client = c.client)) S1)) Tryz.call98 (fun bs w hS => tackroomref_sessionAt (⟨A1, c1, S1⟩ : Sl CSession) c.client w (own_sess (hS.res _ (.head _)) (hS.res _ (.tail _ (.head _))) hnm1)) (J := ?_)
 have hJe : mIdx (fun x : CSession => decide (x.client = c.client)) S1 = mIdx (fun x : DSession => decide (x.client = c.client)) (S1.map CSession.abs) := mIdx_map CSession.abs (fun x : DSession => decide (x.client = c.client)) S1
 rw [hJe]
 have hJb := mIdx_bd (fun x : DSession => decide (x.client = c.client)) (S1.map CSession.abs)
 generalize hJ : mIdx (fun x : DSession => decide (x.client = c.client)) (S1.map CSession.abs) = J at hJb ⊢
 rw [List.length_map] at hJb
 refine Mda 12 [] [] [ownL (keptR 141) S1, rowA 118 A1 c1 (S1 : List CSession)] Tryz_mixed (J := ?_)
 refine Md (J < 0) (T := fun h6 => ?_) (F := fun h6 => ?_)
 · have h0J : ¬ 0 ≤ J := by omega
   refine Mz (J := ?_)
   refine Mt [.slice A1 S1.length c1, .agg #[.int .i64 11, .int .i64 0, .string emp], .bool false, .int .i64 0] fun bs w hS => ?_
   have hv : ¬ rInv n c := by unfold rInv; simp only [inB, Bool.and_eq_true, Bool.and_eq_false_iff, decide_eq_true_eq, decide_eq_false_iff_not] at *; omega
   rw [← hF1]
   have hm := ready_none (l := S1.map CSession.abs) (c := c) hm1 hv (by show mIdx _ _ < 0; rw [hJ]; omega)
   refine ⟨⟨A1, c1, S1⟩, ?_, ?_, hS.outS (y := (⟨A1, c1, S1⟩ : Sl CSession)) (out_sessG (.tail _ (.head _)) hS.res (fun x hx => ?_))⟩
   · rw [hm] <;> rfl
   · exact (congrArg Prod.fst hm).symm
   · exact own_in (.head _) hS.res hnm1 hx
 have h0J : 0 ≤ J := by omega
 have hk5 := sess_all hm1 (k := J.toNat) (by omega)
 have hk6 : (S1.getD J.toNat default).replies.xs.length ≤ 4 := mReplies_len hk5.2.2.2.2
 have hk7 : (S1.getD J.toNat default).replies.n = (S1.getD J.toNat default).replies.xs.length := rfl
 refine Mih (pc (pIo 55 J J.toNat S1.length (.tail _ (.head _))) (pFo 57 J.toNat 1 1 (.tail _ (.head _)))) (J := ?_)
 refine Mz (J := ?_)
 refine Mdn ((S1.getD J.toNat default).id = c.session) (T := fun h7 => ?_) (F := fun h7 => ?_)
 rotate_left
 · refine Mt [.slice A1 S1.length c1, .agg #[.int .i64 11, .int .i64 0, .string emp], .bool false, .int .i64 0] fun bs w hS => ?_
   have hv : ¬ rInv n c := by unfold rInv; simp only [inB, Bool.and_eq_true, Bool.and_eq_false_iff, decide_eq_true_eq, decide_eq_false_iff_not] at *; omega
   rw [← hF1]
   have hm := ready_other (c := c) hm1 hv (K := J.toNat) (by show (mIdx _ _).toNat = _; rw [hJ]) h7
   refine ⟨⟨A1, c1, S1⟩, ?_, ?_, hS.outS (y := (⟨A1, c1, S1⟩ : Sl CSession)) (out_sessG (.tail _ (.head _)) hS.res (fun x hx => ?_))⟩
   · rw [hm] <;> rfl
   · exact (congrArg Prod.fst hm).symm
   · exact own_in (.head _) hS.res hnm1 hx
 refine Mi (pc (pR (n + 1)) (pIo 68 J J.toNat S1.length (.tail _ (.head _)))) (J := ?_)
 refine m_f1 ?_
 refine Ms J.toNat 3 (⟨(S1.getD J.toNat default).client, (S1.getD J.toNat default).id, (S1.getD J.toNat default).acked, n + 1, (S1.getD J.toNat default).replies⟩ : CSession) (by omega) (J := ?_)
 intro L3 hL3 hlL3
 have hgL3 : L3.getD J.toNat default = (⟨(S1.getD J.toNat default).client, (S1.getD J.toNat default).id, (S1.getD J.toNat default).acked, n + 1, (S1.getD J.toNat default).replies⟩ : CSession) := by rw [hL3]; exact getD_set (by omega)
 have hbL3 : L3 = List.set S1 J.toNat (⟨(S1.getD J.toNat default).client, (S1.getD J.toNat default).id, (S1.getD J.toNat default).acked, n + 1, (S1.getD J.toNat default).replies⟩ : CSession) := by rw [hL3]
 refine Mda 8 [] [] [rowA 118 A1 c1 (L3 : List CSession), ownL (keptR 141) S1] Tryz_mixed (J := ?_)
 refine Mih (pc (pIo 74 J J.toNat S1.length (.head _)) (pFk 76 J.toNat 2 1 hgL3 (.head _))) (J := ?_)
 refine Mz (J := ?_)
 refine Md ((S1.getD J.toNat default).acked < c.acked) (T := fun h8 => ?_) (F := fun h8 => ?_)
 rotate_left
 · have hak : kAck (S1.getD J.toNat default).abs c = (S1.getD J.toNat default).acked := ack_same (d := (S1.getD J.toNat default).abs) h8
   refine m_rowA (α := DKept) 141 ?_
   refine Ml (σ := Nat × Option Addr × Nat × List DKept) (fun ⟨i, A, c9, L⟩ => i ≤ (S1.getD J.toNat default).replies.n ∧ L = ((S1.getD J.toNat default).replies.xs.take i).filter (fun z : DKept => !decide (z.seq ≤ (S1.getD J.toNat default).acked))) (fun ⟨i, A, c9, L⟩ => (S1.getD J.toNat default).replies.n - i) (fun ⟨i, A, c9, L⟩ => [rowA 141 A c9 (L : List DKept), rowA 118 A1 c1 (L3 : List CSession), ownL (keptR 141) S1]) [14, 13, 12, 11, 7, 5] (fun ⟨i, A, c9, L⟩ => [(14, vI (i : Int)), (13, .v (.slice A L.length c9))]) (fun _ => []) (⟨0, none, 0, []⟩) ⟨Nat.zero_le _, rfl⟩ (B := ?_)
   rintro ⟨i, A, c9, L⟩ ⟨hi, hI⟩ _ on3
   have hLn : L.length ≤ i := by rw [hI]; exact Nat.le_trans (List.length_filter_le _ _) (by rw [List.length_take]; omega)
   refine Mi (pc (pIo 87 J J.toNat S1.length (.tail _ (.head _))) (pFk 89 J.toNat 4 1 hgL3 (.tail _ (.head _)))) (J := ?_)
   refine Md ((i : Int) < (((S1.getD J.toNat default).replies.n : Nat) : Int)) (T := fun h15 => ?_) (F := fun h15 => ?_)
   · refine Mda 15 [] [] [rowA 141 A c9 (L : List DKept), rowA 118 A1 c1 (L3 : List CSession), ownL (keptR 141) S1] Tryz_mixed (J := ?_)
     refine Mih (pc (pIo 96 J J.toNat S1.length (.tail _ (.head _))) (pc (pFk 98 J.toNat 4 1 hgL3 (.tail _ (.head _))) (pc (pI 100 (i : Int) i (s := (S1.getD J.toNat default).replies) (fun w hk hr => (own_elt (hr _ (.tail _ (.tail _ (.head _)))) hnm1 (mem_of_getD (i := J.toNat) (by omega))))) (pc (pF 102 i 0 1 (s := (S1.getD J.toNat default).replies) (fun w hk hr => (own_elt (hr _ (.tail _ (.tail _ (.head _)))) hnm1 (mem_of_getD (i := J.toNat) (by omega))))) (pc (pIo 105 J J.toNat S1.length (.tail _ (.head _))) (pFk 107 J.toNat 2 1 hgL3 (.tail _ (.head _)))))))) (J := ?_)
     refine Mz (J := ?_)
     refine Md ((S1.getD J.toNat default).acked < ((S1.getD J.toNat default).replies.at i).seq) (T := fun h16 => ?_) (F := fun h16 => ?_)
     rotate_left
     · refine Mi (pR ((i : Int) + 1)) (J := ?_)
       exact on3 (⟨i + 1, A, c9, L⟩ : Nat × Option Addr × Nat × List DKept) ⟨by omega, by first | exact filtS_in (s := (S1.getD J.toNat default).replies) (p := (fun z : DKept => decide (z.seq ≤ (S1.getD J.toNat default).acked))) hI (by omega) (decide_eq_false (by omega)) | exact filtS_out (s := (S1.getD J.toNat default).replies) (p := (fun z : DKept => decide (z.seq ≤ (S1.getD J.toNat default).acked))) hI (by omega) (decide_eq_true (by omega))⟩ (by show (S1.getD J.toNat default).replies.n - (i + 1) < (S1.getD J.toNat default).replies.n - i; omega)
     refine Mi (pc (pIo 112 J J.toNat S1.length (.tail _ (.head _))) (pc (pFk 114 J.toNat 4 1 hgL3 (.tail _ (.head _))) (pA 116 117 (i : Int) i (s := (S1.getD J.toNat default).replies) (fun w hk hr => (own_elt (hr _ (.tail _ (.tail _ (.head _)))) hnm1 (mem_of_getD (i := J.toNat) (by omega))))))) (J := ?_)
     refine M1 (J := ?_)
     refine Mal (α := DKept) 40 ([(⟨((S1.getD J.toNat default).replies.at i).seq, ⟨((S1.getD J.toNat default).replies.at i).reply.code, ((S1.getD J.toNat default).replies.at i).reply.n, ((S1.getD J.toNat default).replies.at i).reply.text⟩⟩ : DKept)]) (h63 := (by first | omega | (simp only [List.length_append, List.length_nil, List.length_cons]; omega))) (hb := (by first | omega | (simp only [List.length_append, List.length_nil, List.length_cons]; omega))) (J := ?_)
     intro A7 c7
     refine Mi (pR ((i : Int) + 1)) (J := ?_)
     exact on3 (⟨i + 1, A7, c7, L ++ [(⟨((S1.getD J.toNat default).replies.at i).seq, ⟨((S1.getD J.toNat default).replies.at i).reply.code, ((S1.getD J.toNat default).replies.at i).reply.n, ((S1.getD J.toNat default).replies.at i).reply.text⟩⟩ : DKept)]⟩ : Nat × Option Addr × Nat × List DKept) ⟨by omega, by first | exact filtS_in (s := (S1.getD J.toNat default).replies) (p := (fun z : DKept => decide (z.seq ≤ (S1.getD J.toNat default).acked))) hI (by omega) (decide_eq_false (by omega)) | exact filtS_out (s := (S1.getD J.toNat default).replies) (p := (fun z : DKept => decide (z.seq ≤ (S1.getD J.toNat default).acked))) hI (by omega) (decide_eq_true (by omega))⟩ (by show (S1.getD J.toNat default).replies.n - (i + 1) < (S1.getD J.toNat default).replies.n - i; omega)
   have hLX : L = (S1.getD J.toNat default).replies.xs.filter (fun z : DKept => !decide (z.seq ≤ (S1.getD J.toNat default).acked)) := by rw [hI, take_all (by omega)]
   have hll : kLeft (S1.getD J.toNat default).abs c = L := (left_more hak).trans hLX.symm
   refine m_know (F := RowOk A c9 (L : List DKept)) (fun bs w hS => rowA_rok (hS.res _ (.head _))) fun hrowK => ?_
   have nchrowK := hrowK.2
   refine Mi (pIo 123 J J.toNat S1.length (.tail _ (.head _))) (J := ?_)
   refine m_f1 ?_
   refine Ms J.toNat 4 (⟨(S1.getD J.toNat default).client, (S1.getD J.toNat default).id, (S1.getD J.toNat default).acked, n + 1, ⟨A, c9, L⟩⟩ : CSession) (by omega) (hg := hgL3) (J := ?_)
   intro L8 hL8 hlL8
   have hgL8 : L8.getD J.toNat default = (⟨(S1.getD J.toNat default).client, (S1.getD J.toNat default).id, (S1.getD J.toNat default).acked, n + 1, ⟨A, c9, L⟩⟩ : CSession) := by rw [hL8]; exact getD_set (by omega)
   have hbL8 : L8 = List.set S1 J.toNat (⟨(S1.getD J.toNat default).client, (S1.getD J.toNat default).id, (S1.getD J.toNat default).acked, n + 1, ⟨A, c9, L⟩⟩ : CSession) := by rw [hL8, hbL3, List.set_set]
   refine Mda 8 [] [] [rowA 118 A1 c1 (L8 : List CSession), rowA 141 A c9 (L : List DKept), ownL (keptR 141) S1] Tryz_mixed (J := ?_)
   refine Mih (pc (pIo 129 J J.toNat S1.length (.head _)) (pFk 131 J.toNat 2 1 hgL8 (.head _))) (J := ?_)
   refine Mz (J := ?_)
   refine Md (c.seq ≤ (S1.getD J.toNat default).acked) (T := fun h17 => ?_) (F := fun h17 => ?_)
   · refine Mt [.slice A1 S1.length c1, .agg #[.int .i64 12, .int .i64 0, .string emp], .bool false, .int .i64 0] fun bs w hS => ?_
     clear on3
     have hv : ¬ rInv n c := by unfold rInv; simp only [inB, Bool.and_eq_true, Bool.and_eq_false_iff, decide_eq_true_eq, decide_eq_false_iff_not] at *; omega
     rw [← hF1]
     have ha := ans_old hak h17
     have hm := ready_one (c := c) hm1 hv (K := J.toNat) (by show ¬ mIdx _ _ < 0; rw [hJ]; omega) (by show (mIdx _ _).toNat = _; rw [hJ]) h7 (kSess_of hak hll) ha
     have hvx := setS_map hbL8
     refine ⟨⟨A1, c1, L8⟩, ?_, ?_, hS.outS (y := (⟨A1, c1, L8⟩ : Sl CSession)) (out_sessG (.head _) hS.res (fun x hx => ?_))⟩
     · have hll2 : S1.length = L8.length := by rw [hbL8, List.length_set]
       rw [hm]
       exact congrArg (fun q => Ending.returned (.tuple #[.slice A1 q c1, .agg #[.int .i64 12, .int .i64 0, .string emp], .bool false, .int .i64 0])) hll2
     · exact Eq.trans hvx (congrArg Prod.fst hm).symm
     · rw [hbL8] at hx
       rcases mem_set hx with hx | hx
       · subst hx; exact allR_row (.tail _ (.head _)) (hS.res _ (.tail _ (.head _))) (fun z hz => hnm1 _ (mem_of_getD (L := S1) (i := J.toNat) (by omega)) z (by rw [hLX] at hz; exact (List.mem_filter.1 hz).1))
       · exact own_in (.tail _ (.tail _ (.head _))) hS.res hnm1 hx
   refine Ml (σ := Nat) (fun j => j ≤ L.length ∧ ∀ i0, i0 < j → ¬ (L.getD i0 default).seq = c.seq) (fun j => L.length - j) (fun j => [rowA 118 A1 c1 (L8 : List CSession), rowA 141 A c9 (L : List DKept), ownL (keptR 141) S1]) [15, 13, 12, 11, 7, 5] (fun j => [(15, vI (j : Int))]) (fun _ => []) 0 ⟨Nat.zero_le _, fun i0 h0 => absurd h0 (Nat.not_lt_zero _)⟩ (B := ?_)
   rintro j ⟨hj0, hX⟩ _ on4
   refine Md ((j : Int) < (L.length : Int)) (T := fun h18 => ?_) (F := fun h18 => ?_)
   · refine Mda 8 [] [] [rowA 118 A1 c1 (L8 : List CSession), rowA 141 A c9 (L : List DKept), ownL (keptR 141) S1] Tryz_mixed (J := ?_)
     refine Mih (pc (pIo 143 (j : Int) j L.length (.tail _ (.head _))) (pFo 145 j 0 1 (.tail _ (.head _)))) (J := ?_)
     refine Mz (J := ?_)
     refine Md ((L.getD j default).seq = c.seq) (T := fun h19 => ?_) (F := fun h19 => ?_)
     rotate_left
     · refine Mi (pR ((j : Int) + 1)) (J := ?_)
       exact on4 (j + 1) ⟨by omega, fun i0 h0 => by rcases Nat.lt_succ_iff_lt_or_eq.1 h0 with h | h; exact hX i0 h; subst h; assumption⟩ (by show L.length - (j + 1) < L.length - j; omega)
     refine Mda 10 [] [1] [rowA 118 A1 c1 (L8 : List CSession), rowA 141 A c9 (L : List DKept), ownL (keptR 141) S1] Tryz_mixed (J := ?_)
     refine Mih (pc (pIo 152 (j : Int) j L.length (.tail _ (.head _))) (pFo 154 j 1 3 (.tail _ (.head _)))) (J := ?_)
     refine Mz (J := ?_)
     refine Mt [.slice A1 S1.length c1, .agg #[.int .i64 (L.getD j default).reply.code, .int .i64 (L.getD j default).reply.n, .string (L.getD j default).reply.text], .bool false, .int .i64 0] fun bs w hS => ?_
     clear on3 on4
     have hv : ¬ rInv n c := by unfold rInv; simp only [inB, Bool.and_eq_true, Bool.and_eq_false_iff, decide_eq_true_eq, decide_eq_false_iff_not] at *; omega
     rw [← hF1]
     have ha := ans_kept hak hll (idx_at (mIdxL_here (L := L) (p := fun z : DKept => decide (z.seq = c.seq)) (i := j) (by omega) (decide_eq_true h19) (fun i0 h0 => decide_eq_false (hX i0 h0)))) h17 (by omega)
     have hm := ready_one (c := c) hm1 hv (K := J.toNat) (by show ¬ mIdx _ _ < 0; rw [hJ]; omega) (by show (mIdx _ _).toNat = _; rw [hJ]) h7 (kSess_of hak hll) ha
     have hvx := setS_map hbL8
     refine ⟨⟨A1, c1, L8⟩, ?_, ?_, hS.outS (y := (⟨A1, c1, L8⟩ : Sl CSession)) (out_sessG (.head _) hS.res (fun x hx => ?_))⟩
     · have hll2 : S1.length = L8.length := by rw [hbL8, List.length_set]
       rw [hm]
       exact congrArg (fun q => Ending.returned (.tuple #[.slice A1 q c1, .agg #[.int .i64 (L.getD j default).reply.code, .int .i64 (L.getD j default).reply.n, .string (L.getD j default).reply.text], .bool false, .int .i64 0])) hll2
     · exact Eq.trans hvx (congrArg Prod.fst hm).symm
     · rw [hbL8] at hx
       rcases mem_set hx with hx | hx
       · subst hx; exact allR_row (.tail _ (.head _)) (hS.res _ (.tail _ (.head _))) (fun z hz => hnm1 _ (mem_of_getD (L := S1) (i := J.toNat) (by omega)) z (by rw [hLX] at hz; exact (List.mem_filter.1 hz).1))
       · exact own_in (.tail _ (.tail _ (.head _))) hS.res hnm1 hx
   refine Mda 9 [] [] [rowA 118 A1 c1 (L8 : List CSession), rowA 141 A c9 (L : List DKept), ownL (keptR 141) S1] Tryz_mixed (J := ?_)
   refine Mih (pc (pIo 159 J J.toNat S1.length (.head _)) (pc (pFk 161 J.toNat 2 1 hgL8 (.head _)) (pR ((S1.getD J.toNat default).acked + 4)))) (J := ?_)
   refine Mz (J := ?_)
   refine Md ((S1.getD J.toNat default).acked + 4 < c.seq) (T := fun h20 => ?_) (F := fun h20 => ?_)
   rotate_left
   · refine Mt [.slice A1 S1.length c1, .agg #[.int .i64 0, .int .i64 0, .string emp], .bool true, .int .i64 0] fun bs w hS => ?_
     clear on3 on4
     have hv : ¬ rInv n c := by unfold rInv; simp only [inB, Bool.and_eq_true, Bool.and_eq_false_iff, decide_eq_true_eq, decide_eq_false_iff_not] at *; omega
     rw [← hF1]
     have ha := ans_new hak hll (idx_at (mIdxL_none (L := L) (p := fun z : DKept => decide (z.seq = c.seq)) fun i0 h0 => decide_eq_false (hX i0 (by omega)))) h17 (by omega) h20
     have hm := ready_one (c := c) hm1 hv (K := J.toNat) (by show ¬ mIdx _ _ < 0; rw [hJ]; omega) (by show (mIdx _ _).toNat = _; rw [hJ]) h7 (kSess_of hak hll) ha
     have hvx := setS_map hbL8
     refine ⟨⟨A1, c1, L8⟩, ?_, ?_, hS.outS (y := (⟨A1, c1, L8⟩ : Sl CSession)) (out_sessG (.head _) hS.res (fun x hx => ?_))⟩
     · have hll2 : S1.length = L8.length := by rw [hbL8, List.length_set]
       rw [hm]
       exact congrArg (fun q => Ending.returned (.tuple #[.slice A1 q c1, .agg #[.int .i64 0, .int .i64 0, .string emp], .bool true, .int .i64 0])) hll2
     · exact Eq.trans hvx (congrArg Prod.fst hm).symm
     · rw [hbL8] at hx
       rcases mem_set hx with hx | hx
       · subst hx; exact allR_row (.tail _ (.head _)) (hS.res _ (.tail _ (.head _))) (fun z hz => hnm1 _ (mem_of_getD (L := S1) (i := J.toNat) (by omega)) z (by rw [hLX] at hz; exact (List.mem_filter.1 hz).1))
       · exact own_in (.tail _ (.tail _ (.head _))) hS.res hnm1 hx
   refine Mt [.slice A1 S1.length c1, .agg #[.int .i64 2, .int .i64 0, .string emp], .bool false, .int .i64 0] fun bs w hS => ?_
   clear on3 on4
   have hv : ¬ rInv n c := by unfold rInv; simp only [inB, Bool.and_eq_true, Bool.and_eq_false_iff, decide_eq_true_eq, decide_eq_false_iff_not] at *; omega
   rw [← hF1]
   have ha := ans_far hak hll (idx_at (mIdxL_none (L := L) (p := fun z : DKept => decide (z.seq = c.seq)) fun i0 h0 => decide_eq_false (hX i0 (by omega)))) h17 (by omega) h20
   have hm := ready_one (c := c) hm1 hv (K := J.toNat) (by show ¬ mIdx _ _ < 0; rw [hJ]; omega) (by show (mIdx _ _).toNat = _; rw [hJ]) h7 (kSess_of hak hll) ha
   have hvx := setS_map hbL8
   refine ⟨⟨A1, c1, L8⟩, ?_, ?_, hS.outS (y := (⟨A1, c1, L8⟩ : Sl CSession)) (out_sessG (.head _) hS.res (fun x hx => ?_))⟩
   · have hll2 : S1.length = L8.length := by rw [hbL8, List.length_set]
     rw [hm]
     exact congrArg (fun q => Ending.returned (.tuple #[.slice A1 q c1, .agg #[.int .i64 2, .int .i64 0, .string emp], .bool false, .int .i64 0])) hll2
   · exact Eq.trans hvx (congrArg Prod.fst hm).symm
   · rw [hbL8] at hx
     rcases mem_set hx with hx | hx
     · subst hx; exact allR_row (.tail _ (.head _)) (hS.res _ (.tail _ (.head _))) (fun z hz => hnm1 _ (mem_of_getD (L := S1) (i := J.toNat) (by omega)) z (by rw [hLX] at hz; exact (List.mem_filter.1 hz).1))
     · exact own_in (.tail _ (.tail _ (.head _))) hS.res hnm1 hx
 have hak := ack_up (d := (S1.getD J.toNat default).abs) (c := c) h8
 have hak2 := hak
 refine Mi (pIo 82 J J.toNat S1.length (.head _)) (J := ?_)
 refine Ms J.toNat 2 (⟨(S1.getD J.toNat default).client, (S1.getD J.toNat default).id, c.acked, n + 1, (S1.getD J.toNat default).replies⟩ : CSession) (by omega) (hg := hgL3) (J := ?_)
 intro L4 hL4 hlL4
 have hgL4 : L4.getD J.toNat default = (⟨(S1.getD J.toNat default).client, (S1.getD J.toNat default).id, c.acked, n + 1, (S1.getD J.toNat default).replies⟩ : CSession) := by rw [hL4]; exact getD_set (by omega)
 have hbL4 : L4 = List.set S1 J.toNat (⟨(S1.getD J.toNat default).client, (S1.getD J.toNat default).id, c.acked, n + 1, (S1.getD J.toNat default).replies⟩ : CSession) := by rw [hL4, hbL3, List.set_set]
 refine m_rowA (α := DKept) 141 ?_
 refine Ml (σ := Nat × Option Addr × Nat × List DKept) (fun ⟨i, A, c9, L⟩ => i ≤ (S1.getD J.toNat default).replies.n ∧ L = ((S1.getD J.toNat default).replies.xs.take i).filter (fun z : DKept => !decide (z.seq ≤ c.acked))) (fun ⟨i, A, c9, L⟩ => (S1.getD J.toNat default).replies.n - i) (fun ⟨i, A, c9, L⟩ => [rowA 141 A c9 (L : List DKept), rowA 118 A1 c1 (L4 : List CSession), ownL (keptR 141) S1]) [14, 13, 12, 11, 7, 5] (fun ⟨i, A, c9, L⟩ => [(14, vI (i : Int)), (13, .v (.slice A L.length c9))]) (fun _ => []) (⟨0, none, 0, []⟩) ⟨Nat.zero_le _, rfl⟩ (B := ?_)
 rintro ⟨i, A, c9, L⟩ ⟨hi, hI⟩ _ on1
 have hLn : L.length ≤ i := by rw [hI]; exact Nat.le_trans (List.length_filter_le _ _) (by rw [List.length_take]; omega)
 refine Mi (pc (pIo 87 J J.toNat S1.length (.tail _ (.head _))) (pFk 89 J.toNat 4 1 hgL4 (.tail _ (.head _)))) (J := ?_)
 refine Md ((i : Int) < (((S1.getD J.toNat default).replies.n : Nat) : Int)) (T := fun h9 => ?_) (F := fun h9 => ?_)
 · refine Mda 15 [] [] [rowA 141 A c9 (L : List DKept), rowA 118 A1 c1 (L4 : List CSession), ownL (keptR 141) S1] Tryz_mixed (J := ?_)
   refine Mih (pc (pIo 96 J J.toNat S1.length (.tail _ (.head _))) (pc (pFk 98 J.toNat 4 1 hgL4 (.tail _ (.head _))) (pc (pI 100 (i : Int) i (s := (S1.getD J.toNat default).replies) (fun w hk hr => (own_elt (hr _ (.tail _ (.tail _ (.head _)))) hnm1 (mem_of_getD (i := J.toNat) (by omega))))) (pc (pF 102 i 0 1 (s := (S1.getD J.toNat default).replies) (fun w hk hr => (own_elt (hr _ (.tail _ (.tail _ (.head _)))) hnm1 (mem_of_getD (i := J.toNat) (by omega))))) (pc (pIo 105 J J.toNat S1.length (.tail _ (.head _))) (pFk 107 J.toNat 2 1 hgL4 (.tail _ (.head _)))))))) (J := ?_)
   refine Mz (J := ?_)
   refine Md (c.acked < ((S1.getD J.toNat default).replies.at i).seq) (T := fun h10 => ?_) (F := fun h10 => ?_)
   rotate_left
   · refine Mi (pR ((i : Int) + 1)) (J := ?_)
     exact on1 (⟨i + 1, A, c9, L⟩ : Nat × Option Addr × Nat × List DKept) ⟨by omega, by first | exact filtS_in (s := (S1.getD J.toNat default).replies) (p := (fun z : DKept => decide (z.seq ≤ c.acked))) hI (by omega) (decide_eq_false (by omega)) | exact filtS_out (s := (S1.getD J.toNat default).replies) (p := (fun z : DKept => decide (z.seq ≤ c.acked))) hI (by omega) (decide_eq_true (by omega))⟩ (by show (S1.getD J.toNat default).replies.n - (i + 1) < (S1.getD J.toNat default).replies.n - i; omega)
   refine Mi (pc (pIo 112 J J.toNat S1.length (.tail _ (.head _))) (pc (pFk 114 J.toNat 4 1 hgL4 (.tail _ (.head _))) (pA 116 117 (i : Int) i (s := (S1.getD J.toNat default).replies) (fun w hk hr => (own_elt (hr _ (.tail _ (.tail _ (.head _)))) hnm1 (mem_of_getD (i := J.toNat) (by omega))))))) (J := ?_)
   refine M1 (J := ?_)
   refine Mal (α := DKept) 40 ([(⟨((S1.getD J.toNat default).replies.at i).seq, ⟨((S1.getD J.toNat default).replies.at i).reply.code, ((S1.getD J.toNat default).replies.at i).reply.n, ((S1.getD J.toNat default).replies.at i).reply.text⟩⟩ : DKept)]) (h63 := (by first | omega | (simp only [List.length_append, List.length_nil, List.length_cons]; omega))) (hb := (by first | omega | (simp only [List.length_append, List.length_nil, List.length_cons]; omega))) (J := ?_)
   intro A5 c5
   refine Mi (pR ((i : Int) + 1)) (J := ?_)
   exact on1 (⟨i + 1, A5, c5, L ++ [(⟨((S1.getD J.toNat default).replies.at i).seq, ⟨((S1.getD J.toNat default).replies.at i).reply.code, ((S1.getD J.toNat default).replies.at i).reply.n, ((S1.getD J.toNat default).replies.at i).reply.text⟩⟩ : DKept)]⟩ : Nat × Option Addr × Nat × List DKept) ⟨by omega, by first | exact filtS_in (s := (S1.getD J.toNat default).replies) (p := (fun z : DKept => decide (z.seq ≤ c.acked))) hI (by omega) (decide_eq_false (by omega)) | exact filtS_out (s := (S1.getD J.toNat default).replies) (p := (fun z : DKept => decide (z.seq ≤ c.acked))) hI (by omega) (decide_eq_true (by omega))⟩ (by show (S1.getD J.toNat default).replies.n - (i + 1) < (S1.getD J.toNat default).replies.n - i; omega)
 have hLX : L = (S1.getD J.toNat default).replies.xs.filter (fun z : DKept => !decide (z.seq ≤ c.acked)) := by rw [hI, take_all (by omega)]
 have hll : kLeft (S1.getD J.toNat default).abs c = L := (left_more hak).trans hLX.symm
 refine m_know (F := RowOk A c9 (L : List DKept)) (fun bs w hS => rowA_rok (hS.res _ (.head _))) fun hrowK => ?_
 have nchrowK := hrowK.2
 refine Mi (pIo 123 J J.toNat S1.length (.tail _ (.head _))) (J := ?_)
 refine m_f1 ?_
 refine Ms J.toNat 4 (⟨(S1.getD J.toNat default).client, (S1.getD J.toNat default).id, c.acked, n + 1, ⟨A, c9, L⟩⟩ : CSession) (by omega) (hg := hgL4) (J := ?_)
 intro L6 hL6 hlL6
 have hgL6 : L6.getD J.toNat default = (⟨(S1.getD J.toNat default).client, (S1.getD J.toNat default).id, c.acked, n + 1, ⟨A, c9, L⟩⟩ : CSession) := by rw [hL6]; exact getD_set (by omega)
 have hbL6 : L6 = List.set S1 J.toNat (⟨(S1.getD J.toNat default).client, (S1.getD J.toNat default).id, c.acked, n + 1, ⟨A, c9, L⟩⟩ : CSession) := by rw [hL6, hbL4, List.set_set]
 refine Mda 8 [] [] [rowA 118 A1 c1 (L6 : List CSession), rowA 141 A c9 (L : List DKept), ownL (keptR 141) S1] Tryz_mixed (J := ?_)
 refine Mih (pc (pIo 129 J J.toNat S1.length (.head _)) (pFk 131 J.toNat 2 1 hgL6 (.head _))) (J := ?_)
 refine Mz (J := ?_)
 refine Md (c.seq ≤ c.acked) (T := fun h11 => ?_) (F := fun h11 => ?_)
 · refine Mt [.slice A1 S1.length c1, .agg #[.int .i64 12, .int .i64 0, .string emp], .bool false, .int .i64 0] fun bs w hS => ?_
   clear on1
   have hv : ¬ rInv n c := by unfold rInv; simp only [inB, Bool.and_eq_true, Bool.and_eq_false_iff, decide_eq_true_eq, decide_eq_false_iff_not] at *; omega
   rw [← hF1]
   have ha := ans_old hak h11
   have hm := ready_one (c := c) hm1 hv (K := J.toNat) (by show ¬ mIdx _ _ < 0; rw [hJ]; omega) (by show (mIdx _ _).toNat = _; rw [hJ]) h7 (kSess_of hak hll) ha
   have hvx := setS_map hbL6
   refine ⟨⟨A1, c1, L6⟩, ?_, ?_, hS.outS (y := (⟨A1, c1, L6⟩ : Sl CSession)) (out_sessG (.head _) hS.res (fun x hx => ?_))⟩
   · have hll2 : S1.length = L6.length := by rw [hbL6, List.length_set]
     rw [hm]
     exact congrArg (fun q => Ending.returned (.tuple #[.slice A1 q c1, .agg #[.int .i64 12, .int .i64 0, .string emp], .bool false, .int .i64 0])) hll2
   · exact Eq.trans hvx (congrArg Prod.fst hm).symm
   · rw [hbL6] at hx
     rcases mem_set hx with hx | hx
     · subst hx; exact allR_row (.tail _ (.head _)) (hS.res _ (.tail _ (.head _))) (fun z hz => hnm1 _ (mem_of_getD (L := S1) (i := J.toNat) (by omega)) z (by rw [hLX] at hz; exact (List.mem_filter.1 hz).1))
     · exact own_in (.tail _ (.tail _ (.head _))) hS.res hnm1 hx
 refine Ml (σ := Nat) (fun j => j ≤ L.length ∧ ∀ i0, i0 < j → ¬ (L.getD i0 default).seq = c.seq) (fun j => L.length - j) (fun j => [rowA 118 A1 c1 (L6 : List CSession), rowA 141 A c9 (L : List DKept), ownL (keptR 141) S1]) [15, 13, 12, 11, 7, 5] (fun j => [(15, vI (j : Int))]) (fun _ => []) 0 ⟨Nat.zero_le _, fun i0 h0 => absurd h0 (Nat.not_lt_zero _)⟩ (B := ?_)
 rintro j ⟨hj0, hX⟩ _ on2
 refine Md ((j : Int) < (L.length : Int)) (T := fun h12 => ?_) (F := fun h12 => ?_)
 · refine Mda 8 [] [] [rowA 118 A1 c1 (L6 : List CSession), rowA 141 A c9 (L : List DKept), ownL (keptR 141) S1] Tryz_mixed (J := ?_)
   refine Mih (pc (pIo 143 (j : Int) j L.length (.tail _ (.head _))) (pFo 145 j 0 1 (.tail _ (.head _)))) (J := ?_)
   refine Mz (J := ?_)
   refine Md ((L.getD j default).seq = c.seq) (T := fun h13 => ?_) (F := fun h13 => ?_)
   rotate_left
   · refine Mi (pR ((j : Int) + 1)) (J := ?_)
     exact on2 (j + 1) ⟨by omega, fun i0 h0 => by rcases Nat.lt_succ_iff_lt_or_eq.1 h0 with h | h; exact hX i0 h; subst h; assumption⟩ (by show L.length - (j + 1) < L.length - j; omega)
   refine Mda 10 [] [1] [rowA 118 A1 c1 (L6 : List CSession), rowA 141 A c9 (L : List DKept), ownL (keptR 141) S1] Tryz_mixed (J := ?_)
   refine Mih (pc (pIo 152 (j : Int) j L.length (.tail _ (.head _))) (pFo 154 j 1 3 (.tail _ (.head _)))) (J := ?_)
   refine Mz (J := ?_)
   refine Mt [.slice A1 S1.length c1, .agg #[.int .i64 (L.getD j default).reply.code, .int .i64 (L.getD j default).reply.n, .string (L.getD j default).reply.text], .bool false, .int .i64 0] fun bs w hS => ?_
   clear on1 on2
   have hv : ¬ rInv n c := by unfold rInv; simp only [inB, Bool.and_eq_true, Bool.and_eq_false_iff, decide_eq_true_eq, decide_eq_false_iff_not] at *; omega
   rw [← hF1]
   have ha := ans_kept hak hll (idx_at (mIdxL_here (L := L) (p := fun z : DKept => decide (z.seq = c.seq)) (i := j) (by omega) (decide_eq_true h13) (fun i0 h0 => decide_eq_false (hX i0 h0)))) h11 (by omega)
   have hm := ready_one (c := c) hm1 hv (K := J.toNat) (by show ¬ mIdx _ _ < 0; rw [hJ]; omega) (by show (mIdx _ _).toNat = _; rw [hJ]) h7 (kSess_of hak hll) ha
   have hvx := setS_map hbL6
   refine ⟨⟨A1, c1, L6⟩, ?_, ?_, hS.outS (y := (⟨A1, c1, L6⟩ : Sl CSession)) (out_sessG (.head _) hS.res (fun x hx => ?_))⟩
   · have hll2 : S1.length = L6.length := by rw [hbL6, List.length_set]
     rw [hm]
     exact congrArg (fun q => Ending.returned (.tuple #[.slice A1 q c1, .agg #[.int .i64 (L.getD j default).reply.code, .int .i64 (L.getD j default).reply.n, .string (L.getD j default).reply.text], .bool false, .int .i64 0])) hll2
   · exact Eq.trans hvx (congrArg Prod.fst hm).symm
   · rw [hbL6] at hx
     rcases mem_set hx with hx | hx
     · subst hx; exact allR_row (.tail _ (.head _)) (hS.res _ (.tail _ (.head _))) (fun z hz => hnm1 _ (mem_of_getD (L := S1) (i := J.toNat) (by omega)) z (by rw [hLX] at hz; exact (List.mem_filter.1 hz).1))
     · exact own_in (.tail _ (.tail _ (.head _))) hS.res hnm1 hx
 refine Mda 9 [] [] [rowA 118 A1 c1 (L6 : List CSession), rowA 141 A c9 (L : List DKept), ownL (keptR 141) S1] Tryz_mixed (J := ?_)
 refine Mih (pc (pIo 159 J J.toNat S1.length (.head _)) (pc (pFk 161 J.toNat 2 1 hgL6 (.head _)) (pR (c.acked + 4)))) (J := ?_)
 refine Mz (J := ?_)
 refine Md (c.acked + 4 < c.seq) (T := fun h14 => ?_) (F := fun h14 => ?_)
 rotate_left
 · refine Mt [.slice A1 S1.length c1, .agg #[.int .i64 0, .int .i64 0, .string emp], .bool true, .int .i64 0] fun bs w hS => ?_
   clear on1 on2
   have hv : ¬ rInv n c := by unfold rInv; simp only [inB, Bool.and_eq_true, Bool.and_eq_false_iff, decide_eq_true_eq, decide_eq_false_iff_not] at *; omega
   rw [← hF1]
   have ha := ans_new hak hll (idx_at (mIdxL_none (L := L) (p := fun z : DKept => decide (z.seq = c.seq)) fun i0 h0 => decide_eq_false (hX i0 (by omega)))) h11 (by omega) h14
   have hm := ready_one (c := c) hm1 hv (K := J.toNat) (by show ¬ mIdx _ _ < 0; rw [hJ]; omega) (by show (mIdx _ _).toNat = _; rw [hJ]) h7 (kSess_of hak hll) ha
   have hvx := setS_map hbL6
   refine ⟨⟨A1, c1, L6⟩, ?_, ?_, hS.outS (y := (⟨A1, c1, L6⟩ : Sl CSession)) (out_sessG (.head _) hS.res (fun x hx => ?_))⟩
   · have hll2 : S1.length = L6.length := by rw [hbL6, List.length_set]
     rw [hm]
     exact congrArg (fun q => Ending.returned (.tuple #[.slice A1 q c1, .agg #[.int .i64 0, .int .i64 0, .string emp], .bool true, .int .i64 0])) hll2
   · exact Eq.trans hvx (congrArg Prod.fst hm).symm
   · rw [hbL6] at hx
     rcases mem_set hx with hx | hx
     · subst hx; exact allR_row (.tail _ (.head _)) (hS.res _ (.tail _ (.head _))) (fun z hz => hnm1 _ (mem_of_getD (L := S1) (i := J.toNat) (by omega)) z (by rw [hLX] at hz; exact (List.mem_filter.1 hz).1))
     · exact own_in (.tail _ (.tail _ (.head _))) hS.res hnm1 hx
 refine Mt [.slice A1 S1.length c1, .agg #[.int .i64 2, .int .i64 0, .string emp], .bool false, .int .i64 0] fun bs w hS => ?_
 clear on1 on2
 have hv : ¬ rInv n c := by unfold rInv; simp only [inB, Bool.and_eq_true, Bool.and_eq_false_iff, decide_eq_true_eq, decide_eq_false_iff_not] at *; omega
 rw [← hF1]
 have ha := ans_far hak hll (idx_at (mIdxL_none (L := L) (p := fun z : DKept => decide (z.seq = c.seq)) fun i0 h0 => decide_eq_false (hX i0 (by omega)))) h11 (by omega) h14
 have hm := ready_one (c := c) hm1 hv (K := J.toNat) (by show ¬ mIdx _ _ < 0; rw [hJ]; omega) (by show (mIdx _ _).toNat = _; rw [hJ]) h7 (kSess_of hak hll) ha
 have hvx := setS_map hbL6
 refine ⟨⟨A1, c1, L6⟩, ?_, ?_, hS.outS (y := (⟨A1, c1, L6⟩ : Sl CSession)) (out_sessG (.head _) hS.res (fun x hx => ?_))⟩
 · have hll2 : S1.length = L6.length := by rw [hbL6, List.length_set]
   rw [hm]
   exact congrArg (fun q => Ending.returned (.tuple #[.slice A1 q c1, .agg #[.int .i64 2, .int .i64 0, .string emp], .bool false, .int .i64 0])) hll2
 · exact Eq.trans hvx (congrArg Prod.fst hm).symm
 · rw [hbL6] at hx
   rcases mem_set hx with hx | hx
   · subst hx; exact allR_row (.tail _ (.head _)) (hS.res _ (.tail _ (.head _))) (fun z hz => hnm1 _ (mem_of_getD (L := S1) (i := J.toNat) (by omega)) z (by rw [hLX] at hz; exact (List.mem_filter.1 hz).1))
   · exact own_in (.tail _ (.tail _ (.head _))) hS.res hnm1 hx

theorem same_texts {B B' : Nat → Prop} (a b : Sl ByteArray) (w : World) (ha : a.rd B w) (hb : b.rd B' w) (he : a.xs = b.xs) : Calls Tryz.prog 61 #[.slice a.A a.n a.c, .slice b.A b.n b.c] w fun e w' => e = .returned (.bool true) ∧ Kp [] w w' := by
 have oka := Sl.rd.ok ha
 have okb := Sl.rd.ok hb
 have hn := xs_n he
 have nca := Sl.ok.nc oka
 refine M0 Tryz.func61 (J := ?_)
 refine Mdn ((a.n : Int) = (b.n : Int)) (T := fun h1 => ?_) (F := fun h1 => ?_)
 rotate_left
 · exfalso; first | omega | exact h1 (xs_at he i)
 refine Ml (σ := Nat) (fun i => True) (fun i => a.n - i) (fun _ => []) [5, 0, 1] (fun i => [(5, vI (i : Int))]) (fun _ => []) 0 trivial (B := ?_)
 rintro i _ _ on1
 have hat := xs_at he i
 refine Md ((i : Int) < (a.n : Int)) (T := fun h2 => ?_) (F := fun h2 => ?_)
 rotate_left
 · exact Mt [.bool true] fun bs w hS => ⟨rfl, hS.kp⟩
 refine Mda 9 [] [] [] Tryz_mixed (J := ?_)
 refine Mih (pc (pA 19 20 (i : Int) i (rdk ha)) (pA 23 24 (i : Int) i (rdk hb))) (J := ?_)
 refine Mdn ((a.at i) = (b.at i)) (T := fun h3 => ?_) (F := fun h3 => ?_)
 rotate_left
 · exfalso; first | omega | exact h3 (xs_at he i)
 refine Mi (pR ((i : Int) + 1)) (J := ?_)
 exact on1 (i + 1) trivial (by omega)

theorem cloneS_ByteArray (A : Option Addr) (n c : Nat) (L : List ByteArray) (w : World) (hl : L.length = n) (hsrc : SrcAt w A n (L.flatMap Lay.cells)) (hb : n ≤ 1048576) : Calls Tryz.prog 157 #[.slice A n c] w fun e w' => ∃ y : Sl ByteArray, e = .returned y.val ∧ y.xs = L ∧ Kp [] w w' ∧ Fresh w w' (rowA 9 y.A y.c y.xs) := by
 refine M0 Tryz.func157 (J := ?_)
 refine Mi (pG [(4, .val (.bool A.isNone))] (oc ((eq_nil Tryz.underlying35) : ∀ w, (do eqGuard .eql 35 (.tmp 3) (.const (.slice none 0 0)) (.slice A n c) (.slice none 0 0); binOp .eql 35 (.slice A n c) (.slice none 0 0) : Sem Value).run Tryz.prog w = .ok (.bool A.isNone) w) on)) (J := ?_)
 refine Mb (A.isNone) (T := fun h1 => ?_) (F := fun h1 => ?_)
 · refine Mt [.slice none 0 0] fun bs w hS => ?_
   have hnil : L = [] := by cases hA : A with | none => rw [hA] at hsrc; have h0 : n = 0 := hsrc; exact List.eq_nil_of_length_eq_zero (by omega) | some a => rw [hA] at h1; cases h1
   exact ⟨Sl.nil, rfl, hnil.symm, hS.kp, rowA_nil 9 w⟩
 refine Mlz (α := ByteArray) (e := 9) (J := ?_)
 intro A1
 refine Ma (α := ByteArray) (L2 := L) 16 (fun bs w hS => (SrcAt.kp hsrc hS.kp)) (h63 := (by simp only [List.length_nil]; omega)) (hb := (by simp only [List.length_nil]; omega)) (hn2 := hl) (J := ?_)
 intro A2 c2
 exact Mt [.slice A2 ([] ++ L).length c2] fun bs w hS => ⟨⟨A2, c2, [] ++ L⟩, rfl, by simp, hS.kp, hS.out1⟩
theorem clone_ByteArray {B : Nat → Prop} (s : Sl ByteArray) (w : World) (hs : s.rd B w) (hb : s.n ≤ 1048576) : Calls Tryz.prog 157 #[.slice s.A s.n s.c] w fun e w' => ∃ y : Sl ByteArray, e = .returned y.val ∧ y.xs = s.xs ∧ Kp [] w w' ∧ Fresh w w' (rowA 9 y.A y.c y.xs) := cloneS_ByteArray s.A s.n s.c s.xs w rfl hs.src hb

theorem same_log {B B' : Nat → Prop} (a b : CLog) (w : World) (ha : Rds.sub B w a) (hb : Rds.sub B' w b) (he : a.abs = b.abs) : Calls Tryz.prog 53 #[.agg #[.int .i64 a.base, .slice a.entries.A a.entries.n a.entries.c], .agg #[.int .i64 b.base, .slice b.entries.A b.entries.n b.entries.c]] w fun e w' => e = .returned (.bool true) ∧ Kp [] w w' := by
 have oka := Rds.okof ha
 have okb := Rds.okof hb
 refine M0 Tryz.func53 (J := ?_)
 refine Md (a.base = b.base) (T := fun h1 => ?_) (F := fun h1 => ?_)
 rotate_left
 · exact absurd (congrArg (fun q => q.base) he) h1
 refine Mp (vs := fun bs => [.slice a.entries.A a.entries.n a.entries.c, .slice b.entries.A b.entries.n b.entries.c]) Tryz.call61 (fun bs w hS => same_texts _ _ w (Rds.kp ha hS.kp) (Rds.kp hb hS.kp) (congrArg DLog.entries he)) (J := ?_)
 exact Mt [.bool true] fun bs w hS => ⟨rfl, hS.kp⟩

theorem codec_Seal (s : ByteArray) (w : World) (hs : s.size ≤ 9223372036854775807) : Calls Tryz.prog 198 #[.string s] w fun e w' => e = .returned (.string (mSeal s)) ∧ Kp [] w w' := by
 refine M0 Tryz.func198 (J := ?_)
 refine Ml (σ := Nat) (fun k => k ≤ s.size) (fun k => s.size - k) (fun _ => []) [8, 7, 4, 3, 0] (fun k => [(8, vI (k : Int)), (4, vI (sealTo s k).2), (3, vI (sealTo s k).1)]) (fun _ => []) 0 (Nat.zero_le _) (B := ?_)
 rintro k hk _ on1
 have hb := sealTo_bd s k
 have hu := (s.data.getD k 0).toNat_lt
 refine Md ((k : Int) < (s.size : Int)) (T := fun h1 => ?_) (F := fun h1 => ?_)
 rotate_left
 · refine Mi (pc (pP ((0 : Int) ≤ 8)) (pc (pP (8 ≤ (64 : Int))) (pc (pP ((0 : Int) ≤ 8)) (pP (8 ≤ (64 : Int)))))) (J := ?_)
   refine M1 (J := ?_)
   refine Mstl (eS := 5) [((sealTo s k).2 / 2 ^ (8 : Int).toNat) % 256, (sealTo s k).2 % 256, ((sealTo s k).1 / 2 ^ (8 : Int).toNat) % 256, (sealTo s k).1 % 256] (J := ?_)
   refine Mt [.string (bstr ([((sealTo s k).2 / 2 ^ (8 : Int).toNat) % 256, (sealTo s k).2 % 256, ((sealTo s k).1 / 2 ^ (8 : Int).toNat) % 256, (sealTo s k).1 % 256]))] fun bs w hS => ?_
   refine ⟨?_, hS.kp⟩
   have e : k = s.size := by omega
   subst e
   simp [retOf, den, mSeal]
 refine Mi (pc (pG [(14, .sidx k)] (oc (rfl : (k : Int) = (k : Int)) (oc ((by omega) : k < s.size) on))) (pc (pP (0 ≤ ((s.data.getD k 0).toNat : Int))) (pc (pP (((s.data.getD k 0).toNat : Int) ≤ 255)) (pc (pR ((sealTo s k).1 + ((s.data.getD k 0).toNat : Int))) (pc (pP (0 ≤ (sealTo s k).1 + ((s.data.getD k 0).toNat : Int))) (pc (pP ((0 : Int) < 65521)) (pc (pR ((sealTo s k).2 + (((sealTo s k).1 + ((s.data.getD k 0).toNat : Int)) % 65521))) (pc (pP (0 ≤ (sealTo s k).2 + (((sealTo s k).1 + ((s.data.getD k 0).toNat : Int)) % 65521))) (pc (pP ((0 : Int) < 65521)) (pR ((k : Int) + 1))))))))))) (J := ?_)
 exact on1 (k + 1) (by omega) (by omega)

theorem ref_SealOf (s : ByteArray) (w : World) (hs : s.size ≤ 9223372036854775807) : Calls Tryz.prog 158 #[.string s] w fun e w' => e = .returned (.string (mSeal s)) ∧ Kp [] w w' := by
 refine M0 Tryz.func158 (J := ?_)
 refine Ml (σ := Nat) (fun k => k ≤ s.size) (fun k => s.size - k) (fun _ => []) [5, 4, 3, 0] (fun k => [(5, vI (k : Int)), (4, vI (sealTo s k).2), (3, vI (sealTo s k).1)]) (fun _ => []) 0 (Nat.zero_le _) (B := ?_)
 rintro k hk _ on1
 have hb := sealTo_bd s k
 have hu := (s.data.getD k 0).toNat_lt
 refine Md ((k : Int) < (s.size : Int)) (T := fun h1 => ?_) (F := fun h1 => ?_)
 · refine Mi (pc (pG [(15, .sidx k)] (oc (rfl : (k : Int) = (k : Int)) (oc ((by omega) : k < s.size) on))) (pc (pP (0 ≤ ((s.data.getD k 0).toNat : Int))) (pc (pP (((s.data.getD k 0).toNat : Int) ≤ 255)) (pc (pR ((sealTo s k).1 + ((s.data.getD k 0).toNat : Int))) (pc (pP (0 ≤ (sealTo s k).1 + ((s.data.getD k 0).toNat : Int))) (pc (pP ((0 : Int) < 65521)) (pc (pR ((sealTo s k).2 + (((sealTo s k).1 + ((s.data.getD k 0).toNat : Int)) % 65521))) (pc (pP (0 ≤ (sealTo s k).2 + (((sealTo s k).1 + ((s.data.getD k 0).toNat : Int)) % 65521))) (pc (pP ((0 : Int) < 65521)) (pR ((k : Int) + 1))))))))))) (J := ?_)
   exact on1 (k + 1) (by omega) (by omega)
 refine Mi (pc (pP (0 ≤ (sealTo s k).2)) (pc (pP ((sealTo s k).2 ≤ 9223372036854775807)) (pc (pP ((0 : Int) < 256)) (pc (pP (0 ≤ (sealTo s k).2)) (pc (pP ((0 : Int) < 256)) (pc (pP (0 ≤ (sealTo s k).1)) (pc (pP ((sealTo s k).1 ≤ 9223372036854775807)) (pc (pP ((0 : Int) < 256)) (pc (pP (0 ≤ (sealTo s k).1)) (pP ((0 : Int) < 256))))))))))) (J := ?_)
 refine M1 (J := ?_)
 refine Mstl (eS := 5) [((sealTo s k).2 / 256) % 256, ((sealTo s k).2 % 256) % 256, ((sealTo s k).1 / 256) % 256, ((sealTo s k).1 % 256) % 256] (J := ?_)
 refine Mt [.string (bstr ([((sealTo s k).2 / 256) % 256, ((sealTo s k).2 % 256) % 256, ((sealTo s k).1 / 256) % 256, ((sealTo s k).1 % 256) % 256]))] fun bs w hS => ?_
 refine ⟨?_, hS.kp⟩
 have e : k = s.size := by omega
 subst e
 simp [retOf, den, mSeal]

theorem insR_Session (A : Option Addr) (c : Nat) (L : List CSession) (i : Nat) (ii : Int) (x : CSession) (vb tv : Nat) (w : World) (hrow : (rowA 118 A c L).p w) (hlt : ∀ b, b ∈ (rowA 118 A c L).fp → b < w.heap.size) (ei : ii = (i : Int)) (hi : i ≤ L.length) (hn : L.length ≤ 1048575) (hv : (blkR vb tv (Lay.cells x)).p w) (hvn : vb ∉ (rowA 118 A c L).fp) :
    Calls Tryz.prog 77 #[.slice A L.length c, .int .i64 ii, .slice (some (⟨vb, 0, none⟩ : Addr)) 1 1] w fun e w' => ∃ y : Option Addr × Nat, e = .returned (.slice y.1 (L.take i ++ [x] ++ L.drop i).length y.2) ∧ Turned (rowA 118 A c L) w w' (rowA 118 y.1 y.2 (L.take i ++ [x] ++ L.drop i)) := by
 subst ei
 have hrok := rowA_rok hrow
 have nc := hrok.2
 have hvk : ∀ w', Kp (rowA 118 A c L).fp w w' → (blkR vb tv (Lay.cells x)).p w' := fun w' hk => blkR_kpn hv hk hvn
 have hvs : ∀ w', Kp (rowA 118 A c L).fp w w' → SrcAt w' (some (⟨vb, 0, none⟩ : Addr)) 1 ([x].flatMap Lay.cells) := fun w' hk => blkR_src1 (hvk w' hk)
 refine Mj Tryz.func77 (WS.start1 w _ hrow (by cases A <;> simp [rowA, rowR]) hlt) (J := ?_)
 refine Mi (pG [(12, .sl i L.length)] (oc (rfl : (i : Int) = (i : Int)) (oc (rfl : L.length = L.length) (oc ((by omega) : i ≤ L.length) on)))) (J := ?_)
 refine Mq 16 false rfl (J := ?_)
 refine Md ((i : Int) = (L.length : Int)) (T := fun h1 => ?_) (F := fun h1 => ?_)
 · refine Ma (α := CSession) (L2 := [x]) 56 (fun bs w hS => hvs w hS.kp) (h63 := by show L.length + 1 ≤ _; omega) (hb := by show (L.length + 1) * _ ≤ _; omega) (J := ?_)
   intro A1 c1
   refine Mt [.slice A1 (L ++ [x]).length c1] fun bs w hS => ?_
   have hid : i = L.length := by omega
   subst hid
   rw [List.take_length, List.drop_length, List.append_nil]
   exact ⟨(A1, c1), rfl, hS.turned⟩
 refine Mi (pR ((L.length : Int) + 1)) (J := ?_)
 refine Md ((c : Int) < (L.length : Int) + 1) (T := fun h2 => ?_) (F := fun h2 => ?_)
 · refine Mi (pc (pG [(34, .sl 0 i)] (oc (rfl : 0 = 0) (oc (rfl : (i : Int) = (i : Int)) (oc ((by omega) : i ≤ c) on)))) (pc (pR ((L.length : Int) + 1)) (pR (((L.length : Int) + 1) - (i : Int))))) (J := ?_)
   refine Mapz (α := CSession) 24 3 56 i (L.length + 1 - i) (((L.length : Int) + 1) - (i : Int)) (by omega) (by omega) hi (by omega) (by omega) (by omega) (J := ?_)
   intro g2 c2 zs hc2 hc2m hlen0
   refine Mi (pG [(43, .sl i (i + (L.length + 1 - i)))] (oc (rfl : (i : Int) = (i : Int)) (oc (rfl : i + (L.length + 1 - i) = i + (L.length + 1 - i)) (oc ((by omega) : i ≤ i + (L.length + 1 - i)) on)))) (J := ?_)
   refine Mcp (A1 := (if c2 = i then (some (⟨g2, 0, none⟩ : Addr)) else (some (⟨g2, 0, none⟩ : Addr)).map (·.add (i * 5)))) (A2 := (some (⟨vb, 0, none⟩ : Addr))) (n1 := (i + (L.length + 1 - i)) - i) (k := 1) (q := 1) (vs := [x].flatMap Lay.cells) 56 (i * Lay.size CSession) (by rw [if_neg (by omega)]; show some (Addr.add _ (i * 5)) = _; rw [addr_at]; rfl) (by simp only [Nat.min_def]; split <;> omega) (fun bs w hS => hvs w hS.kp) (by rw [one_len, Nat.one_mul]) (flat_one _) (by rw [one_len]; rw [hlen0]; have h9 := ins_fit (L := L) hi (by omega : L.length + 1 ≤ c2); omega) (J := ?_)
   refine Mda 8 [] [] [rawR 118 (Lay.size CSession) g2 c2 (setAt ((L.take i).flatMap Lay.cells ++ zs) (i * Lay.size CSession) ([x].flatMap Lay.cells)), rowA 118 A c (L : List CSession)] Tryz_mixed (J := ?_)
   refine Mih (pc (pR ((i : Int) + 1)) (pc (pG [(50, .sl (i + 1) (i + (L.length + 1 - i)))] (oc ((by omega) : (i : Int) + 1 = (((i + 1) : Nat) : Int)) (oc (rfl : i + (L.length + 1 - i) = i + (L.length + 1 - i)) (oc ((by omega) : (i + 1) ≤ i + (L.length + 1 - i)) on)))) (pG [(53, .sl i L.length)] (oc (rfl : (i : Int) = (i : Int)) (oc (rfl : L.length = L.length) (oc ((by omega) : i ≤ L.length) on)))))) (J := ?_)
   refine Mz (J := ?_)
   refine Mcp (A1 := (if c2 = (i + 1) then (some (⟨g2, 0, none⟩ : Addr)) else (some (⟨g2, 0, none⟩ : Addr)).map (·.add ((i + 1) * 5)))) (A2 := (if c = i then A else A.map (·.add (i * 5)))) (n1 := (i + (L.length + 1 - i)) - (i + 1)) (k := L.length - i) (q := (L.length - i)) (vs := (L.drop i).flatMap Lay.cells) 56 (i * Lay.size CSession + Lay.size CSession) (by rw [if_neg (by omega)]; show some (Addr.add _ ((i + 1) * 5)) = _; rw [addr_at, Nat.succ_mul]; rfl) (by simp only [Nat.min_def]; split <;> omega) (fun bs w hS => rowA_srcDrop (hS.res _ (.tail _ (.head _))) hi) (drop_len L i) (flat_one _) (by rw [setAt_len (by rw [one_len, hlen0]; have h9 := ins_fit (L := L) hi (by omega : L.length + 1 ≤ c2); omega), hlen0]; exact ins_fit hi (by omega)) (J := ?_)
   refine Mt [.slice (some (⟨g2, 0, none⟩ : Addr)) (i + (L.length + 1 - i)) c2] fun bs w hS => ?_
   have hlen : (L.take i ++ [x] ++ L.drop i).length = L.length + 1 := by simp only [List.length_append, List.length_take, List.length_drop, List.length_cons, List.length_nil]; omega
   have hS2 := hS.weak (rowA 118 (some (⟨g2, 0, none⟩ : Addr)) c2 (L.take i ++ [x] ++ L.drop i)) (List.Sublist.refl _) (fun h => ins_row1 hi (by omega) hlen0 h)
   refine ⟨(some ⟨g2, 0, none⟩, c2), ?_, hS2.turned⟩
   exact congrArg (fun q => Ending.returned (Value.slice (some (⟨g2, 0, none⟩ : Addr)) q c2)) (show i + (L.length + 1 - i) = (L.take i ++ [x] ++ L.drop i).length by rw [hlen]; omega)
 refine m_raw (α := CSession) (by omega) ?_
 intro g zs hA hLc hlen0
 have hvg : vb ≠ g := fun e0 => hvn (by rw [hA]; simp [rowA, rowR, e0])
 refine Mi (pc (pR ((L.length : Int) + 1)) (pc (pG [(60, .sl 0 (L.length + 1))] (oc (rfl : 0 = 0) (oc ((by omega) : (L.length : Int) + 1 = (((L.length + 1) : Nat) : Int)) (oc ((by omega) : (L.length + 1) ≤ c) on)))) (pc (pR ((i : Int) + 1)) (pG [(66, .sl (i + 1) (L.length + 1))] (oc ((by omega) : (i : Int) + 1 = (((i + 1) : Nat) : Int)) (oc (rfl : (L.length + 1) = (L.length + 1)) (oc ((by omega) : (i + 1) ≤ (L.length + 1)) on))))))) (J := ?_)
 refine Mx (vs := fun _ => [.slice (some (⟨vb, 0, none⟩ : Addr)) 1 1, .slice (if c = (i + 1) then A else A.map (·.add ((i + 1) * 5))) ((L.length + 1) - (i + 1)) (c - (i + 1))]) (v := .bool false) (fun bs w hS => by show (callFunc 143 #[.slice (some (⟨vb, 0, none⟩ : Addr)) 1 1, .slice (if c = (i + 1) then A else A.map (·.add ((i + 1) * 5))) ((L.length + 1) - (i + 1)) (c - (i + 1))]).run Tryz.prog w = _; rw [(show (if c = (i + 1) then A else A.map (·.add ((i + 1) * 5))) = some ⟨g, i * Lay.size CSession + Lay.size CSession, none⟩ from (by rw [if_neg (by omega), hA]; show some (Addr.add _ ((i + 1) * 5)) = _; rw [addr_at, Nat.succ_mul]; rfl)), run_callFunc_extern Tryz.func143 (by kernel_rfl) (by kernel_rfl) (by kernel_rfl) (e := Extern.SlicesOverlaps.overlaps #[24, 24] #[4]) (by kernel_rfl)]; show ((Extern.SlicesOverlaps.overlaps #[24, 24] #[4] #[.slice (some (⟨vb, 0, none⟩ : Addr)) 1 1, .slice (some _) _ _]).run _ w).andThen _ = _; rw [Go.Lib.run_overlaps_apart w 24 4 118 Tryz.underlying24 _ (fun w => sizeOf_run _ _ w (by kernel_rfl)) ⟨vb, 0, none⟩ ⟨g, i * Lay.size CSession + Lay.size CSession, none⟩ 1 1 _ _ hvg _ _ _ _ (blkR_shape (hvk w hS.kp)) (rawR_shape (hS.res _ (.head _))) (by rw [hlen0]; exact Nat.mul_ne_zero (by omega) (Nat.ne_of_gt Lay.pos)) (blkR_thaw (hvk w hS.kp) 0) (blkR_thaw (hvk w hS.kp) _)]; rfl) (J := ?_)
 refine Mq 68 true rfl (J := ?_)
 refine Mda 8 [] [] [rawR 118 (Lay.size CSession) g c (L.flatMap Lay.cells ++ zs)] Tryz_mixed (J := ?_)
 refine Mih (pc (pR ((i : Int) + 1)) (pc (pG [(73, .sl (i + 1) (L.length + 1))] (oc ((by omega) : (i : Int) + 1 = (((i + 1) : Nat) : Int)) (oc (rfl : (L.length + 1) = (L.length + 1)) (oc ((by omega) : (i + 1) ≤ (L.length + 1)) on)))) (pG [(76, .sl i (L.length + 1))] (oc (rfl : (i : Int) = (i : Int)) (oc (rfl : (L.length + 1) = (L.length + 1)) (oc ((by omega) : i ≤ (L.length + 1)) on)))))) (J := ?_)
 refine Mz (J := ?_)
 refine Mcp (A1 := (if c = (i + 1) then A else A.map (·.add ((i + 1) * 5)))) (A2 := (if c = i then A else A.map (·.add (i * 5)))) (n1 := (L.length + 1) - (i + 1)) (k := (L.length + 1) - i) (q := (L.length - i)) (vs := (L.drop i).flatMap Lay.cells) 56 (i * Lay.size CSession + Lay.size CSession) (by rw [if_neg (by omega), hA]; show some (Addr.add _ ((i + 1) * 5)) = _; rw [addr_at, Nat.succ_mul]; rfl) (by simp only [Nat.min_def]; split <;> omega) (fun bs w hS => by rw [show (if c = i then A else A.map (·.add (i * 5))) = some ⟨g, i * Lay.size CSession, none⟩ from (by rw [if_neg (by omega), hA]; show some (Addr.add _ (i * 5)) = _; rw [addr_at]; rfl)]; exact raw_srcDrop hi (hS.res _ (.head _))) (drop_len L i) (flat_one _) (by rw [hlen0]; exact ins_fit hi (by omega)) (J := ?_)
 refine Mi (pG [(80, .sl i (L.length + 1))] (oc (rfl : (i : Int) = (i : Int)) (oc (rfl : (L.length + 1) = (L.length + 1)) (oc ((by omega) : i ≤ (L.length + 1)) on)))) (J := ?_)
 refine Mcp (A1 := (if c = i then A else A.map (·.add (i * 5)))) (A2 := (some (⟨vb, 0, none⟩ : Addr))) (n1 := (L.length + 1) - i) (k := 1) (q := 1) (vs := [x].flatMap Lay.cells) 56 (i * Lay.size CSession) (by rw [if_neg (by omega), hA]; show some (Addr.add _ (i * 5)) = _; rw [addr_at]; rfl) (by simp only [Nat.min_def]; split <;> omega) (fun bs w hS => hvs w hS.kp) (by rw [one_len, Nat.one_mul]) (flat_one _) (by rw [one_len]; rw [setAt_len (by rw [hlen0]; exact ins_fit hi (by omega)), hlen0]; have h9 := ins_fit (L := L) hi (by omega : L.length + 1 ≤ c); omega) (J := ?_)
 refine Mt [.slice A (L.length + 1) c] fun bs w hS => ?_
 have hlen : (L.take i ++ [x] ++ L.drop i).length = L.length + 1 := by simp only [List.length_append, List.length_take, List.length_drop, List.length_cons, List.length_nil]; omega
 have hS2 := hS.weak (rowA 118 (some ⟨g, 0, none⟩) c (L.take i ++ [x] ++ L.drop i)) (List.Sublist.refl _) (fun h => ins_row2 hi (by omega) hlen0 h)
 refine ⟨(some ⟨g, 0, none⟩, c), ?_, hS2.turned⟩
 subst hA
 exact congrArg (fun q => Ending.returned (Value.slice (some (⟨g, 0, none⟩ : Addr)) q c)) (show L.length + 1 = (L.take i ++ [x] ++ L.drop i).length by rw [hlen])

theorem insR_Kept (A : Option Addr) (c : Nat) (L : List DKept) (i : Nat) (ii : Int) (x : DKept) (vb tv : Nat) (w : World) (hrow : (rowA 141 A c L).p w) (hlt : ∀ b, b ∈ (rowA 141 A c L).fp → b < w.heap.size) (ei : ii = (i : Int)) (hi : i ≤ L.length) (hn : L.length ≤ 1048575) (hv : (blkR vb tv (Lay.cells x)).p w) (hvn : vb ∉ (rowA 141 A c L).fp) :
    Calls Tryz.prog 90 #[.slice A L.length c, .int .i64 ii, .slice (some (⟨vb, 0, none⟩ : Addr)) 1 1] w fun e w' => ∃ y : Option Addr × Nat, e = .returned (.slice y.1 (L.take i ++ [x] ++ L.drop i).length y.2) ∧ Turned (rowA 141 A c L) w w' (rowA 141 y.1 y.2 (L.take i ++ [x] ++ L.drop i)) := by
 subst ei
 have hrok := rowA_rok hrow
 have nc := hrok.2
 have hvk : ∀ w', Kp (rowA 141 A c L).fp w w' → (blkR vb tv (Lay.cells x)).p w' := fun w' hk => blkR_kpn hv hk hvn
 have hvs : ∀ w', Kp (rowA 141 A c L).fp w w' → SrcAt w' (some (⟨vb, 0, none⟩ : Addr)) 1 ([x].flatMap Lay.cells) := fun w' hk => blkR_src1 (hvk w' hk)
 refine Mj Tryz.func90 (WS.start1 w _ hrow (by cases A <;> simp [rowA, rowR]) hlt) (J := ?_)
 refine Mi (pG [(12, .sl i L.length)] (oc (rfl : (i : Int) = (i : Int)) (oc (rfl : L.length = L.length) (oc ((by omega) : i ≤ L.length) on)))) (J := ?_)
 refine Mq 16 false rfl (J := ?_)
 refine Md ((i : Int) = (L.length : Int)) (T := fun h1 => ?_) (F := fun h1 => ?_)
 · refine Ma (α := DKept) (L2 := [x]) 40 (fun bs w hS => hvs w hS.kp) (h63 := by show L.length + 1 ≤ _; omega) (hb := by show (L.length + 1) * _ ≤ _; omega) (J := ?_)
   intro A1 c1
   refine Mt [.slice A1 (L ++ [x]).length c1] fun bs w hS => ?_
   have hid : i = L.length := by omega
   subst hid
   rw [List.take_length, List.drop_length, List.append_nil]
   exact ⟨(A1, c1), rfl, hS.turned⟩
 refine Mi (pR ((L.length : Int) + 1)) (J := ?_)
 refine Md ((c : Int) < (L.length : Int) + 1) (T := fun h2 => ?_) (F := fun h2 => ?_)
 · refine Mi (pc (pG [(34, .sl 0 i)] (oc (rfl : 0 = 0) (oc (rfl : (i : Int) = (i : Int)) (oc ((by omega) : i ≤ c) on)))) (pc (pR ((L.length : Int) + 1)) (pR (((L.length : Int) + 1) - (i : Int))))) (J := ?_)
   refine Mapz (α := DKept) 116 3 40 i (L.length + 1 - i) (((L.length : Int) + 1) - (i : Int)) (by omega) (by omega) hi (by omega) (by omega) (by omega) (J := ?_)
   intro g2 c2 zs hc2 hc2m hlen0
   refine Mi (pG [(43, .sl i (i + (L.length + 1 - i)))] (oc (rfl : (i : Int) = (i : Int)) (oc (rfl : i + (L.length + 1 - i) = i + (L.length + 1 - i)) (oc ((by omega) : i ≤ i + (L.length + 1 - i)) on)))) (J := ?_)
   refine Mcp (A1 := (if c2 = i then (some (⟨g2, 0, none⟩ : Addr)) else (some (⟨g2, 0, none⟩ : Addr)).map (·.add (i * 4)))) (A2 := (some (⟨vb, 0, none⟩ : Addr))) (n1 := (i + (L.length + 1 - i)) - i) (k := 1) (q := 1) (vs := [x].flatMap Lay.cells) 40 (i * Lay.size DKept) (by rw [if_neg (by omega)]; show some (Addr.add _ (i * 4)) = _; rw [addr_at]; rfl) (by simp only [Nat.min_def]; split <;> omega) (fun bs w hS => hvs w hS.kp) (by rw [one_len, Nat.one_mul]) (flat_one _) (by rw [one_len]; rw [hlen0]; have h9 := ins_fit (L := L) hi (by omega : L.length + 1 ≤ c2); omega) (J := ?_)
   refine Mda 8 [] [] [rawR 141 (Lay.size DKept) g2 c2 (setAt ((L.take i).flatMap Lay.cells ++ zs) (i * Lay.size DKept) ([x].flatMap Lay.cells)), rowA 141 A c (L : List DKept)] Tryz_mixed (J := ?_)
   refine Mih (pc (pR ((i : Int) + 1)) (pc (pG [(50, .sl (i + 1) (i + (L.length + 1 - i)))] (oc ((by omega) : (i : Int) + 1 = (((i + 1) : Nat) : Int)) (oc (rfl : i + (L.length + 1 - i) = i + (L.length + 1 - i)) (oc ((by omega) : (i + 1) ≤ i + (L.length + 1 - i)) on)))) (pG [(53, .sl i L.length)] (oc (rfl : (i : Int) = (i : Int)) (oc (rfl : L.length = L.length) (oc ((by omega) : i ≤ L.length) on)))))) (J := ?_)
   refine Mz (J := ?_)
   refine Mcp (A1 := (if c2 = (i + 1) then (some (⟨g2, 0, none⟩ : Addr)) else (some (⟨g2, 0, none⟩ : Addr)).map (·.add ((i + 1) * 4)))) (A2 := (if c = i then A else A.map (·.add (i * 4)))) (n1 := (i + (L.length + 1 - i)) - (i + 1)) (k := L.length - i) (q := (L.length - i)) (vs := (L.drop i).flatMap Lay.cells) 40 (i * Lay.size DKept + Lay.size DKept) (by rw [if_neg (by omega)]; show some (Addr.add _ ((i + 1) * 4)) = _; rw [addr_at, Nat.succ_mul]; rfl) (by simp only [Nat.min_def]; split <;> omega) (fun bs w hS => rowA_srcDrop (hS.res _ (.tail _ (.head _))) hi) (drop_len L i) (flat_one _) (by rw [setAt_len (by rw [one_len, hlen0]; have h9 := ins_fit (L := L) hi (by omega : L.length + 1 ≤ c2); omega), hlen0]; exact ins_fit hi (by omega)) (J := ?_)
   refine Mt [.slice (some (⟨g2, 0, none⟩ : Addr)) (i + (L.length + 1 - i)) c2] fun bs w hS => ?_
   have hlen : (L.take i ++ [x] ++ L.drop i).length = L.length + 1 := by simp only [List.length_append, List.length_take, List.length_drop, List.length_cons, List.length_nil]; omega
   have hS2 := hS.weak (rowA 141 (some (⟨g2, 0, none⟩ : Addr)) c2 (L.take i ++ [x] ++ L.drop i)) (List.Sublist.refl _) (fun h => ins_row1 hi (by omega) hlen0 h)
   refine ⟨(some ⟨g2, 0, none⟩, c2), ?_, hS2.turned⟩
   exact congrArg (fun q => Ending.returned (Value.slice (some (⟨g2, 0, none⟩ : Addr)) q c2)) (show i + (L.length + 1 - i) = (L.take i ++ [x] ++ L.drop i).length by rw [hlen]; omega)
 refine m_raw (α := DKept) (by omega) ?_
 intro g zs hA hLc hlen0
 have hvg : vb ≠ g := fun e0 => hvn (by rw [hA]; simp [rowA, rowR, e0])
 refine Mi (pc (pR ((L.length : Int) + 1)) (pc (pG [(60, .sl 0 (L.length + 1))] (oc (rfl : 0 = 0) (oc ((by omega) : (L.length : Int) + 1 = (((L.length + 1) : Nat) : Int)) (oc ((by omega) : (L.length + 1) ≤ c) on)))) (pc (pR ((i : Int) + 1)) (pG [(66, .sl (i + 1) (L.length + 1))] (oc ((by omega) : (i : Int) + 1 = (((i + 1) : Nat) : Int)) (oc (rfl : (L.length + 1) = (L.length + 1)) (oc ((by omega) : (i + 1) ≤ (L.length + 1)) on))))))) (J := ?_)
 refine Mx (vs := fun _ => [.slice (some (⟨vb, 0, none⟩ : Addr)) 1 1, .slice (if c = (i + 1) then A else A.map (·.add ((i + 1) * 4))) ((L.length + 1) - (i + 1)) (c - (i + 1))]) (v := .bool false) (fun bs w hS => by show (callFunc 153 #[.slice (some (⟨vb, 0, none⟩ : Addr)) 1 1, .slice (if c = (i + 1) then A else A.map (·.add ((i + 1) * 4))) ((L.length + 1) - (i + 1)) (c - (i + 1))]).run Tryz.prog w = _; rw [(show (if c = (i + 1) then A else A.map (·.add ((i + 1) * 4))) = some ⟨g, i * Lay.size DKept + Lay.size DKept, none⟩ from (by rw [if_neg (by omega), hA]; show some (Addr.add _ ((i + 1) * 4)) = _; rw [addr_at, Nat.succ_mul]; rfl)), run_callFunc_extern Tryz.func153 (by kernel_rfl) (by kernel_rfl) (by kernel_rfl) (e := Extern.SlicesOverlaps.overlaps #[116, 116] #[4]) (by kernel_rfl)]; show ((Extern.SlicesOverlaps.overlaps #[116, 116] #[4] #[.slice (some (⟨vb, 0, none⟩ : Addr)) 1 1, .slice (some _) _ _]).run _ w).andThen _ = _; rw [Go.Lib.run_overlaps_apart w 116 4 141 Tryz.underlying116 _ (fun w => sizeOf_run _ _ w (by kernel_rfl)) ⟨vb, 0, none⟩ ⟨g, i * Lay.size DKept + Lay.size DKept, none⟩ 1 1 _ _ hvg _ _ _ _ (blkR_shape (hvk w hS.kp)) (rawR_shape (hS.res _ (.head _))) (by rw [hlen0]; exact Nat.mul_ne_zero (by omega) (Nat.ne_of_gt Lay.pos)) (blkR_thaw (hvk w hS.kp) 0) (blkR_thaw (hvk w hS.kp) _)]; rfl) (J := ?_)
 refine Mq 68 true rfl (J := ?_)
 refine Mda 8 [] [] [rawR 141 (Lay.size DKept) g c (L.flatMap Lay.cells ++ zs)] Tryz_mixed (J := ?_)
 refine Mih (pc (pR ((i : Int) + 1)) (pc (pG [(73, .sl (i + 1) (L.length + 1))] (oc ((by omega) : (i : Int) + 1 = (((i + 1) : Nat) : Int)) (oc (rfl : (L.length + 1) = (L.length + 1)) (oc ((by omega) : (i + 1) ≤ (L.length + 1)) on)))) (pG [(76, .sl i (L.length + 1))] (oc (rfl : (i : Int) = (i : Int)) (oc (rfl : (L.length + 1) = (L.length + 1)) (oc ((by omega) : i ≤ (L.length + 1)) on)))))) (J := ?_)
 refine Mz (J := ?_)
 refine Mcp (A1 := (if c = (i + 1) then A else A.map (·.add ((i + 1) * 4)))) (A2 := (if c = i then A else A.map (·.add (i * 4)))) (n1 := (L.length + 1) - (i + 1)) (k := (L.length + 1) - i) (q := (L.length - i)) (vs := (L.drop i).flatMap Lay.cells) 40 (i * Lay.size DKept + Lay.size DKept) (by rw [if_neg (by omega), hA]; show some (Addr.add _ ((i + 1) * 4)) = _; rw [addr_at, Nat.succ_mul]; rfl) (by simp only [Nat.min_def]; split <;> omega) (fun bs w hS => by rw [show (if c = i then A else A.map (·.add (i * 4))) = some ⟨g, i * Lay.size DKept, none⟩ from (by rw [if_neg (by omega), hA]; show some (Addr.add _ (i * 4)) = _; rw [addr_at]; rfl)]; exact raw_srcDrop hi (hS.res _ (.head _))) (drop_len L i) (flat_one _) (by rw [hlen0]; exact ins_fit hi (by omega)) (J := ?_)
 refine Mi (pG [(80, .sl i (L.length + 1))] (oc (rfl : (i : Int) = (i : Int)) (oc (rfl : (L.length + 1) = (L.length + 1)) (oc ((by omega) : i ≤ (L.length + 1)) on)))) (J := ?_)
 refine Mcp (A1 := (if c = i then A else A.map (·.add (i * 4)))) (A2 := (some (⟨vb, 0, none⟩ : Addr))) (n1 := (L.length + 1) - i) (k := 1) (q := 1) (vs := [x].flatMap Lay.cells) 40 (i * Lay.size DKept) (by rw [if_neg (by omega), hA]; show some (Addr.add _ (i * 4)) = _; rw [addr_at]; rfl) (by simp only [Nat.min_def]; split <;> omega) (fun bs w hS => hvs w hS.kp) (by rw [one_len, Nat.one_mul]) (flat_one _) (by rw [one_len]; rw [setAt_len (by rw [hlen0]; exact ins_fit hi (by omega)), hlen0]; have h9 := ins_fit (L := L) hi (by omega : L.length + 1 ≤ c); omega) (J := ?_)
 refine Mt [.slice A (L.length + 1) c] fun bs w hS => ?_
 have hlen : (L.take i ++ [x] ++ L.drop i).length = L.length + 1 := by simp only [List.length_append, List.length_take, List.length_drop, List.length_cons, List.length_nil]; omega
 have hS2 := hS.weak (rowA 141 (some ⟨g, 0, none⟩) c (L.take i ++ [x] ++ L.drop i)) (List.Sublist.refl _) (fun h => ins_row2 hi (by omega) hlen0 h)
 refine ⟨(some ⟨g, 0, none⟩, c), ?_, hS2.turned⟩
 subst hA
 exact congrArg (fun q => Ending.returned (Value.slice (some (⟨g, 0, none⟩ : Addr)) q c)) (show L.length + 1 = (L.take i ++ [x] ++ L.drop i).length by rw [hlen])

theorem insR_Pair (A : Option Addr) (c : Nat) (L : List DPair) (i : Nat) (ii : Int) (x : DPair) (vb tv : Nat) (w : World) (hrow : (rowA 128 A c L).p w) (hlt : ∀ b, b ∈ (rowA 128 A c L).fp → b < w.heap.size) (ei : ii = (i : Int)) (hi : i ≤ L.length) (hn : L.length ≤ 1048575) (hv : (blkR vb tv (Lay.cells x)).p w) (hvn : vb ∉ (rowA 128 A c L).fp) :
    Calls Tryz.prog 152 #[.slice A L.length c, .int .i64 ii, .slice (some (⟨vb, 0, none⟩ : Addr)) 1 1] w fun e w' => ∃ y : Option Addr × Nat, e = .returned (.slice y.1 (L.take i ++ [x] ++ L.drop i).length y.2) ∧ Turned (rowA 128 A c L) w w' (rowA 128 y.1 y.2 (L.take i ++ [x] ++ L.drop i)) := by
 subst ei
 have hrok := rowA_rok hrow
 have nc := hrok.2
 have hvk : ∀ w', Kp (rowA 128 A c L).fp w w' → (blkR vb tv (Lay.cells x)).p w' := fun w' hk => blkR_kpn hv hk hvn
 have hvs : ∀ w', Kp (rowA 128 A c L).fp w w' → SrcAt w' (some (⟨vb, 0, none⟩ : Addr)) 1 ([x].flatMap Lay.cells) := fun w' hk => blkR_src1 (hvk w' hk)
 refine Mj Tryz.func152 (WS.start1 w _ hrow (by cases A <;> simp [rowA, rowR]) hlt) (J := ?_)
 refine Mi (pG [(12, .sl i L.length)] (oc (rfl : (i : Int) = (i : Int)) (oc (rfl : L.length = L.length) (oc ((by omega) : i ≤ L.length) on)))) (J := ?_)
 refine Mq 16 false rfl (J := ?_)
 refine Md ((i : Int) = (L.length : Int)) (T := fun h1 => ?_) (F := fun h1 => ?_)
 · refine Ma (α := DPair) (L2 := [x]) 40 (fun bs w hS => hvs w hS.kp) (h63 := by show L.length + 1 ≤ _; omega) (hb := by show (L.length + 1) * _ ≤ _; omega) (J := ?_)
   intro A1 c1
   refine Mt [.slice A1 (L ++ [x]).length c1] fun bs w hS => ?_
   have hid : i = L.length := by omega
   subst hid
   rw [List.take_length, List.drop_length, List.append_nil]
   exact ⟨(A1, c1), rfl, hS.turned⟩
 refine Mi (pR ((L.length : Int) + 1)) (J := ?_)
 refine Md ((c : Int) < (L.length : Int) + 1) (T := fun h2 => ?_) (F := fun h2 => ?_)
 · refine Mi (pc (pG [(34, .sl 0 i)] (oc (rfl : 0 = 0) (oc (rfl : (i : Int) = (i : Int)) (oc ((by omega) : i ≤ c) on)))) (pc (pR ((L.length : Int) + 1)) (pR (((L.length : Int) + 1) - (i : Int))))) (J := ?_)
   refine Mapz (α := DPair) 23 3 40 i (L.length + 1 - i) (((L.length : Int) + 1) - (i : Int)) (by omega) (by omega) hi (by omega) (by omega) (by omega) (J := ?_)
   intro g2 c2 zs hc2 hc2m hlen0
   refine Mi (pG [(43, .sl i (i + (L.length + 1 - i)))] (oc (rfl : (i : Int) = (i : Int)) (oc (rfl : i + (L.length + 1 - i) = i + (L.length + 1 - i)) (oc ((by omega) : i ≤ i + (L.length + 1 - i)) on)))) (J := ?_)
   refine Mcp (A1 := (if c2 = i then (some (⟨g2, 0, none⟩ : Addr)) else (some (⟨g2, 0, none⟩ : Addr)).map (·.add (i * 3)))) (A2 := (some (⟨vb, 0, none⟩ : Addr))) (n1 := (i + (L.length + 1 - i)) - i) (k := 1) (q := 1) (vs := [x].flatMap Lay.cells) 40 (i * Lay.size DPair) (by rw [if_neg (by omega)]; show some (Addr.add _ (i * 3)) = _; rw [addr_at]; rfl) (by simp only [Nat.min_def]; split <;> omega) (fun bs w hS => hvs w hS.kp) (by rw [one_len, Nat.one_mul]) (flat_one _) (by rw [one_len]; rw [hlen0]; have h9 := ins_fit (L := L) hi (by omega : L.length + 1 ≤ c2); omega) (J := ?_)
   refine Mda 8 [] [] [rawR 128 (Lay.size DPair) g2 c2 (setAt ((L.take i).flatMap Lay.cells ++ zs) (i * Lay.size DPair) ([x].flatMap Lay.cells)), rowA 128 A c (L : List DPair)] Tryz_mixed (J := ?_)
   refine Mih (pc (pR ((i : Int) + 1)) (pc (pG [(50, .sl (i + 1) (i + (L.length + 1 - i)))] (oc ((by omega) : (i : Int) + 1 = (((i + 1) : Nat) : Int)) (oc (rfl : i + (L.length + 1 - i) = i + (L.length + 1 - i)) (oc ((by omega) : (i + 1) ≤ i + (L.length + 1 - i)) on)))) (pG [(53, .sl i L.length)] (oc (rfl : (i : Int) = (i : Int)) (oc (rfl : L.length = L.length) (oc ((by omega) : i ≤ L.length) on)))))) (J := ?_)
   refine Mz (J := ?_)
   refine Mcp (A1 := (if c2 = (i + 1) then (some (⟨g2, 0, none⟩ : Addr)) else (some (⟨g2, 0, none⟩ : Addr)).map (·.add ((i + 1) * 3)))) (A2 := (if c = i then A else A.map (·.add (i * 3)))) (n1 := (i + (L.length + 1 - i)) - (i + 1)) (k := L.length - i) (q := (L.length - i)) (vs := (L.drop i).flatMap Lay.cells) 40 (i * Lay.size DPair + Lay.size DPair) (by rw [if_neg (by omega)]; show some (Addr.add _ ((i + 1) * 3)) = _; rw [addr_at, Nat.succ_mul]; rfl) (by simp only [Nat.min_def]; split <;> omega) (fun bs w hS => rowA_srcDrop (hS.res _ (.tail _ (.head _))) hi) (drop_len L i) (flat_one _) (by rw [setAt_len (by rw [one_len, hlen0]; have h9 := ins_fit (L := L) hi (by omega : L.length + 1 ≤ c2); omega), hlen0]; exact ins_fit hi (by omega)) (J := ?_)
   refine Mt [.slice (some (⟨g2, 0, none⟩ : Addr)) (i + (L.length + 1 - i)) c2] fun bs w hS => ?_
   have hlen : (L.take i ++ [x] ++ L.drop i).length = L.length + 1 := by simp only [List.length_append, List.length_take, List.length_drop, List.length_cons, List.length_nil]; omega
   have hS2 := hS.weak (rowA 128 (some (⟨g2, 0, none⟩ : Addr)) c2 (L.take i ++ [x] ++ L.drop i)) (List.Sublist.refl _) (fun h => ins_row1 hi (by omega) hlen0 h)
   refine ⟨(some ⟨g2, 0, none⟩, c2), ?_, hS2.turned⟩
   exact congrArg (fun q => Ending.returned (Value.slice (some (⟨g2, 0, none⟩ : Addr)) q c2)) (show i + (L.length + 1 - i) = (L.take i ++ [x] ++ L.drop i).length by rw [hlen]; omega)
 refine m_raw (α := DPair) (by omega) ?_
 intro g zs hA hLc hlen0
 have hvg : vb ≠ g := fun e0 => hvn (by rw [hA]; simp [rowA, rowR, e0])
 refine Mi (pc (pR ((L.length : Int) + 1)) (pc (pG [(60, .sl 0 (L.length + 1))] (oc (rfl : 0 = 0) (oc ((by omega) : (L.length : Int) + 1 = (((L.length + 1) : Nat) : Int)) (oc ((by omega) : (L.length + 1) ≤ c) on)))) (pc (pR ((i : Int) + 1)) (pG [(66, .sl (i + 1) (L.length + 1))] (oc ((by omega) : (i : Int) + 1 = (((i + 1) : Nat) : Int)) (oc (rfl : (L.length + 1) = (L.length + 1)) (oc ((by omega) : (i + 1) ≤ (L.length + 1)) on))))))) (J := ?_)
 refine Mx (vs := fun _ => [.slice (some (⟨vb, 0, none⟩ : Addr)) 1 1, .slice (if c = (i + 1) then A else A.map (·.add ((i + 1) * 3))) ((L.length + 1) - (i + 1)) (c - (i + 1))]) (v := .bool false) (fun bs w hS => by show (callFunc 195 #[.slice (some (⟨vb, 0, none⟩ : Addr)) 1 1, .slice (if c = (i + 1) then A else A.map (·.add ((i + 1) * 3))) ((L.length + 1) - (i + 1)) (c - (i + 1))]).run Tryz.prog w = _; rw [(show (if c = (i + 1) then A else A.map (·.add ((i + 1) * 3))) = some ⟨g, i * Lay.size DPair + Lay.size DPair, none⟩ from (by rw [if_neg (by omega), hA]; show some (Addr.add _ ((i + 1) * 3)) = _; rw [addr_at, Nat.succ_mul]; rfl)), run_callFunc_extern Tryz.func195 (by kernel_rfl) (by kernel_rfl) (by kernel_rfl) (e := Extern.SlicesOverlaps.overlaps #[23, 23] #[4]) (by kernel_rfl)]; show ((Extern.SlicesOverlaps.overlaps #[23, 23] #[4] #[.slice (some (⟨vb, 0, none⟩ : Addr)) 1 1, .slice (some _) _ _]).run _ w).andThen _ = _; rw [Go.Lib.run_overlaps_apart w 23 4 128 Tryz.underlying23 _ (fun w => sizeOf_run _ _ w (by kernel_rfl)) ⟨vb, 0, none⟩ ⟨g, i * Lay.size DPair + Lay.size DPair, none⟩ 1 1 _ _ hvg _ _ _ _ (blkR_shape (hvk w hS.kp)) (rawR_shape (hS.res _ (.head _))) (by rw [hlen0]; exact Nat.mul_ne_zero (by omega) (Nat.ne_of_gt Lay.pos)) (blkR_thaw (hvk w hS.kp) 0) (blkR_thaw (hvk w hS.kp) _)]; rfl) (J := ?_)
 refine Mq 68 true rfl (J := ?_)
 refine Mda 8 [] [] [rawR 128 (Lay.size DPair) g c (L.flatMap Lay.cells ++ zs)] Tryz_mixed (J := ?_)
 refine Mih (pc (pR ((i : Int) + 1)) (pc (pG [(73, .sl (i + 1) (L.length + 1))] (oc ((by omega) : (i : Int) + 1 = (((i + 1) : Nat) : Int)) (oc (rfl : (L.length + 1) = (L.length + 1)) (oc ((by omega) : (i + 1) ≤ (L.length + 1)) on)))) (pG [(76, .sl i (L.length + 1))] (oc (rfl : (i : Int) = (i : Int)) (oc (rfl : (L.length + 1) = (L.length + 1)) (oc ((by omega) : i ≤ (L.length + 1)) on)))))) (J := ?_)
 refine Mz (J := ?_)
 refine Mcp (A1 := (if c = (i + 1) then A else A.map (·.add ((i + 1) * 3)))) (A2 := (if c = i then A else A.map (·.add (i * 3)))) (n1 := (L.length + 1) - (i + 1)) (k := (L.length + 1) - i) (q := (L.length - i)) (vs := (L.drop i).flatMap Lay.cells) 40 (i * Lay.size DPair + Lay.size DPair) (by rw [if_neg (by omega), hA]; show some (Addr.add _ ((i + 1) * 3)) = _; rw [addr_at, Nat.succ_mul]; rfl) (by simp only [Nat.min_def]; split <;> omega) (fun bs w hS => by rw [show (if c = i then A else A.map (·.add (i * 3))) = some ⟨g, i * Lay.size DPair, none⟩ from (by rw [if_neg (by omega), hA]; show some (Addr.add _ (i * 3)) = _; rw [addr_at]; rfl)]; exact raw_srcDrop hi (hS.res _ (.head _))) (drop_len L i) (flat_one _) (by rw [hlen0]; exact ins_fit hi (by omega)) (J := ?_)
 refine Mi (pG [(80, .sl i (L.length + 1))] (oc (rfl : (i : Int) = (i : Int)) (oc (rfl : (L.length + 1) = (L.length + 1)) (oc ((by omega) : i ≤ (L.length + 1)) on)))) (J := ?_)
 refine Mcp (A1 := (if c = i then A else A.map (·.add (i * 3)))) (A2 := (some (⟨vb, 0, none⟩ : Addr))) (n1 := (L.length + 1) - i) (k := 1) (q := 1) (vs := [x].flatMap Lay.cells) 40 (i * Lay.size DPair) (by rw [if_neg (by omega), hA]; show some (Addr.add _ (i * 3)) = _; rw [addr_at]; rfl) (by simp only [Nat.min_def]; split <;> omega) (fun bs w hS => hvs w hS.kp) (by rw [one_len, Nat.one_mul]) (flat_one _) (by rw [one_len]; rw [setAt_len (by rw [hlen0]; exact ins_fit hi (by omega)), hlen0]; have h9 := ins_fit (L := L) hi (by omega : L.length + 1 ≤ c); omega) (J := ?_)
 refine Mt [.slice A (L.length + 1) c] fun bs w hS => ?_
 have hlen : (L.take i ++ [x] ++ L.drop i).length = L.length + 1 := by simp only [List.length_append, List.length_take, List.length_drop, List.length_cons, List.length_nil]; omega
 have hS2 := hS.weak (rowA 128 (some ⟨g, 0, none⟩) c (L.take i ++ [x] ++ L.drop i)) (List.Sublist.refl _) (fun h => ins_row2 hi (by omega) hlen0 h)
 refine ⟨(some ⟨g, 0, none⟩, c), ?_, hS2.turned⟩
 subst hA
 exact congrArg (fun q => Ending.returned (Value.slice (some (⟨g, 0, none⟩ : Addr)) q c)) (show L.length + 1 = (L.take i ++ [x] ++ L.drop i).length by rw [hlen])

theorem insR_Lock (A : Option Addr) (c : Nat) (L : List CLock) (i : Nat) (ii : Int) (x : CLock) (vb tv : Nat) (w : World) (hrow : (rowA 115 A c L).p w) (hlt : ∀ b, b ∈ (rowA 115 A c L).fp → b < w.heap.size) (ei : ii = (i : Int)) (hi : i ≤ L.length) (hn : L.length ≤ 1048575) (hv : (blkR vb tv (Lay.cells x)).p w) (hvn : vb ∉ (rowA 115 A c L).fp) :
    Calls Tryz.prog 149 #[.slice A L.length c, .int .i64 ii, .slice (some (⟨vb, 0, none⟩ : Addr)) 1 1] w fun e w' => ∃ y : Option Addr × Nat, e = .returned (.slice y.1 (L.take i ++ [x] ++ L.drop i).length y.2) ∧ Turned (rowA 115 A c L) w w' (rowA 115 y.1 y.2 (L.take i ++ [x] ++ L.drop i)) := by
 subst ei
 have hrok := rowA_rok hrow
 have nc := hrok.2
 have hvk : ∀ w', Kp (rowA 115 A c L).fp w w' → (blkR vb tv (Lay.cells x)).p w' := fun w' hk => blkR_kpn hv hk hvn
 have hvs : ∀ w', Kp (rowA 115 A c L).fp w w' → SrcAt w' (some (⟨vb, 0, none⟩ : Addr)) 1 ([x].flatMap Lay.cells) := fun w' hk => blkR_src1 (hvk w' hk)
 refine Mj Tryz.func149 (WS.start1 w _ hrow (by cases A <;> simp [rowA, rowR]) hlt) (J := ?_)
 refine Mi (pG [(12, .sl i L.length)] (oc (rfl : (i : Int) = (i : Int)) (oc (rfl : L.length = L.length) (oc ((by omega) : i ≤ L.length) on)))) (J := ?_)
 refine Mq 16 false rfl (J := ?_)
 refine Md ((i : Int) = (L.length : Int)) (T := fun h1 => ?_) (F := fun h1 => ?_)
 · refine Ma (α := CLock) (L2 := [x]) 56 (fun bs w hS => hvs w hS.kp) (h63 := by show L.length + 1 ≤ _; omega) (hb := by show (L.length + 1) * _ ≤ _; omega) (J := ?_)
   intro A1 c1
   refine Mt [.slice A1 (L ++ [x]).length c1] fun bs w hS => ?_
   have hid : i = L.length := by omega
   subst hid
   rw [List.take_length, List.drop_length, List.append_nil]
   exact ⟨(A1, c1), rfl, hS.turned⟩
 refine Mi (pR ((L.length : Int) + 1)) (J := ?_)
 refine Md ((c : Int) < (L.length : Int) + 1) (T := fun h2 => ?_) (F := fun h2 => ?_)
 · refine Mi (pc (pG [(34, .sl 0 i)] (oc (rfl : 0 = 0) (oc (rfl : (i : Int) = (i : Int)) (oc ((by omega) : i ≤ c) on)))) (pc (pR ((L.length : Int) + 1)) (pR (((L.length : Int) + 1) - (i : Int))))) (J := ?_)
   refine Mapz (α := CLock) 22 3 56 i (L.length + 1 - i) (((L.length : Int) + 1) - (i : Int)) (by omega) (by omega) hi (by omega) (by omega) (by omega) (J := ?_)
   intro g2 c2 zs hc2 hc2m hlen0
   refine Mi (pG [(43, .sl i (i + (L.length + 1 - i)))] (oc (rfl : (i : Int) = (i : Int)) (oc (rfl : i + (L.length + 1 - i) = i + (L.length + 1 - i)) (oc ((by omega) : i ≤ i + (L.length + 1 - i)) on)))) (J := ?_)
   refine Mcp (A1 := (if c2 = i then (some (⟨g2, 0, none⟩ : Addr)) else (some (⟨g2, 0, none⟩ : Addr)).map (·.add (i * 4)))) (A2 := (some (⟨vb, 0, none⟩ : Addr))) (n1 := (i + (L.length + 1 - i)) - i) (k := 1) (q := 1) (vs := [x].flatMap Lay.cells) 56 (i * Lay.size CLock) (by rw [if_neg (by omega)]; show some (Addr.add _ (i * 4)) = _; rw [addr_at]; rfl) (by simp only [Nat.min_def]; split <;> omega) (fun bs w hS => hvs w hS.kp) (by rw [one_len, Nat.one_mul]) (flat_one _) (by rw [one_len]; rw [hlen0]; have h9 := ins_fit (L := L) hi (by omega : L.length + 1 ≤ c2); omega) (J := ?_)
   refine Mda 8 [] [] [rawR 115 (Lay.size CLock) g2 c2 (setAt ((L.take i).flatMap Lay.cells ++ zs) (i * Lay.size CLock) ([x].flatMap Lay.cells)), rowA 115 A c (L : List CLock)] Tryz_mixed (J := ?_)
   refine Mih (pc (pR ((i : Int) + 1)) (pc (pG [(50, .sl (i + 1) (i + (L.length + 1 - i)))] (oc ((by omega) : (i : Int) + 1 = (((i + 1) : Nat) : Int)) (oc (rfl : i + (L.length + 1 - i) = i + (L.length + 1 - i)) (oc ((by omega) : (i + 1) ≤ i + (L.length + 1 - i)) on)))) (pG [(53, .sl i L.length)] (oc (rfl : (i : Int) = (i : Int)) (oc (rfl : L.length = L.length) (oc ((by omega) : i ≤ L.length) on)))))) (J := ?_)
   refine Mz (J := ?_)
   refine Mcp (A1 := (if c2 = (i + 1) then (some (⟨g2, 0, none⟩ : Addr)) else (some (⟨g2, 0, none⟩ : Addr)).map (·.add ((i + 1) * 4)))) (A2 := (if c = i then A else A.map (·.add (i * 4)))) (n1 := (i + (L.length + 1 - i)) - (i + 1)) (k := L.length - i) (q := (L.length - i)) (vs := (L.drop i).flatMap Lay.cells) 56 (i * Lay.size CLock + Lay.size CLock) (by rw [if_neg (by omega)]; show some (Addr.add _ ((i + 1) * 4)) = _; rw [addr_at, Nat.succ_mul]; rfl) (by simp only [Nat.min_def]; split <;> omega) (fun bs w hS => rowA_srcDrop (hS.res _ (.tail _ (.head _))) hi) (drop_len L i) (flat_one _) (by rw [setAt_len (by rw [one_len, hlen0]; have h9 := ins_fit (L := L) hi (by omega : L.length + 1 ≤ c2); omega), hlen0]; exact ins_fit hi (by omega)) (J := ?_)
   refine Mt [.slice (some (⟨g2, 0, none⟩ : Addr)) (i + (L.length + 1 - i)) c2] fun bs w hS => ?_
   have hlen : (L.take i ++ [x] ++ L.drop i).length = L.length + 1 := by simp only [List.length_append, List.length_take, List.length_drop, List.length_cons, List.length_nil]; omega
   have hS2 := hS.weak (rowA 115 (some (⟨g2, 0, none⟩ : Addr)) c2 (L.take i ++ [x] ++ L.drop i)) (List.Sublist.refl _) (fun h => ins_row1 hi (by omega) hlen0 h)
   refine ⟨(some ⟨g2, 0, none⟩, c2), ?_, hS2.turned⟩
   exact congrArg (fun q => Ending.returned (Value.slice (some (⟨g2, 0, none⟩ : Addr)) q c2)) (show i + (L.length + 1 - i) = (L.take i ++ [x] ++ L.drop i).length by rw [hlen]; omega)
 refine m_raw (α := CLock) (by omega) ?_
 intro g zs hA hLc hlen0
 have hvg : vb ≠ g := fun e0 => hvn (by rw [hA]; simp [rowA, rowR, e0])
 refine Mi (pc (pR ((L.length : Int) + 1)) (pc (pG [(60, .sl 0 (L.length + 1))] (oc (rfl : 0 = 0) (oc ((by omega) : (L.length : Int) + 1 = (((L.length + 1) : Nat) : Int)) (oc ((by omega) : (L.length + 1) ≤ c) on)))) (pc (pR ((i : Int) + 1)) (pG [(66, .sl (i + 1) (L.length + 1))] (oc ((by omega) : (i : Int) + 1 = (((i + 1) : Nat) : Int)) (oc (rfl : (L.length + 1) = (L.length + 1)) (oc ((by omega) : (i + 1) ≤ (L.length + 1)) on))))))) (J := ?_)
 refine Mx (vs := fun _ => [.slice (some (⟨vb, 0, none⟩ : Addr)) 1 1, .slice (if c = (i + 1) then A else A.map (·.add ((i + 1) * 4))) ((L.length + 1) - (i + 1)) (c - (i + 1))]) (v := .bool false) (fun bs w hS => by show (callFunc 191 #[.slice (some (⟨vb, 0, none⟩ : Addr)) 1 1, .slice (if c = (i + 1) then A else A.map (·.add ((i + 1) * 4))) ((L.length + 1) - (i + 1)) (c - (i + 1))]).run Tryz.prog w = _; rw [(show (if c = (i + 1) then A else A.map (·.add ((i + 1) * 4))) = some ⟨g, i * Lay.size CLock + Lay.size CLock, none⟩ from (by rw [if_neg (by omega), hA]; show some (Addr.add _ ((i + 1) * 4)) = _; rw [addr_at, Nat.succ_mul]; rfl)), run_callFunc_extern Tryz.func191 (by kernel_rfl) (by kernel_rfl) (by kernel_rfl) (e := Extern.SlicesOverlaps.overlaps #[22, 22] #[4]) (by kernel_rfl)]; show ((Extern.SlicesOverlaps.overlaps #[22, 22] #[4] #[.slice (some (⟨vb, 0, none⟩ : Addr)) 1 1, .slice (some _) _ _]).run _ w).andThen _ = _; rw [Go.Lib.run_overlaps_apart w 22 4 115 Tryz.underlying22 _ (fun w => sizeOf_run _ _ w (by kernel_rfl)) ⟨vb, 0, none⟩ ⟨g, i * Lay.size CLock + Lay.size CLock, none⟩ 1 1 _ _ hvg _ _ _ _ (blkR_shape (hvk w hS.kp)) (rawR_shape (hS.res _ (.head _))) (by rw [hlen0]; exact Nat.mul_ne_zero (by omega) (Nat.ne_of_gt Lay.pos)) (blkR_thaw (hvk w hS.kp) 0) (blkR_thaw (hvk w hS.kp) _)]; rfl) (J := ?_)
 refine Mq 68 true rfl (J := ?_)
 refine Mda 8 [] [] [rawR 115 (Lay.size CLock) g c (L.flatMap Lay.cells ++ zs)] Tryz_mixed (J := ?_)
 refine Mih (pc (pR ((i : Int) + 1)) (pc (pG [(73, .sl (i + 1) (L.length + 1))] (oc ((by omega) : (i : Int) + 1 = (((i + 1) : Nat) : Int)) (oc (rfl : (L.length + 1) = (L.length + 1)) (oc ((by omega) : (i + 1) ≤ (L.length + 1)) on)))) (pG [(76, .sl i (L.length + 1))] (oc (rfl : (i : Int) = (i : Int)) (oc (rfl : (L.length + 1) = (L.length + 1)) (oc ((by omega) : i ≤ (L.length + 1)) on)))))) (J := ?_)
 refine Mz (J := ?_)
 refine Mcp (A1 := (if c = (i + 1) then A else A.map (·.add ((i + 1) * 4)))) (A2 := (if c = i then A else A.map (·.add (i * 4)))) (n1 := (L.length + 1) - (i + 1)) (k := (L.length + 1) - i) (q := (L.length - i)) (vs := (L.drop i).flatMap Lay.cells) 56 (i * Lay.size CLock + Lay.size CLock) (by rw [if_neg (by omega), hA]; show some (Addr.add _ ((i + 1) * 4)) = _; rw [addr_at, Nat.succ_mul]; rfl) (by simp only [Nat.min_def]; split <;> omega) (fun bs w hS => by rw [show (if c = i then A else A.map (·.add (i * 4))) = some ⟨g, i * Lay.size CLock, none⟩ from (by rw [if_neg (by omega), hA]; show some (Addr.add _ (i * 4)) = _; rw [addr_at]; rfl)]; exact raw_srcDrop hi (hS.res _ (.head _))) (drop_len L i) (flat_one _) (by rw [hlen0]; exact ins_fit hi (by omega)) (J := ?_)
 refine Mi (pG [(80, .sl i (L.length + 1))] (oc (rfl : (i : Int) = (i : Int)) (oc (rfl : (L.length + 1) = (L.length + 1)) (oc ((by omega) : i ≤ (L.length + 1)) on)))) (J := ?_)
 refine Mcp (A1 := (if c = i then A else A.map (·.add (i * 4)))) (A2 := (some (⟨vb, 0, none⟩ : Addr))) (n1 := (L.length + 1) - i) (k := 1) (q := 1) (vs := [x].flatMap Lay.cells) 56 (i * Lay.size CLock) (by rw [if_neg (by omega), hA]; show some (Addr.add _ (i * 4)) = _; rw [addr_at]; rfl) (by simp only [Nat.min_def]; split <;> omega) (fun bs w hS => hvs w hS.kp) (by rw [one_len, Nat.one_mul]) (flat_one _) (by rw [one_len]; rw [setAt_len (by rw [hlen0]; exact ins_fit hi (by omega)), hlen0]; have h9 := ins_fit (L := L) hi (by omega : L.length + 1 ≤ c); omega) (J := ?_)
 refine Mt [.slice A (L.length + 1) c] fun bs w hS => ?_
 have hlen : (L.take i ++ [x] ++ L.drop i).length = L.length + 1 := by simp only [List.length_append, List.length_take, List.length_drop, List.length_cons, List.length_nil]; omega
 have hS2 := hS.weak (rowA 115 (some ⟨g, 0, none⟩) c (L.take i ++ [x] ++ L.drop i)) (List.Sublist.refl _) (fun h => ins_row2 hi (by omega) hlen0 h)
 refine ⟨(some ⟨g, 0, none⟩, c), ?_, hS2.turned⟩
 subst hA
 exact congrArg (fun q => Ending.returned (Value.slice (some (⟨g, 0, none⟩ : Addr)) q c)) (show L.length + 1 = (L.take i ++ [x] ++ L.drop i).length by rw [hlen])

theorem pair_find_1 (x : DPair) (t : ByteArray) (w : World) : Calls Tryz.prog 194 #[.agg #[.string x.name, .string x.value, .int .i64 x.version], .string t] w fun e w' => e = .returned (.int .i64 (cmpS x.name t)) ∧ Kp [] w w' := by
 refine M0 Tryz.func194 (J := ?_)
 refine Mp Tryz.call147 (fun bs w hS => strings_Compare x.name t w) (J := ?_)
 exact Mt [.int .i64 (cmpS x.name t)] fun bs w hS => ⟨rfl, hS.kp⟩

theorem bs_pair_find_1 {B : Nat → Prop} (s : Sl DPair) (t : ByteArray) (w : World) (hs : s.rd B w) (hn : s.n ≤ 1048576) : Calls Tryz.prog 193 #[.slice s.A s.n s.c, .string t, .func (.func 194) #[] #[]] w fun e w' => e = .returned (.tuple #[.int .i64 (mBS (fun x : DPair => cmpS x.name t) s.xs : Nat), .bool (mBSf (fun x : DPair => cmpS x.name t) s.xs)]) ∧ Kp [] w w' := by
 have oks := Sl.rd.ok hs
 have ncs := Sl.ok.nc oks
 have hns : s.n = s.xs.length := rfl
 refine Mj Tryz.func193 (WS.start w) (J := ?_)
 refine Ml (σ := Nat × Nat × Nat) (fun ⟨i, j, f⟩ => i ≤ j ∧ j ≤ s.n ∧ j - i ≤ f ∧ mBS (fun x : DPair => cmpS x.name t) s.xs = bsGo (fun j => decide (cmpS (s.at j).name t < 0)) f i j) (fun ⟨i, j, f⟩ => f) (fun _ => []) [10, 9, 8, 0, 1, 2] (fun ⟨i, j, f⟩ => [(10, vI (j : Int)), (9, vI (i : Int))]) (fun _ => []) (⟨0, s.n, s.n⟩) ⟨Nat.zero_le _, Nat.le_refl _, Nat.le_refl _, rfl⟩ (B := ?_)
 rintro ⟨i, j, f⟩ ⟨h1, h2, h3, hI⟩ _ on1
 have hdiv : ((i : Int) + (j : Int)) / 2 = (((i + j) / 2 : Nat) : Int) := by omega
 refine Md ((i : Int) < (j : Int)) (T := fun h1 => ?_) (F := fun h1 => ?_)
 rotate_left
 · refine Md ((i : Int) < (s.n : Int)) (T := fun h3 => ?_) (F := fun h3 => ?_)
   rotate_left
   · refine Mt [.int .i64 (i : Int), .bool false] fun bs w hS => ?_
     have hij : i = j := by omega
     subst hij
     have hr : mBS (fun x : DPair => cmpS x.name t) s.xs = i := by rw [hI]; exact bsGo_end _ _ _ _ (Nat.le_refl _)
     refine ⟨?_, hS.kp⟩
     have hr2 : mBSf (fun x : DPair => cmpS x.name t) s.xs = false := by
       unfold mBSf; rw [hr]
       rw [decide_eq_false (show ¬ i < s.xs.length by omega)]; rfl
     rw [hr, hr2]
     rfl
   refine Mi (pA 43 44 (i : Int) i (rdk hs)) (J := ?_)
   refine Mp Tryz.call194 (fun bs w hS => pair_find_1 (s.at i) t w) (J := ?_)
   refine Mt [.int .i64 (i : Int), .bool (decide (cmpS (s.at i).name t = 0))] fun bs w hS => ?_
   have hij : i = j := by omega
   subst hij
   have hr : mBS (fun x : DPair => cmpS x.name t) s.xs = i := by rw [hI]; exact bsGo_end _ _ _ _ (Nat.le_refl _)
   refine ⟨?_, hS.kp⟩
   have hr2 : mBSf (fun x : DPair => cmpS x.name t) s.xs = (decide (cmpS (s.at i).name t = 0)) := by
     unfold mBSf; rw [hr]
     rw [decide_eq_true (show i < s.xs.length by omega)]; rfl
   rw [hr, hr2]
   rfl
 refine Mi (pc (pR ((i : Int) + (j : Int))) (pc (pG [(21, .val (.int .u64 ((i : Int) + (j : Int))))] (oc ((conv_i64_u64 Tryz.underlying3 Tryz.underlying203 (by omega) (by omega)) : ∀ w, (convert 3 203 (.int .i64 ((i : Int) + (j : Int))) : Sem Value).run Tryz.prog w = .ok (.int .u64 ((i : Int) + (j : Int))) w) on)) (pc (pG [(22, .val (.int .u64 (((i : Int) + (j : Int)) / 2)))] (oc (shr_u64 : ∀ w, (do eqGuard .shr 203 (.tmp 21) (.const (.int .u64 1)) (.int .u64 ((i : Int) + (j : Int))) (.int .u64 1); binOp .shr 203 (.int .u64 ((i : Int) + (j : Int))) (.int .u64 1) : Sem Value).run Tryz.prog w = .ok (.int .u64 (((i : Int) + (j : Int)) / 2)) w) on)) (pc (pG [(23, .val (.int .i64 (((i : Int) + (j : Int)) / 2)))] (oc ((conv_u64_i64 Tryz.underlying203 Tryz.underlying3 (by omega) (by omega)) : ∀ w, (convert 203 3 (.int .u64 (((i : Int) + (j : Int)) / 2)) : Sem Value).run Tryz.prog w = .ok (.int .i64 (((i : Int) + (j : Int)) / 2)) w) on)) (pA 27 28 (((i : Int) + (j : Int)) / 2) (((i : Int) + (j : Int)) / 2).toNat (rdk hs)))))) (J := ?_)
 refine Mp Tryz.call194 (fun bs w hS => pair_find_1 (s.at (((i : Int) + (j : Int)) / 2).toNat) t w) (J := ?_)
 refine Md (cmpS (s.at (((i : Int) + (j : Int)) / 2).toNat).name t < 0) (T := fun h2 => ?_) (F := fun h2 => ?_)
 rotate_left
 · have hf1 : f = (f - 1) + 1 := by omega
   rw [hf1] at hI
   have hI2 := hI.trans (bsGo_down (by omega) (decide_eq_false (by assumption)))
   exact on1 (⟨i, (i + j) / 2, f - 1⟩ : Nat × Nat × Nat) ⟨by omega, by omega, by omega, hI2⟩ (by show f - 1 < f; omega)
 refine Mi (pR ((((i : Int) + (j : Int)) / 2) + 1)) (J := ?_)
 have hf1 : f = (f - 1) + 1 := by omega
 rw [hf1] at hI
 have hI2 := hI.trans (bsGo_up (by omega) (decide_eq_true (by assumption)))
 exact on1 (⟨(i + j) / 2 + 1, j, f - 1⟩ : Nat × Nat × Nat) ⟨by omega, by omega, by omega, hI2⟩ (by show f - 1 < f; omega)

theorem pair_find {B : Nat → Prop} (s : Sl DPair) (t : ByteArray) (w : World) (hs : s.rd B w) (hn : s.n ≤ 1048576) : Calls Tryz.prog 151 #[.slice s.A s.n s.c, .string t] w fun e w' => e = .returned (.tuple #[.int .i64 (mBS (fun x : DPair => cmpS x.name t) s.xs : Nat), .bool (mBSf (fun x : DPair => cmpS x.name t) s.xs)]) ∧ Kp [] w w' := by
 have oks := Sl.rd.ok hs
 have ncs := Sl.ok.nc oks
 have hns : s.n = s.xs.length := rfl
 refine M0 Tryz.func151 (J := ?_)
 refine Mp Tryz.call193 (fun bs w hS => bs_pair_find_1 s t w (Sl.rd.kp hs hS.kp) (by omega)) (J := ?_)
 exact Mt [.int .i64 ((mBS (fun x : DPair => cmpS x.name t) s.xs : Nat) : Int), .bool (mBSf (fun x : DPair => cmpS x.name t) s.xs)] fun bs w hS => ⟨rfl, hS.kp⟩

theorem tackroomref_pairAt {B : Nat → Prop} (s : Sl DPair) (t : ByteArray) (w : World) (hs : s.rd B w) : Calls Tryz.prog 106 #[.slice s.A s.n s.c, .string t] w fun e w' => e = .returned (.int .i64 (mIdx (fun x : DPair => decide (x.name = t)) s.xs)) ∧ Kp [] w w' := by
 have oks := Sl.rd.ok hs
 have ncs := Sl.ok.nc oks
 have hns : s.n = s.xs.length := rfl
 refine M0 Tryz.func106 (J := ?_)
 refine Ml (σ := Nat) (fun i => i ≤ s.n ∧ ∀ j, j < i → decide ((s.at j).name = t) = false) (fun i => s.n - i) (fun _ => []) [5, 0, 1] (fun i => [(5, vI (i : Int))]) (fun _ => []) 0 ⟨Nat.zero_le _, fun j hj => absurd hj (Nat.not_lt_zero _)⟩ (B := ?_)
 rintro i ⟨hi, hI⟩ _ on1
 refine Md ((i : Int) < (s.n : Int)) (T := fun h1 => ?_) (F := fun h1 => ?_)
 rotate_left
 · refine Mt [.int .i64 (-1)] fun bs w hS => ?_
   refine ⟨?_, hS.kp⟩
   rw [mIdx_none (p := (fun x : DPair => decide (x.name = t))) fun j hj => hI j (by omega)]
   rfl
 refine Mi (pc (pI 14 (i : Int) i (rdk hs)) (pF 16 i 0 1 (rdk hs))) (J := ?_)
 refine Md ((s.at i).name = t) (T := fun h2 => ?_) (F := fun h2 => ?_)
 · refine Mt [.int .i64 (i : Int)] fun bs w hS => ?_
   refine ⟨?_, hS.kp⟩
   rw [mIdx_here (p := (fun x : DPair => decide (x.name = t))) (i := i) (by omega) (decide_eq_true (by assumption)) hI]
   rfl
 refine Mi (pR ((i : Int) + 1)) (J := ?_)
 exact on1 (i + 1) ⟨by omega, fun j hj => by rcases Nat.lt_succ_iff_lt_or_eq.1 hj with h | h; exact hI j h; subst h; exact decide_eq_false (by assumption)⟩ (by omega)

theorem clone_Pair {B : Nat → Prop} (s : Sl DPair) (w : World) (hs : s.rd B w) (hb : s.n ≤ 1048576) : Calls Tryz.prog 69 #[.slice s.A s.n s.c] w fun e w' => ∃ y : Sl DPair, e = .returned y.val ∧ y.xs = s.xs ∧ Kp [] w w' ∧ Fresh w w' (rowA 128 y.A y.c y.xs) := by
 have oks := Sl.rd.ok hs
 have ncs := Sl.ok.nc oks
 have hns : s.n = s.xs.length := rfl
 refine M0 Tryz.func69 (J := ?_)
 refine Mi (pG [(4, .val (.bool s.A.isNone))] (oc ((eq_nil Tryz.underlying23) : ∀ w, (do eqGuard .eql 23 (.tmp 3) (.const (.slice none 0 0)) (.slice s.A s.n s.c) (.slice none 0 0); binOp .eql 23 (.slice s.A s.n s.c) (.slice none 0 0) : Sem Value).run Tryz.prog w = .ok (.bool s.A.isNone) w) on)) (J := ?_)
 refine Mb (s.A.isNone) (T := fun h1 => ?_) (F := fun h1 => ?_)
 · refine Mt [.slice none 0 0] fun bs w hS => ?_
   have hnil : s.xs = [] := Sl.ok.empty oks (by cases h : s.A <;> simp_all)
   exact ⟨Sl.nil, rfl, hnil.symm, hS.kp, rowA_nil 128 w⟩
 refine Mlz (α := DPair) (e := 128) (J := ?_)
 intro A1
 refine Ma (α := DPair) (L2 := s.xs) 40 (fun bs w hS => Sl.rd.src (s := s) (Sl.rd.kp hs hS.kp)) (h63 := (by simp only [List.length_nil]; omega)) (hb := (by simp only [List.length_nil]; omega)) (J := ?_)
 intro A2 c2
 exact Mt [.slice A2 ([] ++ s.xs).length c2] fun bs w hS => ⟨⟨A2, c2, [] ++ s.xs⟩, rfl, by simp, hS.kp, hS.out1⟩

theorem same_pairs {B B' : Nat → Prop} (a b : Sl DPair) (w : World) (ha : a.rd B w) (hb : b.rd B' w) (he : a.xs = b.xs) : Calls Tryz.prog 44 #[.slice a.A a.n a.c, .slice b.A b.n b.c] w fun e w' => e = .returned (.bool true) ∧ Kp [] w w' := by
 have oka := Sl.rd.ok ha
 have okb := Sl.rd.ok hb
 have hn := xs_n he
 have nca := Sl.ok.nc oka
 refine M0 Tryz.func44 (J := ?_)
 refine Mdn ((a.n : Int) = (b.n : Int)) (T := fun h1 => ?_) (F := fun h1 => ?_)
 rotate_left
 · exfalso; first | omega | exact h1 (xs_at he i)
 refine Ml (σ := Nat) (fun i => True) (fun i => a.n - i) (fun _ => []) [5, 0, 1] (fun i => [(5, vI (i : Int))]) (fun _ => []) 0 trivial (B := ?_)
 rintro i _ _ on1
 have hat := xs_at he i
 refine Md ((i : Int) < (a.n : Int)) (T := fun h2 => ?_) (F := fun h2 => ?_)
 rotate_left
 · exact Mt [.bool true] fun bs w hS => ⟨rfl, hS.kp⟩
 refine Mda 9 [] [] [] Tryz_mixed (J := ?_)
 refine Mih (pc (pA 19 20 (i : Int) i (rdk ha)) (pc (pA 23 24 (i : Int) i (rdk hb)) (pG [(25, .val (.bool (!((decide ((a.at i).name = (b.at i).name)) && ((decide ((a.at i).value = (b.at i).value)) && ((decide ((a.at i).version = (b.at i).version)) && true))))))] (oc ((neq_agg (by kernel_rfl) (by kernel_rfl)) : ∀ w, (do eqGuard .neq 128 (.tmp 20) (.tmp 24) (.agg #[.string (a.at i).name, .string (a.at i).value, .int .i64 (a.at i).version]) (.agg #[.string (b.at i).name, .string (b.at i).value, .int .i64 (b.at i).version]); binOp .neq 128 (.agg #[.string (a.at i).name, .string (a.at i).value, .int .i64 (a.at i).version]) (.agg #[.string (b.at i).name, .string (b.at i).value, .int .i64 (b.at i).version]) : Sem Value).run Tryz.prog w = .ok (.bool (!((decide ((a.at i).name = (b.at i).name)) && ((decide ((a.at i).value = (b.at i).value)) && ((decide ((a.at i).version = (b.at i).version)) && true))))) w) on)))) (J := ?_)
 refine Mbn ((decide ((a.at i).name = (b.at i).name)) && ((decide ((a.at i).value = (b.at i).value)) && ((decide ((a.at i).version = (b.at i).version)) && true))) (T := fun h3 => ?_) (F := fun h3 => ?_)
 rotate_left
 · exfalso; simp [xs_at he i] at h3
 refine Mi (pR ((i : Int) + 1)) (J := ?_)
 exact on1 (i + 1) trivial (by omega)

theorem pair_Set {B : Nat → Prop} (s : Sl DPair) (t v : ByteArray) (w : World) (hs : s.rd B w) (ht : t.size ≤ 9223372036854775807) (hv : v.size ≤ 9223372036854775807) : Calls Tryz.prog 87 #[.slice s.A s.n s.c, .string t, .string v] w fun e w' => ∃ y : Sl DPair, e = .returned (.tuple #[.slice y.A y.n y.c, .agg #[.int .i64 ((mPSet s.xs t v).2.1).code, .int .i64 ((mPSet s.xs t v).2.1).n, .string ((mPSet s.xs t v).2.1).text], .int .i64 (mPSet s.xs t v).2.2]) ∧ y.xs = (mPSet s.xs t v).1 ∧ FreshS w w' y := by
 have oks := Sl.rd.ok hs
 have ncs := Sl.ok.nc oks
 have hns : s.n = s.xs.length := rfl
 refine M0 Tryz.func87 (J := ?_)
 refine Mp Tryz.call65 (fun bs w hS => pair_Check s w (Sl.rd.kp hs hS.kp)) (J := ?_)
 refine Mdn (mPairs s.xs = 0) (T := fun h1 => ?_) (F := fun h1 => ?_)
 rotate_left
 · refine Mt [.slice none 0 0, .agg #[.int .i64 0, .int .i64 0, .string emp], .int .i64 (mPairs s.xs)] fun bs w hS => ?_
   have hm : mPSet s.xs t v = ([], zRep, mPairs s.xs) := by
     unfold mPSet pIdx
     repeat (first | rw [if_pos (by first | assumption | omega)] | rw [if_neg (by first | assumption | omega | (intro h0; first | exact absurd h0 (by assumption) | (simp_all; done)))])
     all_goals rfl
   refine ⟨Sl.nil, ?_, ?_, hS.outS (Sl.rd_nil _ _)⟩
   · rw [hm] <;> rfl
   · rw [hm] <;> rfl
 have hln := (mPairs_bd h1).1
 refine Mp (vs := fun bs => [.string t]) Tryz.call129 (fun bs w hS => lock_Name _ w (by first | assumption | omega | (simp only [emp_size]; omega))) (J := ?_)
 refine Mbn (mName t) (T := fun h2 => ?_) (F := fun h2 => ?_)
 rotate_left
 · refine Mt [.slice none 0 0, .agg #[.int .i64 0, .int .i64 0, .string emp], .int .i64 4] fun bs w hS => ?_
   have hm : mPSet s.xs t v = ([], zRep, 4) := by
     unfold mPSet pIdx
     repeat (first | rw [if_pos (by first | assumption | omega)] | rw [if_neg (by first | assumption | omega | (intro h0; first | exact absurd h0 (by assumption) | (simp_all; done)))])
     all_goals rfl
   refine ⟨Sl.nil, ?_, ?_, hS.outS (Sl.rd_nil _ _)⟩
   · rw [hm] <;> rfl
   · rw [hm] <;> rfl
 refine Md ((12 : Int) < (v.size : Int)) (T := fun h3 => ?_) (F := fun h3 => ?_)
 · refine Mt [.slice none 0 0, .agg #[.int .i64 0, .int .i64 0, .string emp], .int .i64 1] fun bs w hS => ?_
   have hm : mPSet s.xs t v = ([], zRep, 1) := by
     unfold mPSet pIdx
     repeat (first | rw [if_pos (by first | assumption | omega)] | rw [if_neg (by first | assumption | omega | (intro h0; first | exact absurd h0 (by assumption) | (simp_all; done)))])
     all_goals rfl
   refine ⟨Sl.nil, ?_, ?_, hS.outS (Sl.rd_nil _ _)⟩
   · rw [hm] <;> rfl
   · rw [hm] <;> rfl
 refine Mf (σ := Sl DPair) (v := fun y1 => .slice y1.A y1.n y1.c) (F := fun y1 => y1.xs = s.xs) (r := fun y1 => rowA 128 y1.A y1.c (y1.xs : List DPair)) Tryz.call69 (fun bs w hS => clone_Pair s w (Sl.rd.kp hs hS.kp) (by omega)) (J := ?_)
 rintro y1 hF1
 obtain ⟨A1, c1, rfl⟩ := Sl.of_xs hF1
 refine m_weak (rowA 128 A1 c1 (s.xs : List DPair)) (List.Sublist.refl _) (fun w h => h) ?_
 refine m_know (F := RowOk A1 c1 (s.xs : List DPair)) (fun bs w hS => rowA_rok (hS.res _ (.head _))) fun hrow1 => ?_
 have nchrow1 := hrow1.2
 refine Mp (v := .tuple #[.int .i64 ((mBS (fun x : DPair => cmpS x.name t) s.xs : Nat) : Int), .bool (mBSf (fun x : DPair => cmpS x.name t) s.xs)]) Tryz.call151 (fun bs w hS => pair_find (⟨A1, c1, s.xs⟩ : Sl DPair) t w (Rr (B := anyB) (hS.res _ (.head _)) (fun _ _ => trivial) (fun z hz => Sl.rd.mem (s := s) hs z hz)) (show s.xs.length ≤ 1048576 by omega)) (J := ?_)
 have hbs := bsf_pair (l := s.xs) (by assumption) t
 have hJb := mIdx_bd (fun x : DPair => decide (x.name = t)) s.xs
 generalize hJ : mIdx (fun x : DPair => decide (x.name = t)) s.xs = J at hbs hJb
 have hkl := mBS_le (fun x : DPair => cmpS x.name t) s.xs
 generalize hk : mBS (fun x : DPair => cmpS x.name t) s.xs = k at hbs hkl ⊢
 generalize hf : mBSf (fun x : DPair => cmpS x.name t) s.xs = fb at hbs ⊢
 refine Mbn (fb) [(11, false)] (T := fun h4 => ?_) (F := fun h4 => ?_)
 rotate_left
 · have h0J := of_decide_eq_false (hbs.1.symm.trans h4)
   refine Md ((s.xs.length : Int) = 5) (T := fun h6 => ?_) (F := fun h6 => ?_)
   · refine Mt [.slice A1 s.xs.length c1, .agg #[.int .i64 8, .int .i64 0, .string emp], .int .i64 0] fun bs w hS => ?_
     have hm : mPSet s.xs t v = (s.xs, ⟨8, 0, emp⟩, 0) := by
       unfold mPSet pIdx
       simp only [hJ, Int.toNat_natCast]
       repeat (first | rw [if_pos (by first | assumption | omega)] | rw [if_neg (by first | assumption | omega | (intro h0; first | exact absurd h0 (by assumption) | (simp_all; done)))])
       all_goals rfl
     refine ⟨⟨A1, c1, s.xs⟩, ?_, ?_, hS.outS (y := (⟨A1, c1, s.xs⟩ : Sl DPair)) (allR_row (.head _) (hS.res _ (.head _)) (fun z hz => Sl.rd.mem (s := s) hs z hz))⟩
     · rw [hm] <;> rfl
     · exact Eq.trans rfl (congrArg Prod.fst hm).symm
   refine M1 (J := ?_)
   refine Mtu (σ := Option Addr × Nat) (v := fun q5 => .slice q5.1 (s.xs.take k ++ [(⟨t, v, 1⟩ : DPair)] ++ s.xs.drop k).length q5.2) (F := fun q5 => True) (r := fun q5 => rowA 128 q5.1 q5.2 (s.xs.take k ++ [(⟨t, v, 1⟩ : DPair)] ++ s.xs.drop k : List DPair)) (vs := fun bs => [.slice A1 s.xs.length c1, .int .i64 (k : Int), .slice (some (adr bs 1 0)) 1 1]) Tryz.call152 (fun bs w hS => (insR_Pair A1 c1 s.xs k _ (⟨t, v, 1⟩ : DPair) (bs.getD 1 0) 128 w (hS.res _ (.head _)) hS.head1.2.2 rfl (by first | omega | (simp only [Sl.n] at *; omega)) (by first | omega | (simp only [Sl.n] at *; omega)) (hS.loc 1 ⟨128, [vS t, vS v, vI 1]⟩ (by kernel_rfl) (by simp)) (hS.ne_head (i := 1) (b := ⟨128, [vS t, vS v, vI 1]⟩) (by kernel_rfl))).mono (fun e w' ⟨y, h1, h2⟩ => ⟨y, h1, trivial, h2⟩)) (J := ?_)
   rintro q5 _
   refine Mt [.slice q5.1 (s.xs.take k ++ [(⟨t, v, 1⟩ : DPair)] ++ s.xs.drop k).length q5.2, .agg #[.int .i64 0, .int .i64 1, .string emp], .int .i64 0] fun bs w hS => ?_
   have hvx : s.xs.take k ++ [(⟨t, v, 1⟩ : DPair)] ++ s.xs.drop k = mIns (fun x : DPair => Op.bytesLess t.toList x.name.toList) ⟨t, v, 1⟩ s.xs := ins_at ((ins_names DPair.name (pairs_srt (by assumption) t) (by rw [hJ]; omega)).trans hk)
   have hm : mPSet s.xs t v = (mIns (fun x : DPair => Op.bytesLess t.toList x.name.toList) ⟨t, v, 1⟩ s.xs, ⟨0, 1, emp⟩, 0) := by
     unfold mPSet pIdx
     simp only [hJ, Int.toNat_natCast]
     repeat (first | rw [if_pos (by first | assumption | omega)] | rw [if_neg (by first | assumption | omega | (intro h0; first | exact absurd h0 (by assumption) | (simp_all; done)))])
     all_goals rfl
   refine ⟨⟨q5.1, q5.2, s.xs.take k ++ [(⟨t, v, 1⟩ : DPair)] ++ s.xs.drop k⟩, ?_, ?_, hS.outS (y := (⟨q5.1, q5.2, s.xs.take k ++ [(⟨t, v, 1⟩ : DPair)] ++ s.xs.drop k⟩ : Sl DPair)) (allR_row (.head _) (hS.res _ (.head _)) (fun z hz => ?_))⟩
   · rw [hm] <;> rfl
   · exact Eq.trans hvx (congrArg Prod.fst hm).symm
   · rw [hvx] at hz
     rcases ins_mem hz with hz | hz
     · subst hz; exact ⟨ht, hv⟩
     · exact Sl.rd.mem (s := s) hs z hz
 have hkJ := hbs.2 h4
 subst hkJ
 have hpv := pairF_bd ((mPairs_bd (l := s.xs) (by assumption)).2 k (by omega))
 have hpv1 := hpv.2.2.1
 have hpv2 := hpv.2.2.2.1
 refine Mi (pc (pIo 46 (k : Int) k s.xs.length (.head _)) (pFo 48 k 2 1 (.head _))) (J := ?_)
 refine Md ((s.xs.getD k default).version = 1073741824) (T := fun h5 => ?_) (F := fun h5 => ?_)
 · refine Mt [.slice A1 s.xs.length c1, .agg #[.int .i64 8, .int .i64 0, .string emp], .int .i64 0] fun bs w hS => ?_
   have hm : mPSet s.xs t v = (s.xs, ⟨8, 0, emp⟩, 0) := by
     unfold mPSet pIdx
     simp only [hJ, Int.toNat_natCast]
     repeat (first | rw [if_pos (by first | assumption | omega)] | rw [if_neg (by first | assumption | omega | (intro h0; first | exact absurd h0 (by assumption) | (simp_all; done)))])
     all_goals rfl
   refine ⟨⟨A1, c1, s.xs⟩, ?_, ?_, hS.outS (y := (⟨A1, c1, s.xs⟩ : Sl DPair)) (allR_row (.head _) (hS.res _ (.head _)) (fun z hz => Sl.rd.mem (s := s) hs z hz))⟩
   · rw [hm] <;> rfl
   · exact Eq.trans rfl (congrArg Prod.fst hm).symm
 refine Mi (pIo 67 (k : Int) k s.xs.length (.head _)) (J := ?_)
 refine Ms k 1 (⟨(s.xs.getD k default).name, v, (s.xs.getD k default).version⟩ : DPair) (by omega) (J := ?_)
 intro L3 hL3 hlL3
 have hgL3 : L3.getD k default = (⟨(s.xs.getD k default).name, v, (s.xs.getD k default).version⟩ : DPair) := by rw [hL3]; exact getD_set (by omega)
 have hbL3 : L3 = List.set s.xs k (⟨(s.xs.getD k default).name, v, (s.xs.getD k default).version⟩ : DPair) := by rw [hL3]
 refine Mi (pc (pIo 71 (k : Int) k s.xs.length (.head _)) (pc (pFk 73 k 2 1 hgL3 (.head _)) (pc (pR ((s.xs.getD k default).version + 1)) (pIo 75 (k : Int) k s.xs.length (.head _))))) (J := ?_)
 refine Ms k 2 (⟨(s.xs.getD k default).name, v, (s.xs.getD k default).version + 1⟩ : DPair) (by omega) (hg := hgL3) (J := ?_)
 intro L4 hL4 hlL4
 have hgL4 : L4.getD k default = (⟨(s.xs.getD k default).name, v, (s.xs.getD k default).version + 1⟩ : DPair) := by rw [hL4]; exact getD_set (by omega)
 have hbL4 : L4 = List.set s.xs k (⟨(s.xs.getD k default).name, v, (s.xs.getD k default).version + 1⟩ : DPair) := by rw [hL4, hbL3, List.set_set]
 refine Mda 10 [] [0] [rowA 128 A1 c1 (L4 : List DPair)] Tryz_mixed (J := ?_)
 refine Mih (pc (pIo 80 (k : Int) k s.xs.length (.head _)) (pFk 82 k 2 1 hgL4 (.head _))) (J := ?_)
 refine Mz (J := ?_)
 refine Mt [.slice A1 s.xs.length c1, .agg #[.int .i64 0, .int .i64 ((s.xs.getD k default).version + 1), .string emp], .int .i64 0] fun bs w hS => ?_
 have hvx : L4 = s.xs.set k ⟨(s.xs.getD k default).name, v, (s.xs.getD k default).version + 1⟩ := hbL4
 have hm : mPSet s.xs t v = (s.xs.set k ⟨(s.xs.getD k default).name, v, (s.xs.getD k default).version + 1⟩, ⟨0, (s.xs.getD k default).version + 1, emp⟩, 0) := by
   unfold mPSet pIdx
   simp only [hJ, Int.toNat_natCast]
   repeat (first | rw [if_pos (by first | assumption | omega)] | rw [if_neg (by first | assumption | omega | (intro h0; first | exact absurd h0 (by assumption) | (simp_all; done)))])
   all_goals rfl
 refine ⟨⟨A1, c1, L4⟩, ?_, ?_, hS.outS (y := (⟨A1, c1, L4⟩ : Sl DPair)) (allR_row (.head _) (hS.res _ (.head _)) (fun z hz => ?_))⟩
 · have hll : L4.length = s.xs.length := by rw [hvx, List.length_set]
   rw [hm]
   exact congrArg (fun q => Ending.returned (.tuple #[.slice A1 q c1, .agg #[.int .i64 0, .int .i64 ((s.xs.getD k default).version + 1), .string emp], .int .i64 0])) hll.symm
 · exact Eq.trans hvx (congrArg Prod.fst hm).symm
 · rw [hvx] at hz
   rcases mem_set hz with hz | hz
   · subst hz; exact ⟨(Sl.rd.mem (s := s) hs _ (mem_of_getD (i := k) (by omega))).1, hv⟩
   · exact Sl.rd.mem (s := s) hs z hz

theorem ref_SetOf {B : Nat → Prop} (s : Sl DPair) (t v : ByteArray) (w : World) (hs : s.rd B w) (ht : t.size ≤ 9223372036854775807) (hv : v.size ≤ 9223372036854775807) : Calls Tryz.prog 41 #[.slice s.A s.n s.c, .string t, .string v] w fun e w' => ∃ y : Sl DPair, e = .returned (.tuple #[.slice y.A y.n y.c, .agg #[.int .i64 ((mPSet s.xs t v).2.1).code, .int .i64 ((mPSet s.xs t v).2.1).n, .string ((mPSet s.xs t v).2.1).text], .int .i64 (mPSet s.xs t v).2.2]) ∧ y.xs = (mPSet s.xs t v).1 ∧ FreshS w w' y := by
 have oks := Sl.rd.ok hs
 have ncs := Sl.ok.nc oks
 have hns : s.n = s.xs.length := rfl
 refine M0 Tryz.func41 (J := ?_)
 refine Mp Tryz.call94 (fun bs w hS => ref_PairsFault s w (Sl.rd.kp hs hS.kp)) (J := ?_)
 refine Md (mPairs s.xs = 0) (T := fun h1 => ?_) (F := fun h1 => ?_)
 rotate_left
 · refine Md (mPairs s.xs = 0) (T := fun h13 => ?_) (F := fun h13 => ?_)
   · exact absurd h13 h1
   refine Mdn (mPairs s.xs = 0) (T := fun h14 => ?_) (F := fun h14 => ?_)
   · exact absurd h14 h1
   refine Mt [.slice none 0 0, .agg #[.int .i64 0, .int .i64 0, .string emp], .int .i64 (mPairs s.xs)] fun bs w hS => ?_
   have hm : mPSet s.xs t v = ([], zRep, mPairs s.xs) := by
     unfold mPSet pIdx
     repeat (first | rw [if_pos (by first | assumption | omega)] | rw [if_neg (by first | assumption | omega | (intro h0; first | exact absurd h0 (by assumption) | (simp_all; done)))])
     all_goals rfl
   refine ⟨Sl.nil, ?_, ?_, hS.outS (Sl.rd_nil _ _)⟩
   · rw [hm] <;> rfl
   · rw [hm] <;> rfl
 have hln := (mPairs_bd h1).1
 refine Mp (vs := fun bs => [.string t]) Tryz.call107 (fun bs w hS => ref_NameMay _ w (by first | assumption | omega | (simp only [emp_size]; omega))) (J := ?_)
 refine Mbn (mName t) (T := fun h2 => ?_) (F := fun h2 => ?_)
 rotate_left
 · refine Mq 26 false rfl (J := ?_)
   refine Mq 32 true rfl (J := ?_)
   refine Mt [.slice none 0 0, .agg #[.int .i64 0, .int .i64 0, .string emp], .int .i64 4] fun bs w hS => ?_
   have hm : mPSet s.xs t v = ([], zRep, 4) := by
     unfold mPSet pIdx
     repeat (first | rw [if_pos (by first | assumption | omega)] | rw [if_neg (by first | assumption | omega | (intro h0; first | exact absurd h0 (by assumption) | (simp_all; done)))])
     all_goals rfl
   refine ⟨Sl.nil, ?_, ?_, hS.outS (Sl.rd_nil _ _)⟩
   · rw [hm] <;> rfl
   · rw [hm] <;> rfl
 refine Md (mPairs s.xs = 0) (T := fun h3 => ?_) (F := fun h3 => ?_)
 rotate_left
 · exact absurd h1 h3
 have hln := (mPairs_bd h3).1
 refine Md ((12 : Int) < (v.size : Int)) (T := fun h4 => ?_) (F := fun h4 => ?_)
 · refine Mq 32 true rfl (J := ?_)
   refine Mt [.slice none 0 0, .agg #[.int .i64 0, .int .i64 0, .string emp], .int .i64 1] fun bs w hS => ?_
   have hm : mPSet s.xs t v = ([], zRep, 1) := by
     unfold mPSet pIdx
     repeat (first | rw [if_pos (by first | assumption | omega)] | rw [if_neg (by first | assumption | omega | (intro h0; first | exact absurd h0 (by assumption) | (simp_all; done)))])
     all_goals rfl
   refine ⟨Sl.nil, ?_, ?_, hS.outS (Sl.rd_nil _ _)⟩
   · rw [hm] <;> rfl
   · rw [hm] <;> rfl
 refine Mdn (mPairs s.xs = 0) (T := fun h5 => ?_) (F := fun h5 => ?_)
 rotate_left
 · exact absurd h1 h5
 have hln := (mPairs_bd h5).1
 refine m_rowA (α := DPair) 128 ?_
 refine Ma (α := DPair) (L2 := s.xs) 40 (fun bs w hS => Sl.rd.src (s := s) (Sl.rd.kp hs hS.kp)) (h63 := (by first | omega | (simp only [List.length_append, List.length_nil, List.length_cons]; omega))) (hb := (by first | omega | (simp only [List.length_append, List.length_nil, List.length_cons]; omega))) (J := ?_)
 intro A1 c1
 refine m_weak (rowA 128 A1 c1 (s.xs : List DPair)) (List.Sublist.refl _) (fun w h => h) ?_
 refine m_know (F := RowOk A1 c1 (s.xs : List DPair)) (fun bs w hS => rowA_rok (hS.res _ (.head _))) fun hrow1 => ?_
 have nchrow1 := hrow1.2
 refine Mp (v := .int .i64 (mIdx (fun x : DPair => decide (x.name = t)) s.xs)) Tryz.call106 (fun bs w hS => tackroomref_pairAt (⟨A1, c1, s.xs⟩ : Sl DPair) t w (Rr (B := anyB) (hS.res _ (.head _)) (fun _ _ => trivial) (fun z hz => Sl.rd.mem (s := s) hs z hz))) (J := ?_)
 have hJb := mIdx_bd (fun x : DPair => decide (x.name = t)) s.xs
 generalize hJ : mIdx (fun x : DPair => decide (x.name = t)) s.xs = J at hJb ⊢
 refine Md ((0 : Int) ≤ J) (T := fun h6 => ?_) (F := fun h6 => ?_)
 · have h0J : 0 ≤ J := by omega
   have hpv := pairF_bd ((mPairs_bd (l := s.xs) (by assumption)).2 J.toNat (by omega))
   have hpv1 := hpv.2.2.1
   have hpv2 := hpv.2.2.2.1
   refine Mi (pc (pIo 44 J J.toNat (s.xs).length (.head _)) (pFo 46 J.toNat 2 1 (.head _))) (J := ?_)
   refine Md ((1073741824 : Int) ≤ (s.xs.getD J.toNat default).version) (T := fun h7 => ?_) (F := fun h7 => ?_)
   · refine Mt [.slice A1 (s.xs).length c1, .agg #[.int .i64 8, .int .i64 0, .string emp], .int .i64 0] fun bs w hS => ?_
     have hm : mPSet s.xs t v = (s.xs, ⟨8, 0, emp⟩, 0) := by
       unfold mPSet pIdx
       simp only [hJ]
       repeat (first | rw [if_pos (by first | assumption | omega)] | rw [if_neg (by first | assumption | omega | (intro h0; first | exact absurd h0 (by assumption) | (simp_all; done)))])
       all_goals rfl
     refine ⟨⟨A1, c1, s.xs⟩, ?_, ?_, hS.outS (y := (⟨A1, c1, s.xs⟩ : Sl DPair)) (allR_row (.head _) (hS.res _ (.head _)) (fun z hz => Sl.rd.mem (s := s) hs z hz))⟩
     · rw [hm] <;> rfl
     · exact Eq.trans rfl (congrArg Prod.fst hm).symm
   refine Mi (pIo 53 J J.toNat (s.xs).length (.head _)) (J := ?_)
   refine Ms J.toNat 1 (⟨(s.xs.getD J.toNat default).name, v, (s.xs.getD J.toNat default).version⟩ : DPair) (by omega) (J := ?_)
   intro L2 hL2 hlL2
   have hgL2 : L2.getD J.toNat default = (⟨(s.xs.getD J.toNat default).name, v, (s.xs.getD J.toNat default).version⟩ : DPair) := by rw [hL2]; exact getD_set (by omega)
   have hbL2 : L2 = List.set s.xs J.toNat (⟨(s.xs.getD J.toNat default).name, v, (s.xs.getD J.toNat default).version⟩ : DPair) := by rw [hL2]
   refine Mi (pc (pIo 57 J J.toNat (s.xs).length (.head _)) (pc (pFk 59 J.toNat 2 1 hgL2 (.head _)) (pc (pR ((s.xs.getD J.toNat default).version + 1)) (pIo 61 J J.toNat (s.xs).length (.head _))))) (J := ?_)
   refine Ms J.toNat 2 (⟨(s.xs.getD J.toNat default).name, v, (s.xs.getD J.toNat default).version + 1⟩ : DPair) (by omega) (hg := hgL2) (J := ?_)
   intro L3 hL3 hlL3
   have hgL3 : L3.getD J.toNat default = (⟨(s.xs.getD J.toNat default).name, v, (s.xs.getD J.toNat default).version + 1⟩ : DPair) := by rw [hL3]; exact getD_set (by omega)
   have hbL3 : L3 = List.set s.xs J.toNat (⟨(s.xs.getD J.toNat default).name, v, (s.xs.getD J.toNat default).version + 1⟩ : DPair) := by rw [hL3, hbL2, List.set_set]
   refine Mda 10 [] [0] [rowA 128 A1 c1 (L3 : List DPair)] Tryz_mixed (J := ?_)
   refine Mih (pc (pIo 66 J J.toNat (s.xs).length (.head _)) (pFk 68 J.toNat 2 1 hgL3 (.head _))) (J := ?_)
   refine Mz (J := ?_)
   refine Mt [.slice A1 (s.xs).length c1, .agg #[.int .i64 0, .int .i64 ((s.xs.getD J.toNat default).version + 1), .string emp], .int .i64 0] fun bs w hS => ?_
   have hvx : L3 = s.xs.set J.toNat ⟨(s.xs.getD J.toNat default).name, v, (s.xs.getD J.toNat default).version + 1⟩ := hbL3
   have hm : mPSet s.xs t v = (s.xs.set J.toNat ⟨(s.xs.getD J.toNat default).name, v, (s.xs.getD J.toNat default).version + 1⟩, ⟨0, (s.xs.getD J.toNat default).version + 1, emp⟩, 0) := by
     unfold mPSet pIdx
     simp only [hJ]
     repeat (first | rw [if_pos (by first | assumption | omega)] | rw [if_neg (by first | assumption | omega | (intro h0; first | exact absurd h0 (by assumption) | (simp_all; done)))])
     all_goals rfl
   refine ⟨⟨A1, c1, L3⟩, ?_, ?_, hS.outS (y := (⟨A1, c1, L3⟩ : Sl DPair)) (allR_row (.head _) (hS.res _ (.head _)) (fun z hz => ?_))⟩
   · have hll : L3.length = s.xs.length := by rw [hvx, List.length_set]
     rw [hm]
     exact congrArg (fun q => Ending.returned (.tuple #[.slice A1 q c1, .agg #[.int .i64 0, .int .i64 ((s.xs.getD J.toNat default).version + 1), .string emp], .int .i64 0])) hll.symm
   · exact Eq.trans hvx (congrArg Prod.fst hm).symm
   · rw [hvx] at hz
     rcases mem_set hz with hz | hz
     · subst hz; exact ⟨(Sl.rd.mem (s := s) hs _ (mem_of_getD (i := J.toNat) (by omega))).1, hv⟩
     · exact Sl.rd.mem (s := s) hs z hz
 have h0J : ¬ 0 ≤ J := by omega
 refine Md ((5 : Int) ≤ (((s.xs).length : Nat) : Int)) (T := fun h8 => ?_) (F := fun h8 => ?_)
 · refine Mt [.slice A1 (s.xs).length c1, .agg #[.int .i64 8, .int .i64 0, .string emp], .int .i64 0] fun bs w hS => ?_
   have hm : mPSet s.xs t v = (s.xs, ⟨8, 0, emp⟩, 0) := by
     unfold mPSet pIdx
     simp only [hJ]
     repeat (first | rw [if_pos (by first | assumption | omega)] | rw [if_neg (by first | assumption | omega | (intro h0; first | exact absurd h0 (by assumption) | (simp_all; done)))])
     all_goals rfl
   refine ⟨⟨A1, c1, s.xs⟩, ?_, ?_, hS.outS (y := (⟨A1, c1, s.xs⟩ : Sl DPair)) (allR_row (.head _) (hS.res _ (.head _)) (fun z hz => Sl.rd.mem (s := s) hs z hz))⟩
   · rw [hm] <;> rfl
   · exact Eq.trans rfl (congrArg Prod.fst hm).symm
 refine m_rowA (α := DPair) 128 ?_
 refine Ml (σ := Nat × Bool × Option Addr × Nat × List DPair) (fun ⟨k, b, A, c, L⟩ => InsI (fun x : DPair => Op.bytesLess t.toList x.name.toList) (⟨t, v, 1⟩ : DPair) s.xs k b L) (fun ⟨k, b, A, c, L⟩ => s.xs.length - k) (fun ⟨k, b, A, c, L⟩ => [rowA 128 A c (L : List DPair), rowA 128 A1 c1 (s.xs : List DPair)]) [14, 13, 12, 10, 7, 1, 2] (fun ⟨k, b, A, c, L⟩ => [(14, vI (k : Int)), (13, vB b), (12, .v (.slice A L.length c))]) (fun _ => []) (⟨0, false, none, 0, []⟩) (show InsI (fun x : DPair => Op.bytesLess t.toList x.name.toList) (⟨t, v, 1⟩ : DPair) s.xs 0 false [] from InsI.start _ _ _) (B := ?_)
 rintro ⟨k, b, A, c, L⟩ hI _ on1
 have hIl := hI.len
 have hIk := hI.le
 refine Md ((k : Int) < (((s.xs).length : Nat) : Int)) (T := fun h9 => ?_) (F := fun h9 => ?_)
 rotate_left
 · refine Mbn (b) (T := fun h12 => ?_) (F := fun h12 => ?_)
   · refine Mt [.slice A L.length c, .agg #[.int .i64 0, .int .i64 1, .string emp], .int .i64 0] fun bs w hS => ?_
     clear on1
     have hvx : L = mIns (fun x : DPair => Op.bytesLess t.toList x.name.toList) ⟨t, v, 1⟩ s.xs := (hI.fin1 (by assumption) (by omega))
     have hm : mPSet s.xs t v = (mIns (fun x : DPair => Op.bytesLess t.toList x.name.toList) ⟨t, v, 1⟩ s.xs, ⟨0, 1, emp⟩, 0) := by
       unfold mPSet pIdx
       simp only [hJ]
       repeat (first | rw [if_pos (by first | assumption | omega)] | rw [if_neg (by first | assumption | omega | (intro h0; first | exact absurd h0 (by assumption) | (simp_all; done)))])
       all_goals rfl
     refine ⟨⟨A, c, L⟩, ?_, ?_, hS.outS (y := (⟨A, c, L⟩ : Sl DPair)) (allR_row (.head _) (hS.res _ (.head _)) (fun z hz => ?_))⟩
     · rw [hm] <;> rfl
     · exact Eq.trans hvx (congrArg Prod.fst hm).symm
     · rw [hvx] at hz
       rcases ins_mem hz with hz | hz
       · subst hz; exact ⟨ht, hv⟩
       · exact Sl.rd.mem (s := s) hs z hz
   refine M1 (J := ?_)
   refine Mal (α := DPair) 40 ([(⟨t, v, 1⟩ : DPair)]) (h63 := (by first | omega | (simp only [List.length_append, List.length_nil, List.length_cons]; omega))) (hb := (by first | omega | (simp only [List.length_append, List.length_nil, List.length_cons]; omega))) (J := ?_)
   intro A8 c8
   refine m_know (F := RowOk A8 c8 (L ++ [(⟨t, v, 1⟩ : DPair)] : List DPair)) (fun bs w hS => rowA_rok (hS.res _ (.head _))) fun hrow8 => ?_
   have nchrow8 := hrow8.2
   refine Mt [.slice A8 (L ++ [(⟨t, v, 1⟩ : DPair)]).length c8, .agg #[.int .i64 0, .int .i64 1, .string emp], .int .i64 0] fun bs w hS => ?_
   clear on1
   have hvx : L ++ [(⟨t, v, 1⟩ : DPair)] = mIns (fun x : DPair => Op.bytesLess t.toList x.name.toList) ⟨t, v, 1⟩ s.xs := (hI.fin0 (by assumption) (by omega))
   have hm : mPSet s.xs t v = (mIns (fun x : DPair => Op.bytesLess t.toList x.name.toList) ⟨t, v, 1⟩ s.xs, ⟨0, 1, emp⟩, 0) := by
     unfold mPSet pIdx
     simp only [hJ]
     repeat (first | rw [if_pos (by first | assumption | omega)] | rw [if_neg (by first | assumption | omega | (intro h0; first | exact absurd h0 (by assumption) | (simp_all; done)))])
     all_goals rfl
   refine ⟨⟨A8, c8, L ++ [(⟨t, v, 1⟩ : DPair)]⟩, ?_, ?_, hS.outS (y := (⟨A8, c8, L ++ [(⟨t, v, 1⟩ : DPair)]⟩ : Sl DPair)) (allR_row (.head _) (hS.res _ (.head _)) (fun z hz => ?_))⟩
   · rw [hm] <;> rfl
   · exact Eq.trans hvx (congrArg Prod.fst hm).symm
   · rw [hvx] at hz
     rcases ins_mem hz with hz | hz
     · subst hz; exact ⟨ht, hv⟩
     · exact Sl.rd.mem (s := s) hs z hz
 refine Mbn (b) [(13, false)] (T := fun h10 => ?_) (F := fun h10 => ?_)
 · refine Mi (pc (pIo 101 (k : Int) k (s.xs).length (.tail _ (.head _))) (pEo 102 k (.tail _ (.head _)))) (J := ?_)
   refine M1 (J := ?_)
   refine Mal (α := DPair) 40 ([(⟨(s.xs.getD k default).name, (s.xs.getD k default).value, (s.xs.getD k default).version⟩ : DPair)]) (h63 := (by first | omega | (simp only [List.length_append, List.length_nil, List.length_cons]; omega))) (hb := (by first | omega | (simp only [List.length_append, List.length_nil, List.length_cons]; omega))) (J := ?_)
   intro A4 c4
   refine m_know (F := RowOk A4 c4 (L ++ [(⟨(s.xs.getD k default).name, (s.xs.getD k default).value, (s.xs.getD k default).version⟩ : DPair)] : List DPair)) (fun bs w hS => rowA_rok (hS.res _ (.head _))) fun hrow4 => ?_
   have nchrow4 := hrow4.2
   refine Mi (pR ((k : Int) + 1)) (J := ?_)
   exact on1 (⟨k + 1, true, A4, c4, L ++ [(⟨(s.xs.getD k default).name, (s.xs.getD k default).value, (s.xs.getD k default).version⟩ : DPair)]⟩ : Nat × Bool × Option Addr × Nat × List DPair) (by first | exact hI.more (by assumption) (by omega) | exact hI.hit (by assumption) (by omega) (by assumption) | exact hI.skip (by assumption) (by omega) (by assumption)) (by show s.xs.length - (k + 1) < s.xs.length - k; omega)
 refine Mi (pc (pIo 86 (k : Int) k (s.xs).length (.tail _ (.head _))) (pFo 88 k 0 1 (.tail _ (.head _)))) (J := ?_)
 refine Mbn (Op.bytesLess ((s.xs.getD k default).name).toList (t).toList || decide ((s.xs.getD k default).name = t)) (T := fun h11 => ?_) (F := fun h11 => ?_)
 · rw [bytes_total] at h11
   simp only [Bool.not_eq_true', Bool.not_eq_false', Bool.not_eq_true, Bool.not_eq_false] at h11
   refine Mi (pc (pIo 101 (k : Int) k (s.xs).length (.tail _ (.head _))) (pEo 102 k (.tail _ (.head _)))) (J := ?_)
   refine M1 (J := ?_)
   refine Mal (α := DPair) 40 ([(⟨(s.xs.getD k default).name, (s.xs.getD k default).value, (s.xs.getD k default).version⟩ : DPair)]) (h63 := (by first | omega | (simp only [List.length_append, List.length_nil, List.length_cons]; omega))) (hb := (by first | omega | (simp only [List.length_append, List.length_nil, List.length_cons]; omega))) (J := ?_)
   intro A5 c5
   refine m_know (F := RowOk A5 c5 (L ++ [(⟨(s.xs.getD k default).name, (s.xs.getD k default).value, (s.xs.getD k default).version⟩ : DPair)] : List DPair)) (fun bs w hS => rowA_rok (hS.res _ (.head _))) fun hrow5 => ?_
   have nchrow5 := hrow5.2
   refine Mi (pR ((k : Int) + 1)) (J := ?_)
   exact on1 (⟨k + 1, false, A5, c5, L ++ [(⟨(s.xs.getD k default).name, (s.xs.getD k default).value, (s.xs.getD k default).version⟩ : DPair)]⟩ : Nat × Bool × Option Addr × Nat × List DPair) (by first | exact hI.more (by assumption) (by omega) | exact hI.hit (by assumption) (by omega) (by assumption) | exact hI.skip (by assumption) (by omega) (by assumption)) (by show s.xs.length - (k + 1) < s.xs.length - k; omega)
 rw [bytes_total] at h11
 simp only [Bool.not_eq_true', Bool.not_eq_false', Bool.not_eq_true, Bool.not_eq_false] at h11
 refine M1 (J := ?_)
 refine Mal (α := DPair) 40 ([(⟨t, v, 1⟩ : DPair)]) (h63 := (by first | omega | (simp only [List.length_append, List.length_nil, List.length_cons]; omega))) (hb := (by first | omega | (simp only [List.length_append, List.length_nil, List.length_cons]; omega))) (J := ?_)
 intro A6 c6
 refine m_know (F := RowOk A6 c6 (L ++ [(⟨t, v, 1⟩ : DPair)] : List DPair)) (fun bs w hS => rowA_rok (hS.res _ (.head _))) fun hrow6 => ?_
 have nchrow6 := hrow6.2
 refine Mi (pc (pIo 101 (k : Int) k (s.xs).length (.tail _ (.head _))) (pEo 102 k (.tail _ (.head _)))) (J := ?_)
 refine M1 (J := ?_)
 refine Mal (α := DPair) 40 ([(⟨(s.xs.getD k default).name, (s.xs.getD k default).value, (s.xs.getD k default).version⟩ : DPair)]) (h63 := (by first | omega | (simp only [List.length_append, List.length_nil, List.length_cons]; omega))) (hb := (by first | omega | (simp only [List.length_append, List.length_nil, List.length_cons]; omega))) (J := ?_)
 intro A7 c7
 refine m_know (F := RowOk A7 c7 (L ++ [(⟨t, v, 1⟩ : DPair)] ++ [(⟨(s.xs.getD k default).name, (s.xs.getD k default).value, (s.xs.getD k default).version⟩ : DPair)] : List DPair)) (fun bs w hS => rowA_rok (hS.res _ (.head _))) fun hrow7 => ?_
 have nchrow7 := hrow7.2
 refine Mi (pR ((k : Int) + 1)) (J := ?_)
 exact on1 (⟨k + 1, true, A7, c7, L ++ [(⟨t, v, 1⟩ : DPair)] ++ [(⟨(s.xs.getD k default).name, (s.xs.getD k default).value, (s.xs.getD k default).version⟩ : DPair)]⟩ : Nat × Bool × Option Addr × Nat × List DPair) (by first | exact hI.more (by assumption) (by omega) | exact hI.hit (by assumption) (by omega) (by assumption) | exact hI.skip (by assumption) (by omega) (by assumption)) (by show s.xs.length - (k + 1) < s.xs.length - k; omega)

theorem session_Join {B : Nat → Prop} (s : Sl CSession) (n t : Int) (w : World) (hs : s.rd B w) (ht : inR t) : Calls Tryz.prog 25 #[.slice s.A s.n s.c, .int .i64 n, .int .i64 t] w fun e w' => ∃ y : Sl CSession, e = .returned (.tuple #[.slice y.A y.n y.c, .agg #[.int .i64 ((mJoin (s.xs.map CSession.abs) n t).2.1).code, .int .i64 ((mJoin (s.xs.map CSession.abs) n t).2.1).n, .string ((mJoin (s.xs.map CSession.abs) n t).2.1).text], .int .i64 (mJoin (s.xs.map CSession.abs) n t).2.2]) ∧ y.xs.map CSession.abs = (mJoin (s.xs.map CSession.abs) n t).1 ∧ FreshS w w' y := by
 have oks := Sl.rd.ok hs
 have ncs := Sl.ok.nc oks
 have hns : s.n = s.xs.length := rfl
 have hml : (s.xs.map CSession.abs).length = s.n := by simp
 refine M0 Tryz.func25 (J := ?_)
 refine Mp Tryz.call63 (fun bs w hS => session_Check s n w (Sl.rd.kp hs hS.kp)) (J := ?_)
 refine Mdn (mSess (s.xs.map CSession.abs) n = 0) (T := fun h1 => ?_) (F := fun h1 => ?_)
 rotate_left
 · refine Mt [.slice none 0 0, .agg #[.int .i64 0, .int .i64 0, .string emp], .int .i64 (mSess (s.xs.map CSession.abs) n)] fun bs w hS => ?_
   have hm : mJoin (s.xs.map CSession.abs) n t = ([], zRep, mSess (s.xs.map CSession.abs) n) := by
     unfold mJoin sIdx
     repeat (first | rw [if_pos (by first | assumption | omega)] | rw [if_neg (by first | assumption | omega | (intro h0; first | exact absurd h0 (by assumption) | (simp_all; done)))])
     all_goals rfl
   refine ⟨Sl.nil, ?_, ?_, hS.outS (Sl.rd_nil _ _)⟩
   · rw [hm] <;> rfl
   · rw [hm] <;> rfl
 obtain ⟨hi0, hi1, hln, hall⟩ := mSess_bd h1
 have hln2 : s.xs.length ≤ 4 := by simpa using hln
 refine Md (t < 1) (T := fun h2 => ?_) (F := fun h2 => ?_)
 · refine Mt [.slice none 0 0, .agg #[.int .i64 0, .int .i64 0, .string emp], .int .i64 2] fun bs w hS => ?_
   have hm : mJoin (s.xs.map CSession.abs) n t = ([], zRep, 2) := by
     unfold mJoin sIdx
     repeat (first | rw [if_pos (by first | assumption | omega)] | rw [if_neg (by first | assumption | omega | (intro h0; first | exact absurd h0 (by assumption) | (simp_all; done)))])
     all_goals rfl
   refine ⟨Sl.nil, ?_, ?_, hS.outS (Sl.rd_nil _ _)⟩
   · rw [hm] <;> rfl
   · rw [hm] <;> rfl
 refine Md ((9 : Int) < t) (T := fun h3 => ?_) (F := fun h3 => ?_)
 · refine Mt [.slice none 0 0, .agg #[.int .i64 0, .int .i64 0, .string emp], .int .i64 2] fun bs w hS => ?_
   have hm : mJoin (s.xs.map CSession.abs) n t = ([], zRep, 2) := by
     unfold mJoin sIdx
     repeat (first | rw [if_pos (by first | assumption | omega)] | rw [if_neg (by first | assumption | omega | (intro h0; first | exact absurd h0 (by assumption) | (simp_all; done)))])
     all_goals rfl
   refine ⟨Sl.nil, ?_, ?_, hS.outS (Sl.rd_nil _ _)⟩
   · rw [hm] <;> rfl
   · rw [hm] <;> rfl
 refine Md (n = 1073741824) (T := fun h4 => ?_) (F := fun h4 => ?_)
 · refine Mt [.slice none 0 0, .agg #[.int .i64 0, .int .i64 0, .string emp], .int .i64 2] fun bs w hS => ?_
   have hm : mJoin (s.xs.map CSession.abs) n t = ([], zRep, 2) := by
     unfold mJoin sIdx
     repeat (first | rw [if_pos (by first | assumption | omega)] | rw [if_neg (by first | assumption | omega | (intro h0; first | exact absurd h0 (by assumption) | (simp_all; done)))])
     all_goals rfl
   refine ⟨Sl.nil, ?_, ?_, hS.outS (Sl.rd_nil _ _)⟩
   · rw [hm] <;> rfl
   · rw [hm] <;> rfl
 refine Mf (σ := Sl CSession) (v := fun y1 => .slice y1.A y1.n y1.c) (F := fun y1 => y1.xs.map CSession.abs = s.xs.map CSession.abs) (r := fun y1 => sessR 118 141 y1) Tryz.call70 (fun bs w hS => session_Copy s w (Sl.rd.kp hs hS.kp) (small_sess (by assumption))) (J := ?_)
 rintro y1 hF1
 refine m_split2 ?_
 obtain ⟨A1, c1, S1⟩ := y1
 have hF1 : S1.map CSession.abs = s.xs.map CSession.abs := hF1
 refine m_perm (R' := [ownL (keptR 141) S1, rowA 118 A1 c1 (S1 : List CSession)]) (List.Perm.refl _) ?_
 have hnm1 := sess_texts (y := (⟨A1, c1, S1⟩ : Sl CSession)) (hs) hF1
 have hlen1 : S1.length = s.xs.length := by simpa using congrArg List.length hF1
 refine m_know (F := ∀ i, i < S1.length → Rds.ok (S1.getD i default)) (fun bs w hS i hi => Rds.okof (B := anyB) (w := w) (own_elt (hS.res _ (.head _)) hnm1 (mem_of_getD hi))) fun okown1 => ?_
 refine m_know (F := RowOk A1 c1 (S1 : List CSession)) (fun bs w hS => rowA_rok (hS.res _ (.tail _ (.head _)))) fun hrow1 => ?_
 have nchrow1 := hrow1.2
 have hml1 : (S1.map CSession.abs).length = S1.length := by simp
 refine Mp (v := .tuple #[.int .i64 ((mBS (fun x : CSession => IntKind.i64.wrap (x.client - t)) S1 : Nat) : Int), .bool (mBSf (fun x : CSession => IntKind.i64.wrap (x.client - t)) S1)]) Tryz.call76 (fun bs w hS => session_find (⟨A1, c1, S1⟩ : Sl CSession) t w (own_sess (hS.res _ (.head _)) (hS.res _ (.tail _ (.head _))) hnm1) (show S1.length ≤ 1048576 by omega)) (J := ?_)
 have hbs := bsf_sess (L := S1) (index := n) (t := t) (by rw [hF1]; assumption) ht
 have hJb := mIdx_bd (fun x : DSession => decide (x.client = t)) (S1.map CSession.abs)
 generalize hJ : mIdx (fun x : DSession => decide (x.client = t)) (S1.map CSession.abs) = J at hbs hJb
 have hkl := mBS_le (fun x : CSession => IntKind.i64.wrap (x.client - t)) S1
 generalize hk : mBS (fun x : CSession => IntKind.i64.wrap (x.client - t)) S1 = k at hbs hkl ⊢
 generalize hf : mBSf (fun x : CSession => IntKind.i64.wrap (x.client - t)) S1 = fb at hbs ⊢
 refine Mb (fb) (T := fun h5 => ?_) (F := fun h5 => ?_)
 · have hkJ := hbs.2 h5
   subst hkJ
   refine Mi (pc (pR (n + 1)) (pIo 44 (k : Int) k S1.length (.tail _ (.head _)))) (J := ?_)
   refine m_f1 ?_
   refine Ms k 3 (⟨(S1.getD k default).client, (S1.getD k default).id, (S1.getD k default).acked, n + 1, (S1.getD k default).replies⟩ : CSession) (by omega) (J := ?_)
   intro L3 hL3 hlL3
   have hgL3 : L3.getD k default = (⟨(S1.getD k default).client, (S1.getD k default).id, (S1.getD k default).acked, n + 1, (S1.getD k default).replies⟩ : CSession) := by rw [hL3]; exact getD_set (by omega)
   have hbL3 : L3 = List.set S1 k (⟨(S1.getD k default).client, (S1.getD k default).id, (S1.getD k default).acked, n + 1, (S1.getD k default).replies⟩ : CSession) := by rw [hL3]
   refine Mda 10 [] [0] [rowA 118 A1 c1 (L3 : List CSession), ownL (keptR 141) S1] Tryz_mixed (J := ?_)
   refine Mih (pc (pIo 49 (k : Int) k S1.length (.head _)) (pFk 51 k 1 1 hgL3 (.head _))) (J := ?_)
   refine Mz (J := ?_)
   refine Mt [.slice A1 S1.length c1, .agg #[.int .i64 7, .int .i64 (S1.getD k default).id, .string emp], .int .i64 0] fun bs w hS => ?_
   have hm1 : mSess (S1.map CSession.abs) n = 0 := by rw [hF1]; assumption
   rw [← hF1]
   have hvx := setS_map hbL3
   have hm : mJoin (S1.map CSession.abs) n t = ((S1.map CSession.abs).set k { (S1.getD k default).abs with last := n + 1 }, ⟨7, (S1.getD k default).id, emp⟩, 0) := by
     unfold mJoin sIdx
     simp only [hJ, Int.toNat_natCast, sgetD, List.length_map]
     repeat (first | rw [if_pos (by first | assumption | omega)] | rw [if_neg (by first | assumption | omega | (intro h0; first | exact absurd h0 (by assumption) | (simp_all; done)))])
     all_goals rfl
   refine ⟨⟨A1, c1, L3⟩, ?_, ?_, hS.outS (y := (⟨A1, c1, L3⟩ : Sl CSession)) (out_sessG (.head _) hS.res (fun x hx => ?_))⟩
   · have hll : S1.length = L3.length := by rw [hbL3, List.length_set]
     rw [hm]
     exact congrArg (fun q => Ending.returned (.tuple #[.slice A1 q c1, .agg #[.int .i64 7, .int .i64 (S1.getD k default).id, .string emp], .int .i64 0])) hll
   · exact Eq.trans hvx (congrArg Prod.fst hm).symm
   · rw [hbL3] at hx
     rcases mem_set hx with hx | hx
     · subst hx; exact own_in (x := S1.getD k default) (.tail _ (.head _)) hS.res hnm1 (mem_of_getD (L := S1) (i := k) (by omega))
     · exact own_in (.tail _ (.head _)) hS.res hnm1 hx
 have h0J := of_decide_eq_false (hbs.1.symm.trans h5)
 refine Md ((S1.length : Int) = 4) (T := fun h6 => ?_) (F := fun h6 => ?_)
 · refine Mt [.slice A1 S1.length c1, .agg #[.int .i64 8, .int .i64 0, .string emp], .int .i64 0] fun bs w hS => ?_
   have hm1 : mSess (S1.map CSession.abs) n = 0 := by rw [hF1]; assumption
   rw [← hF1]
   have hm : mJoin (S1.map CSession.abs) n t = (S1.map CSession.abs, ⟨8, 0, emp⟩, 0) := by
     unfold mJoin sIdx
     simp only [hJ, Int.toNat_natCast, sgetD, List.length_map]
     repeat (first | rw [if_pos (by first | assumption | omega)] | rw [if_neg (by first | assumption | omega | (intro h0; first | exact absurd h0 (by assumption) | (simp_all; done)))])
     all_goals rfl
   refine ⟨⟨A1, c1, S1⟩, ?_, ?_, hS.outS (y := (⟨A1, c1, S1⟩ : Sl CSession)) (out_sessG (.tail _ (.head _)) hS.res (fun x hx => ?_))⟩
   · rw [hm] <;> rfl
   · exact Eq.trans rfl (congrArg Prod.fst hm).symm
   · exact own_in (.head _) hS.res hnm1 hx
 refine Mi (pc (pR (n + 1)) (pR (n + 1))) (J := ?_)
 refine M1 (J := ?_)
 refine m_f1 ?_
 refine Mtu (σ := Option Addr × Nat) (v := fun q4 => .slice q4.1 (S1.take k ++ [(⟨t, n + 1, 0, n + 1, Sl.nil⟩ : CSession)] ++ S1.drop k).length q4.2) (F := fun q4 => True) (r := fun q4 => rowA 118 q4.1 q4.2 (S1.take k ++ [(⟨t, n + 1, 0, n + 1, Sl.nil⟩ : CSession)] ++ S1.drop k : List CSession)) (vs := fun bs => [.slice A1 S1.length c1, .int .i64 (k : Int), .slice (some (adr bs 1 0)) 1 1]) Tryz.call77 (fun bs w hS => (insR_Session A1 c1 S1 k _ (⟨t, n + 1, 0, n + 1, Sl.nil⟩ : CSession) (bs.getD 1 0) 118 w (hS.res _ (.head _)) hS.head1.2.2 rfl (by first | omega | (simp only [Sl.n] at *; omega)) (by first | omega | (simp only [Sl.n] at *; omega)) (hS.loc 1 ⟨118, [vI t, vI (n + 1), vI 0, vI (n + 1), .v (.slice none 0 0)]⟩ (by kernel_rfl) (by simp)) (hS.ne_head (i := 1) (b := ⟨118, [vI t, vI (n + 1), vI 0, vI (n + 1), .v (.slice none 0 0)]⟩) (by kernel_rfl))).mono (fun e w' ⟨y, h1, h2⟩ => ⟨y, h1, trivial, h2⟩)) (J := ?_)
 rintro q4 _
 refine Mi (pR (n + 1)) (J := ?_)
 refine Mt [.slice q4.1 (S1.take k ++ [(⟨t, n + 1, 0, n + 1, Sl.nil⟩ : CSession)] ++ S1.drop k).length q4.2, .agg #[.int .i64 0, .int .i64 (n + 1), .string emp], .int .i64 0] fun bs w hS => ?_
 have hm1 : mSess (S1.map CSession.abs) n = 0 := by rw [hF1]; assumption
 rw [← hF1]
 have hvy : S1.take k ++ [(⟨t, n + 1, 0, n + 1, Sl.nil⟩ : CSession)] ++ S1.drop k = mIns (fun x : CSession => decide (t < x.client)) (⟨t, n + 1, 0, n + 1, Sl.nil⟩ : CSession) S1 := (ins_at ((ins_sess (index := n) hm1 (by omega) (by rw [hJ]; omega)).trans hk))
 have hvx := insS_map hvy
 have hm : mJoin (S1.map CSession.abs) n t = (mIns (fun x : DSession => decide (t < x.client)) ⟨t, n + 1, 0, n + 1, []⟩ (S1.map CSession.abs), ⟨0, n + 1, emp⟩, 0) := by
   unfold mJoin sIdx
   simp only [hJ, Int.toNat_natCast, sgetD, List.length_map]
   repeat (first | rw [if_pos (by first | assumption | omega)] | rw [if_neg (by first | assumption | omega | (intro h0; first | exact absurd h0 (by assumption) | (simp_all; done)))])
   all_goals rfl
 refine ⟨⟨q4.1, q4.2, S1.take k ++ [(⟨t, n + 1, 0, n + 1, Sl.nil⟩ : CSession)] ++ S1.drop k⟩, ?_, ?_, hS.outS (y := (⟨q4.1, q4.2, S1.take k ++ [(⟨t, n + 1, 0, n + 1, Sl.nil⟩ : CSession)] ++ S1.drop k⟩ : Sl CSession)) (out_sessG (.head _) hS.res (fun x hx => ?_))⟩
 · rw [hm] <;> rfl
 · exact Eq.trans hvx (congrArg Prod.fst hm).symm
 · rw [hvy] at hx
   rcases ins_mem hx with hx | hx
   · subst hx; exact Sl.rd_nil _ _
   · exact own_in (.tail _ (.head _)) hS.res hnm1 hx

theorem ref_JoinedOf {B : Nat → Prop} (s : Sl CSession) (n t : Int) (w : World) (hs : s.rd B w) (ht : inR t) : Calls Tryz.prog 34 #[.slice s.A s.n s.c, .int .i64 n, .int .i64 t] w fun e w' => ∃ y : Sl CSession, e = .returned (.tuple #[.slice y.A y.n y.c, .agg #[.int .i64 ((mJoin (s.xs.map CSession.abs) n t).2.1).code, .int .i64 ((mJoin (s.xs.map CSession.abs) n t).2.1).n, .string ((mJoin (s.xs.map CSession.abs) n t).2.1).text], .int .i64 (mJoin (s.xs.map CSession.abs) n t).2.2]) ∧ y.xs.map CSession.abs = (mJoin (s.xs.map CSession.abs) n t).1 ∧ FreshS w w' y := by
 have oks := Sl.rd.ok hs
 have ncs := Sl.ok.nc oks
 have hns : s.n = s.xs.length := rfl
 have hml : (s.xs.map CSession.abs).length = s.n := by simp
 refine M0 Tryz.func34 (J := ?_)
 refine Mp Tryz.call92 (fun bs w hS => ref_SessionsFault s n w (Sl.rd.kp hs hS.kp)) (J := ?_)
 refine Md (mSess (s.xs.map CSession.abs) n = 0) (T := fun h1 => ?_) (F := fun h1 => ?_)
 rotate_left
 · refine Mdn (mSess (s.xs.map CSession.abs) n = 0) (T := fun h11 => ?_) (F := fun h11 => ?_)
   · exact absurd h11 h1
   refine Mt [.slice none 0 0, .agg #[.int .i64 0, .int .i64 0, .string emp], .int .i64 (mSess (s.xs.map CSession.abs) n)] fun bs w hS => ?_
   have hm : mJoin (s.xs.map CSession.abs) n t = ([], zRep, mSess (s.xs.map CSession.abs) n) := by
     unfold mJoin sIdx
     repeat (first | rw [if_pos (by first | assumption | omega)] | rw [if_neg (by first | assumption | omega | (intro h0; first | exact absurd h0 (by assumption) | (simp_all; done)))])
     all_goals rfl
   refine ⟨Sl.nil, ?_, ?_, hS.outS (Sl.rd_nil _ _)⟩
   · rw [hm] <;> rfl
   · rw [hm] <;> rfl
 obtain ⟨hi0, hi1, hln, hall⟩ := mSess_bd h1
 have hln2 : s.xs.length ≤ 4 := by simpa using hln
 refine Mp Tryz.call51 (fun bs w hS => ref_In t 1 9 w) (J := ?_)
 refine Mbn (inB t 1 9) (T := fun h2 => ?_) (F := fun h2 => ?_)
 rotate_left
 · simp only [inB, Bool.and_eq_true, Bool.and_eq_false_iff, decide_eq_true_eq, decide_eq_false_iff_not] at h2
   refine Mq 31 true rfl (J := ?_)
   refine Mt [.slice none 0 0, .agg #[.int .i64 0, .int .i64 0, .string emp], .int .i64 2] fun bs w hS => ?_
   have hm : mJoin (s.xs.map CSession.abs) n t = ([], zRep, 2) := by
     unfold mJoin sIdx
     repeat (first | rw [if_pos (by first | assumption | omega)] | rw [if_neg (by first | assumption | omega | (intro h0; first | exact absurd h0 (by assumption) | (simp_all; done)))])
     all_goals rfl
   refine ⟨Sl.nil, ?_, ?_, hS.outS (Sl.rd_nil _ _)⟩
   · rw [hm] <;> rfl
   · rw [hm] <;> rfl
 simp only [inB, Bool.and_eq_true, Bool.and_eq_false_iff, decide_eq_true_eq, decide_eq_false_iff_not] at h2
 refine Md ((1073741824 : Int) ≤ n) (T := fun h3 => ?_) (F := fun h3 => ?_)
 · refine Mq 31 true rfl (J := ?_)
   refine Mt [.slice none 0 0, .agg #[.int .i64 0, .int .i64 0, .string emp], .int .i64 2] fun bs w hS => ?_
   have hm : mJoin (s.xs.map CSession.abs) n t = ([], zRep, 2) := by
     unfold mJoin sIdx
     repeat (first | rw [if_pos (by first | assumption | omega)] | rw [if_neg (by first | assumption | omega | (intro h0; first | exact absurd h0 (by assumption) | (simp_all; done)))])
     all_goals rfl
   refine ⟨Sl.nil, ?_, ?_, hS.outS (Sl.rd_nil _ _)⟩
   · rw [hm] <;> rfl
   · rw [hm] <;> rfl
 refine Mdn (mSess (s.xs.map CSession.abs) n = 0) (T := fun h4 => ?_) (F := fun h4 => ?_)
 rotate_left
 · exact absurd h1 h4
 obtain ⟨hi0, hi1, hln, hall⟩ := mSess_bd h4
 have hln2 : s.xs.length ≤ 4 := by simpa using hln
 refine Mf (σ := Sl CSession) (v := fun y1 => .slice y1.A y1.n y1.c) (F := fun y1 => y1.xs.map CSession.abs = s.xs.map CSession.abs) (r := fun y1 => sessR 118 141 y1) Tryz.call19 (fun bs w hS => ref_SessionsCopy s w (Sl.rd.kp hs hS.kp) (small_sess (by assumption))) (J := ?_)
 rintro y1 hF1
 refine m_split2 ?_
 obtain ⟨A1, c1, S1⟩ := y1
 have hF1 : S1.map CSession.abs = s.xs.map CSession.abs := hF1
 refine m_perm (R' := [ownL (keptR 141) S1, rowA 118 A1 c1 (S1 : List CSession)]) (List.Perm.refl _) ?_
 have hnm1 := sess_texts (y := (⟨A1, c1, S1⟩ : Sl CSession)) (hs) hF1
 have hlen1 : S1.length = s.xs.length := by simpa using congrArg List.length hF1
 refine m_know (F := ∀ i, i < S1.length → Rds.ok (S1.getD i default)) (fun bs w hS i hi => Rds.okof (B := anyB) (w := w) (own_elt (hS.res _ (.head _)) hnm1 (mem_of_getD hi))) fun okown1 => ?_
 refine m_know (F := RowOk A1 c1 (S1 : List CSession)) (fun bs w hS => rowA_rok (hS.res _ (.tail _ (.head _)))) fun hrow1 => ?_
 have nchrow1 := hrow1.2
 have hml1 : (S1.map CSession.abs).length = S1.length := by simp
 refine Mp (v := .int .i64 (mIdx (fun x : CSession => decide (x.client = t)) S1)) Tryz.call98 (fun bs w hS => tackroomref_sessionAt (⟨A1, c1, S1⟩ : Sl CSession) t w (own_sess (hS.res _ (.head _)) (hS.res _ (.tail _ (.head _))) hnm1)) (J := ?_)
 have hJe : mIdx (fun x : CSession => decide (x.client = t)) S1 = mIdx (fun x : DSession => decide (x.client = t)) (S1.map CSession.abs) := mIdx_map CSession.abs (fun x : DSession => decide (x.client = t)) S1
 rw [hJe]
 have hJb := mIdx_bd (fun x : DSession => decide (x.client = t)) (S1.map CSession.abs)
 generalize hJ : mIdx (fun x : DSession => decide (x.client = t)) (S1.map CSession.abs) = J at hJb ⊢
 rw [List.length_map] at hJb
 refine Md ((0 : Int) ≤ J) (T := fun h5 => ?_) (F := fun h5 => ?_)
 · have h0J : 0 ≤ J := by omega
   refine Mi (pc (pR (n + 1)) (pIo 45 J J.toNat S1.length (.tail _ (.head _)))) (J := ?_)
   refine m_f1 ?_
   refine Ms J.toNat 3 (⟨(S1.getD J.toNat default).client, (S1.getD J.toNat default).id, (S1.getD J.toNat default).acked, n + 1, (S1.getD J.toNat default).replies⟩ : CSession) (by omega) (J := ?_)
   intro L3 hL3 hlL3
   have hgL3 : L3.getD J.toNat default = (⟨(S1.getD J.toNat default).client, (S1.getD J.toNat default).id, (S1.getD J.toNat default).acked, n + 1, (S1.getD J.toNat default).replies⟩ : CSession) := by rw [hL3]; exact getD_set (by omega)
   have hbL3 : L3 = List.set S1 J.toNat (⟨(S1.getD J.toNat default).client, (S1.getD J.toNat default).id, (S1.getD J.toNat default).acked, n + 1, (S1.getD J.toNat default).replies⟩ : CSession) := by rw [hL3]
   refine Mda 10 [] [0] [rowA 118 A1 c1 (L3 : List CSession), ownL (keptR 141) S1] Tryz_mixed (J := ?_)
   refine Mih (pc (pIo 50 J J.toNat S1.length (.head _)) (pFk 52 J.toNat 1 1 hgL3 (.head _))) (J := ?_)
   refine Mz (J := ?_)
   refine Mt [.slice A1 S1.length c1, .agg #[.int .i64 7, .int .i64 (S1.getD J.toNat default).id, .string emp], .int .i64 0] fun bs w hS => ?_
   have hm1 : mSess (S1.map CSession.abs) n = 0 := by rw [hF1]; assumption
   rw [← hF1]
   have hvx := setS_map hbL3
   have hm : mJoin (S1.map CSession.abs) n t = ((S1.map CSession.abs).set J.toNat { (S1.getD J.toNat default).abs with last := n + 1 }, ⟨7, (S1.getD J.toNat default).id, emp⟩, 0) := by
     unfold mJoin sIdx
     simp only [hJ, sgetD, List.length_map]
     repeat (first | rw [if_pos (by first | assumption | omega)] | rw [if_neg (by first | assumption | omega | (intro h0; first | exact absurd h0 (by assumption) | (simp_all; done)))])
     all_goals rfl
   refine ⟨⟨A1, c1, L3⟩, ?_, ?_, hS.outS (y := (⟨A1, c1, L3⟩ : Sl CSession)) (out_sessG (.head _) hS.res (fun x hx => ?_))⟩
   · have hll : S1.length = L3.length := by rw [hbL3, List.length_set]
     rw [hm]
     exact congrArg (fun q => Ending.returned (.tuple #[.slice A1 q c1, .agg #[.int .i64 7, .int .i64 (S1.getD J.toNat default).id, .string emp], .int .i64 0])) hll
   · exact Eq.trans hvx (congrArg Prod.fst hm).symm
   · rw [hbL3] at hx
     rcases mem_set hx with hx | hx
     · subst hx; exact own_in (x := S1.getD J.toNat default) (.tail _ (.head _)) hS.res hnm1 (mem_of_getD (L := S1) (i := J.toNat) (by omega))
     · exact own_in (.tail _ (.head _)) hS.res hnm1 hx
 have h0J : ¬ 0 ≤ J := by omega
 refine Md ((4 : Int) ≤ (S1.length : Int)) (T := fun h6 => ?_) (F := fun h6 => ?_)
 · refine Mt [.slice A1 S1.length c1, .agg #[.int .i64 8, .int .i64 0, .string emp], .int .i64 0] fun bs w hS => ?_
   have hm1 : mSess (S1.map CSession.abs) n = 0 := by rw [hF1]; assumption
   rw [← hF1]
   have hm : mJoin (S1.map CSession.abs) n t = (S1.map CSession.abs, ⟨8, 0, emp⟩, 0) := by
     unfold mJoin sIdx
     simp only [hJ, sgetD, List.length_map]
     repeat (first | rw [if_pos (by first | assumption | omega)] | rw [if_neg (by first | assumption | omega | (intro h0; first | exact absurd h0 (by assumption) | (simp_all; done)))])
     all_goals rfl
   refine ⟨⟨A1, c1, S1⟩, ?_, ?_, hS.outS (y := (⟨A1, c1, S1⟩ : Sl CSession)) (out_sessG (.tail _ (.head _)) hS.res (fun x hx => ?_))⟩
   · rw [hm] <;> rfl
   · exact Eq.trans rfl (congrArg Prod.fst hm).symm
   · exact own_in (.head _) hS.res hnm1 hx
 refine Mi (pc (pR (n + 1)) (pR (n + 1))) (J := ?_)
 refine m_rowA (α := CSession) 118 ?_
 refine Ml (σ := Nat × Bool × Option Addr × Nat × List CSession) (fun ⟨k, b, A, c, L⟩ => InsI (fun x : CSession => decide (t < x.client)) (⟨t, n + 1, 0, n + 1, Sl.nil⟩ : CSession) S1 k b L) (fun ⟨k, b, A, c, L⟩ => S1.length - k) (fun ⟨k, b, A, c, L⟩ => [rowA 118 A c (L : List CSession), ownL (keptR 141) S1, rowA 118 A1 c1 (S1 : List CSession)]) [15, 14, 13, 12, 10, 7, 1, 2] (fun ⟨k, b, A, c, L⟩ => [(15, vI (k : Int)), (14, vB b), (13, .v (.slice A L.length c))]) (fun _ => []) (⟨0, false, none, 0, []⟩) (show InsI (fun x : CSession => decide (t < x.client)) (⟨t, n + 1, 0, n + 1, Sl.nil⟩ : CSession) S1 0 false [] from InsI.start _ _ _) (B := ?_)
 rintro ⟨k, b, A, c, L⟩ hI _ on1
 have hIl := hI.len
 have hIk := hI.le
 refine Md ((k : Int) < (S1.length : Int)) (T := fun h7 => ?_) (F := fun h7 => ?_)
 rotate_left
 · refine Mbn (b) (T := fun h10 => ?_) (F := fun h10 => ?_)
   · refine Mi (pR (n + 1)) (J := ?_)
     refine Mt [.slice A L.length c, .agg #[.int .i64 0, .int .i64 (n + 1), .string emp], .int .i64 0] fun bs w hS => ?_
     clear on1
     have hm1 : mSess (S1.map CSession.abs) n = 0 := by rw [hF1]; assumption
     rw [← hF1]
     have hvy : L = mIns (fun x : CSession => decide (t < x.client)) (⟨t, n + 1, 0, n + 1, Sl.nil⟩ : CSession) S1 := (hI.fin1 (by assumption) (by omega))
     have hvx := insS_map hvy
     have hm : mJoin (S1.map CSession.abs) n t = (mIns (fun x : DSession => decide (t < x.client)) ⟨t, n + 1, 0, n + 1, []⟩ (S1.map CSession.abs), ⟨0, n + 1, emp⟩, 0) := by
       unfold mJoin sIdx
       simp only [hJ, sgetD, List.length_map]
       repeat (first | rw [if_pos (by first | assumption | omega)] | rw [if_neg (by first | assumption | omega | (intro h0; first | exact absurd h0 (by assumption) | (simp_all; done)))])
       all_goals rfl
     refine ⟨⟨A, c, L⟩, ?_, ?_, hS.outS (y := (⟨A, c, L⟩ : Sl CSession)) (out_sessG (.head _) hS.res (fun x hx => ?_))⟩
     · rw [hm] <;> rfl
     · exact Eq.trans hvx (congrArg Prod.fst hm).symm
     · rw [hvy] at hx
       rcases ins_mem hx with hx | hx
       · subst hx; exact Sl.rd_nil _ _
       · exact own_in (.tail _ (.head _)) hS.res hnm1 hx
   refine M1 (J := ?_)
   refine Mal (α := CSession) 56 ([(⟨t, n + 1, 0, n + 1, Sl.nil⟩ : CSession)]) (h63 := (by first | omega | (simp only [List.length_append, List.length_nil, List.length_cons]; omega))) (hb := (by first | omega | (simp only [List.length_append, List.length_nil, List.length_cons]; omega))) (J := ?_)
   intro A8 c8
   refine Mi (pR (n + 1)) (J := ?_)
   refine Mt [.slice A8 (L ++ [(⟨t, n + 1, 0, n + 1, Sl.nil⟩ : CSession)]).length c8, .agg #[.int .i64 0, .int .i64 (n + 1), .string emp], .int .i64 0] fun bs w hS => ?_
   clear on1
   have hm1 : mSess (S1.map CSession.abs) n = 0 := by rw [hF1]; assumption
   rw [← hF1]
   have hvy : L ++ [(⟨t, n + 1, 0, n + 1, Sl.nil⟩ : CSession)] = mIns (fun x : CSession => decide (t < x.client)) (⟨t, n + 1, 0, n + 1, Sl.nil⟩ : CSession) S1 := (hI.fin0 (by assumption) (by omega))
   have hvx := insS_map hvy
   have hm : mJoin (S1.map CSession.abs) n t = (mIns (fun x : DSession => decide (t < x.client)) ⟨t, n + 1, 0, n + 1, []⟩ (S1.map CSession.abs), ⟨0, n + 1, emp⟩, 0) := by
     unfold mJoin sIdx
     simp only [hJ, sgetD, List.length_map]
     repeat (first | rw [if_pos (by first | assumption | omega)] | rw [if_neg (by first | assumption | omega | (intro h0; first | exact absurd h0 (by assumption) | (simp_all; done)))])
     all_goals rfl
   refine ⟨⟨A8, c8, L ++ [(⟨t, n + 1, 0, n + 1, Sl.nil⟩ : CSession)]⟩, ?_, ?_, hS.outS (y := (⟨A8, c8, L ++ [(⟨t, n + 1, 0, n + 1, Sl.nil⟩ : CSession)]⟩ : Sl CSession)) (out_sessG (.head _) hS.res (fun x hx => ?_))⟩
   · rw [hm] <;> rfl
   · exact Eq.trans hvx (congrArg Prod.fst hm).symm
   · rw [hvy] at hx
     rcases ins_mem hx with hx | hx
     · subst hx; exact Sl.rd_nil _ _
     · exact own_in (.tail _ (.head _)) hS.res hnm1 hx
 refine Mbn (b) [(14, false)] (T := fun h8 => ?_) (F := fun h8 => ?_)
 · refine Mi (pc (pIo 89 (k : Int) k S1.length (.tail _ (.tail _ (.head _)))) (pEo 90 k (.tail _ (.tail _ (.head _))))) (J := ?_)
   refine M1 (J := ?_)
   refine Mal (α := CSession) 56 ([(⟨(S1.getD k default).client, (S1.getD k default).id, (S1.getD k default).acked, (S1.getD k default).last, (S1.getD k default).replies⟩ : CSession)]) (h63 := (by first | omega | (simp only [List.length_append, List.length_nil, List.length_cons]; omega))) (hb := (by first | omega | (simp only [List.length_append, List.length_nil, List.length_cons]; omega))) (J := ?_)
   intro A4 c4
   refine Mi (pR ((k : Int) + 1)) (J := ?_)
   exact on1 (⟨k + 1, true, A4, c4, L ++ [(⟨(S1.getD k default).client, (S1.getD k default).id, (S1.getD k default).acked, (S1.getD k default).last, (S1.getD k default).replies⟩ : CSession)]⟩ : Nat × Bool × Option Addr × Nat × List CSession) (by first | exact hI.more (by assumption) (by omega) | exact hI.hit (by assumption) (by omega) (decide_eq_true (by assumption)) | exact hI.skip (by assumption) (by omega) (decide_eq_false (by assumption))) (by show S1.length - (k + 1) < S1.length - k; omega)
 refine Mi (pc (pIo 76 (k : Int) k S1.length (.tail _ (.tail _ (.head _)))) (pFo 78 k 0 1 (.tail _ (.tail _ (.head _))))) (J := ?_)
 refine Md (t < (S1.getD k default).client) (T := fun h9 => ?_) (F := fun h9 => ?_)
 rotate_left
 · refine Mi (pc (pIo 89 (k : Int) k S1.length (.tail _ (.tail _ (.head _)))) (pEo 90 k (.tail _ (.tail _ (.head _))))) (J := ?_)
   refine M1 (J := ?_)
   refine Mal (α := CSession) 56 ([(⟨(S1.getD k default).client, (S1.getD k default).id, (S1.getD k default).acked, (S1.getD k default).last, (S1.getD k default).replies⟩ : CSession)]) (h63 := (by first | omega | (simp only [List.length_append, List.length_nil, List.length_cons]; omega))) (hb := (by first | omega | (simp only [List.length_append, List.length_nil, List.length_cons]; omega))) (J := ?_)
   intro A7 c7
   refine Mi (pR ((k : Int) + 1)) (J := ?_)
   exact on1 (⟨k + 1, false, A7, c7, L ++ [(⟨(S1.getD k default).client, (S1.getD k default).id, (S1.getD k default).acked, (S1.getD k default).last, (S1.getD k default).replies⟩ : CSession)]⟩ : Nat × Bool × Option Addr × Nat × List CSession) (by first | exact hI.more (by assumption) (by omega) | exact hI.hit (by assumption) (by omega) (decide_eq_true (by assumption)) | exact hI.skip (by assumption) (by omega) (decide_eq_false (by assumption))) (by show S1.length - (k + 1) < S1.length - k; omega)
 refine M1 (J := ?_)
 refine Mal (α := CSession) 56 ([(⟨t, n + 1, 0, n + 1, Sl.nil⟩ : CSession)]) (h63 := (by first | omega | (simp only [List.length_append, List.length_nil, List.length_cons]; omega))) (hb := (by first | omega | (simp only [List.length_append, List.length_nil, List.length_cons]; omega))) (J := ?_)
 intro A5 c5
 refine Mi (pc (pIo 89 (k : Int) k S1.length (.tail _ (.tail _ (.head _)))) (pEo 90 k (.tail _ (.tail _ (.head _))))) (J := ?_)
 refine M1 (J := ?_)
 refine Mal (α := CSession) 56 ([(⟨(S1.getD k default).client, (S1.getD k default).id, (S1.getD k default).acked, (S1.getD k default).last, (S1.getD k default).replies⟩ : CSession)]) (h63 := (by first | omega | (simp only [List.length_append, List.length_nil, List.length_cons]; omega))) (hb := (by first | omega | (simp only [List.length_append, List.length_nil, List.length_cons]; omega))) (J := ?_)
 intro A6 c6
 refine Mi (pR ((k : Int) + 1)) (J := ?_)
 exact on1 (⟨k + 1, true, A6, c6, L ++ [(⟨t, n + 1, 0, n + 1, Sl.nil⟩ : CSession)] ++ [(⟨(S1.getD k default).client, (S1.getD k default).id, (S1.getD k default).acked, (S1.getD k default).last, (S1.getD k default).replies⟩ : CSession)]⟩ : Nat × Bool × Option Addr × Nat × List CSession) (by first | exact hI.more (by assumption) (by omega) | exact hI.hit (by assumption) (by omega) (decide_eq_true (by assumption)) | exact hI.skip (by assumption) (by omega) (decide_eq_false (by assumption))) (by show S1.length - (k + 1) < S1.length - k; omega)

theorem session_Keep_1 (x : DKept) (t : Int) (w : World) : Calls Tryz.prog 89 #[.agg #[.int .i64 x.seq, .int .i64 x.reply.code, .int .i64 x.reply.n, .string x.reply.text], .int .i64 t] w fun e w' => e = .returned (.int .i64 (IntKind.i64.wrap (x.seq - t))) ∧ Kp [] w w' := by
 refine M0 Tryz.func89 (J := ?_)
 refine Mi (pG [(8, .val (.int .i64 (IntKind.i64.wrap (x.seq - t))))] (oc (sub_wrap : ∀ w, (do eqGuard .sub 3 (.tmp 6) (.tmp 7) (.int .i64 x.seq) (.int .i64 t); binOp .sub 3 (.int .i64 x.seq) (.int .i64 t) : Sem Value).run Tryz.prog w = .ok (.int .i64 (IntKind.i64.wrap (x.seq - t))) w) on)) (J := ?_)
 exact Mt [.int .i64 (IntKind.i64.wrap (x.seq - t))] fun bs w hS => ⟨rfl, hS.kp⟩

theorem bs_session_Keep_1 {B : Nat → Prop} (s : Sl DKept) (t : Int) (w : World) (hs : s.rd B w) (hn : s.n ≤ 1048576) : Calls Tryz.prog 88 #[.slice s.A s.n s.c, .int .i64 t, .func (.func 89) #[] #[]] w fun e w' => e = .returned (.tuple #[.int .i64 (mBS (fun x : DKept => IntKind.i64.wrap (x.seq - t)) s.xs : Nat), .bool (mBSf (fun x : DKept => IntKind.i64.wrap (x.seq - t)) s.xs)]) ∧ Kp [] w w' := by
 have oks := Sl.rd.ok hs
 have ncs := Sl.ok.nc oks
 have hns : s.n = s.xs.length := rfl
 refine Mj Tryz.func88 (WS.start w) (J := ?_)
 refine Ml (σ := Nat × Nat × Nat) (fun ⟨i, j, f⟩ => i ≤ j ∧ j ≤ s.n ∧ j - i ≤ f ∧ mBS (fun x : DKept => IntKind.i64.wrap (x.seq - t)) s.xs = bsGo (fun j => decide (IntKind.i64.wrap ((s.at j).seq - t) < 0)) f i j) (fun ⟨i, j, f⟩ => f) (fun _ => []) [10, 9, 8, 0, 1, 2] (fun ⟨i, j, f⟩ => [(10, vI (j : Int)), (9, vI (i : Int))]) (fun _ => []) (⟨0, s.n, s.n⟩) ⟨Nat.zero_le _, Nat.le_refl _, Nat.le_refl _, rfl⟩ (B := ?_)
 rintro ⟨i, j, f⟩ ⟨h1, h2, h3, hI⟩ _ on1
 have hdiv : ((i : Int) + (j : Int)) / 2 = (((i + j) / 2 : Nat) : Int) := by omega
 refine Md ((i : Int) < (j : Int)) (T := fun h1 => ?_) (F := fun h1 => ?_)
 rotate_left
 · refine Md ((i : Int) < (s.n : Int)) (T := fun h3 => ?_) (F := fun h3 => ?_)
   rotate_left
   · refine Mt [.int .i64 (i : Int), .bool false] fun bs w hS => ?_
     have hij : i = j := by omega
     subst hij
     have hr : mBS (fun x : DKept => IntKind.i64.wrap (x.seq - t)) s.xs = i := by rw [hI]; exact bsGo_end _ _ _ _ (Nat.le_refl _)
     refine ⟨?_, hS.kp⟩
     have hr2 : mBSf (fun x : DKept => IntKind.i64.wrap (x.seq - t)) s.xs = false := by
       unfold mBSf; rw [hr]
       rw [decide_eq_false (show ¬ i < s.xs.length by omega)]; rfl
     rw [hr, hr2]
     rfl
   refine Mi (pA 43 44 (i : Int) i (rdk hs)) (J := ?_)
   refine Mp Tryz.call89 (fun bs w hS => session_Keep_1 (s.at i) t w) (J := ?_)
   refine Mt [.int .i64 (i : Int), .bool (decide (IntKind.i64.wrap ((s.at i).seq - t) = 0))] fun bs w hS => ?_
   have hij : i = j := by omega
   subst hij
   have hr : mBS (fun x : DKept => IntKind.i64.wrap (x.seq - t)) s.xs = i := by rw [hI]; exact bsGo_end _ _ _ _ (Nat.le_refl _)
   refine ⟨?_, hS.kp⟩
   have hr2 : mBSf (fun x : DKept => IntKind.i64.wrap (x.seq - t)) s.xs = (decide (IntKind.i64.wrap ((s.at i).seq - t) = 0)) := by
     unfold mBSf; rw [hr]
     rw [decide_eq_true (show i < s.xs.length by omega)]; rfl
   rw [hr, hr2]
   rfl
 refine Mi (pc (pR ((i : Int) + (j : Int))) (pc (pG [(21, .val (.int .u64 ((i : Int) + (j : Int))))] (oc ((conv_i64_u64 Tryz.underlying3 Tryz.underlying203 (by omega) (by omega)) : ∀ w, (convert 3 203 (.int .i64 ((i : Int) + (j : Int))) : Sem Value).run Tryz.prog w = .ok (.int .u64 ((i : Int) + (j : Int))) w) on)) (pc (pG [(22, .val (.int .u64 (((i : Int) + (j : Int)) / 2)))] (oc (shr_u64 : ∀ w, (do eqGuard .shr 203 (.tmp 21) (.const (.int .u64 1)) (.int .u64 ((i : Int) + (j : Int))) (.int .u64 1); binOp .shr 203 (.int .u64 ((i : Int) + (j : Int))) (.int .u64 1) : Sem Value).run Tryz.prog w = .ok (.int .u64 (((i : Int) + (j : Int)) / 2)) w) on)) (pc (pG [(23, .val (.int .i64 (((i : Int) + (j : Int)) / 2)))] (oc ((conv_u64_i64 Tryz.underlying203 Tryz.underlying3 (by omega) (by omega)) : ∀ w, (convert 203 3 (.int .u64 (((i : Int) + (j : Int)) / 2)) : Sem Value).run Tryz.prog w = .ok (.int .i64 (((i : Int) + (j : Int)) / 2)) w) on)) (pA 27 28 (((i : Int) + (j : Int)) / 2) (((i : Int) + (j : Int)) / 2).toNat (rdk hs)))))) (J := ?_)
 refine Mp Tryz.call89 (fun bs w hS => session_Keep_1 (s.at (((i : Int) + (j : Int)) / 2).toNat) t w) (J := ?_)
 refine Md (IntKind.i64.wrap ((s.at (((i : Int) + (j : Int)) / 2).toNat).seq - t) < 0) (T := fun h2 => ?_) (F := fun h2 => ?_)
 rotate_left
 · have hf1 : f = (f - 1) + 1 := by omega
   rw [hf1] at hI
   have hI2 := hI.trans (bsGo_down (by omega) (decide_eq_false (by assumption)))
   exact on1 (⟨i, (i + j) / 2, f - 1⟩ : Nat × Nat × Nat) ⟨by omega, by omega, by omega, hI2⟩ (by show f - 1 < f; omega)
 refine Mi (pR ((((i : Int) + (j : Int)) / 2) + 1)) (J := ?_)
 have hf1 : f = (f - 1) + 1 := by omega
 rw [hf1] at hI
 have hI2 := hI.trans (bsGo_up (by omega) (decide_eq_true (by assumption)))
 exact on1 (⟨(i + j) / 2 + 1, j, f - 1⟩ : Nat × Nat × Nat) ⟨by omega, by omega, by omega, hI2⟩ (by show f - 1 < f; omega)

theorem session_Keep {B : Nat → Prop} (s : Sl CSession) (n t q : Int) (r : DReply) (w : World) (hs : s.rd B w) (ht : inR t) (hq : inR q) (hr : r.text.size ≤ 9223372036854775807) : Calls Tryz.prog 29 #[.slice s.A s.n s.c, .int .i64 n, .int .i64 t, .int .i64 q, .agg #[.int .i64 r.code, .int .i64 r.n, .string r.text]] w fun e w' => ∃ y : Sl CSession, e = .returned (.tuple #[.slice y.A y.n y.c, .int .i64 (mKeep (s.xs.map CSession.abs) n t q r).2]) ∧ y.xs.map CSession.abs = (mKeep (s.xs.map CSession.abs) n t q r).1 ∧ FreshS w w' y := by
 have oks := Sl.rd.ok hs
 have ncs := Sl.ok.nc oks
 have hns : s.n = s.xs.length := rfl
 have hml : (s.xs.map CSession.abs).length = s.n := by simp
 refine M0 Tryz.func29 (J := ?_)
 refine Mp Tryz.call63 (fun bs w hS => session_Check s n w (Sl.rd.kp hs hS.kp)) (J := ?_)
 refine Mdn (mSess (s.xs.map CSession.abs) n = 0) (T := fun h1 => ?_) (F := fun h1 => ?_)
 rotate_left
 · refine Mt [.slice none 0 0, .int .i64 (mSess (s.xs.map CSession.abs) n)] fun bs w hS => ?_
   have hm : mKeep (s.xs.map CSession.abs) n t q r = ([], mSess (s.xs.map CSession.abs) n) := by
     unfold mKeep sIdx
     repeat (first | rw [if_pos (by first | assumption | omega)] | rw [if_neg (by first | assumption | omega | (intro h0; first | exact absurd h0 (by assumption) | (simp_all; done)))])
     all_goals rfl
   refine ⟨Sl.nil, ?_, ?_, hS.outS (Sl.rd_nil _ _)⟩
   · rw [hm] <;> rfl
   · rw [hm] <;> rfl
 obtain ⟨hi0, hi1, hln, hall⟩ := mSess_bd h1
 have hln2 : s.xs.length ≤ 4 := by simpa using hln
 refine Mf (σ := Sl CSession) (v := fun y1 => .slice y1.A y1.n y1.c) (F := fun y1 => y1.xs.map CSession.abs = s.xs.map CSession.abs) (r := fun y1 => sessR 118 141 y1) Tryz.call70 (fun bs w hS => session_Copy s w (Sl.rd.kp hs hS.kp) (small_sess (by assumption))) (J := ?_)
 rintro y1 hF1
 refine m_split2 ?_
 obtain ⟨A1, c1, S1⟩ := y1
 have hF1 : S1.map CSession.abs = s.xs.map CSession.abs := hF1
 refine m_perm (R' := [ownL (keptR 141) S1, rowA 118 A1 c1 (S1 : List CSession)]) (List.Perm.refl _) ?_
 have hnm1 := sess_texts (y := (⟨A1, c1, S1⟩ : Sl CSession)) (hs) hF1
 have hlen1 : S1.length = s.xs.length := by simpa using congrArg List.length hF1
 refine m_know (F := ∀ i, i < S1.length → Rds.ok (S1.getD i default)) (fun bs w hS i hi => Rds.okof (B := anyB) (w := w) (own_elt (hS.res _ (.head _)) hnm1 (mem_of_getD hi))) fun okown1 => ?_
 refine m_know (F := RowOk A1 c1 (S1 : List CSession)) (fun bs w hS => rowA_rok (hS.res _ (.tail _ (.head _)))) fun hrow1 => ?_
 have nchrow1 := hrow1.2
 have hml1 : (S1.map CSession.abs).length = S1.length := by simp
 have hm1 : mSess (S1.map CSession.abs) n = 0 := by rw [hF1]; assumption
 refine Mp (v := .tuple #[.int .i64 ((mBS (fun x : CSession => IntKind.i64.wrap (x.client - t)) S1 : Nat) : Int), .bool (mBSf (fun x : CSession => IntKind.i64.wrap (x.client - t)) S1)]) Tryz.call76 (fun bs w hS => session_find (⟨A1, c1, S1⟩ : Sl CSession) t w (own_sess (hS.res _ (.head _)) (hS.res _ (.tail _ (.head _))) hnm1) (show S1.length ≤ 1048576 by omega)) (J := ?_)
 have hbs := bsf_sess (L := S1) (index := n) (t := t) (by rw [hF1]; assumption) ht
 have hJb := mIdx_bd (fun x : DSession => decide (x.client = t)) (S1.map CSession.abs)
 generalize hJ : mIdx (fun x : DSession => decide (x.client = t)) (S1.map CSession.abs) = J at hbs hJb
 have hkl := mBS_le (fun x : CSession => IntKind.i64.wrap (x.client - t)) S1
 generalize hk : mBS (fun x : CSession => IntKind.i64.wrap (x.client - t)) S1 = k at hbs hkl ⊢
 generalize hf : mBSf (fun x : CSession => IntKind.i64.wrap (x.client - t)) S1 = fb at hbs ⊢
 refine Mbn (fb) (T := fun h2 => ?_) (F := fun h2 => ?_)
 rotate_left
 · have h0J := of_decide_eq_false (hbs.1.symm.trans h2)
   refine Mt [.slice none 0 0, .int .i64 11] fun bs w hS => ?_
   rw [← hF1]
   have hm : mKeep (S1.map CSession.abs) n t q r = ([], 11) := by
     unfold mKeep sIdx
     simp only [hJ, Int.toNat_natCast, sgetD, List.length_map]
     repeat (first | rw [if_pos (by first | assumption | omega)] | rw [if_neg (by first | assumption | omega | (intro h0; first | exact absurd h0 (by assumption) | (simp_all; done)))])
     all_goals rfl
   refine ⟨Sl.nil, ?_, ?_, hS.outS (Sl.rd_nil _ _)⟩
   · rw [hm] <;> rfl
   · rw [hm] <;> rfl
 have hkJ := hbs.2 h2
 subst hkJ
 have hk5 := sess_all hm1 (k := k) (by omega)
 have hk6 : (S1.getD k default).replies.xs.length ≤ 4 := mReplies_len hk5.2.2.2.2
 have hk7 : (S1.getD k default).replies.n = (S1.getD k default).replies.xs.length := rfl
 refine Mi (pc (pIo 36 (k : Int) k S1.length (.tail _ (.head _))) (pFo 41 k 4 1 (.tail _ (.head _)))) (J := ?_)
 refine Mp (v := .tuple #[.int .i64 ((mBS (fun x : DKept => IntKind.i64.wrap (x.seq - q)) (S1.getD k default).replies.xs : Nat) : Int), .bool (mBSf (fun x : DKept => IntKind.i64.wrap (x.seq - q)) (S1.getD k default).replies.xs)]) (vs := fun bs => [.slice (S1.getD k default).replies.A (S1.getD k default).replies.n (S1.getD k default).replies.c, .int .i64 q, .func (.func 89) #[] #[]]) Tryz.call88 (fun bs w hS => bs_session_Keep_1 (S1.getD k default).replies q w (own_elt (hS.res _ (.head _)) hnm1 (mem_of_getD (i := k) (by omega))) (by show (Sl.xs _).length ≤ 1048576; omega)) (J := ?_)
 have hbk : mBSf (fun x : DKept => IntKind.i64.wrap (x.seq - q)) (S1.getD k default).replies.xs = decide (0 ≤ kIdx (S1.getD k default).replies.xs q) := bsf_kept (d := (S1.getD k default).abs) hk5.2.2.2.2 ⟨hk5.2.2.1, hk5.2.2.2.1⟩ hq
 rw [hbk]
 have hjl := mBS_le (fun x : DKept => IntKind.i64.wrap (x.seq - q)) (S1.getD k default).replies.xs
 generalize hj : mBS (fun x : DKept => IntKind.i64.wrap (x.seq - q)) (S1.getD k default).replies.xs = j at hjl ⊢
 refine Md (0 ≤ kIdx (S1.getD k default).replies.xs q) (T := fun h3 => ?_) (F := fun h3 => ?_)
 · refine Mt [.slice none 0 0, .int .i64 7] fun bs w hS => ?_
   rw [← hF1]
   have hm : mKeep (S1.map CSession.abs) n t q r = ([], 7) := by
     unfold mKeep sIdx
     simp only [hJ, Int.toNat_natCast, sgetD, List.length_map]
     repeat (first | rw [if_pos (by first | assumption | omega)] | rw [if_neg (by first | assumption | omega | (intro h0; first | exact absurd h0 (by assumption) | (simp_all; done)))])
     all_goals rfl
   refine ⟨Sl.nil, ?_, ?_, hS.outS (Sl.rd_nil _ _)⟩
   · rw [hm] <;> rfl
   · rw [hm] <;> rfl
 have hkn : kIdx (S1.getD k default).replies.xs q < 0 := by omega
 refine m_part2 (rowA 141 (S1.getD k default).replies.A (S1.getD k default).replies.c ((S1.getD k default).replies.xs : List DKept)) (ownL (keptR 141) (List.eraseIdx S1 k)) (ownL_get_fp (keptR 141) (i := k) (by omega)) (fun w h => ownL_get_p (keptR 141) (i := k) (by omega) w h) ?_
 refine Mda 13 [] [] [ownL (keptR 141) (List.eraseIdx S1 k), rowA 118 A1 c1 (S1 : List CSession)] Tryz_mixed (hR := (.cons _ (List.Sublist.refl _))) (J := ?_)
 refine Mih (pFo 51 k 4 1 (.tail _ (.head _))) (hR := (.cons _ (List.Sublist.refl _))) (J := ?_)
 refine M1 (hR := (.cons _ (List.Sublist.refl _))) (J := ?_)
 refine Mtu (σ := Option Addr × Nat) (v := fun q3 => .slice q3.1 ((S1.getD k default).replies.xs.take j ++ [(⟨q, ⟨r.code, r.n, r.text⟩⟩ : DKept)] ++ (S1.getD k default).replies.xs.drop j).length q3.2) (F := fun q3 => True) (r := fun q3 => rowA 141 q3.1 q3.2 ((S1.getD k default).replies.xs.take j ++ [(⟨q, ⟨r.code, r.n, r.text⟩⟩ : DKept)] ++ (S1.getD k default).replies.xs.drop j : List DKept)) (vs := fun bs => [.slice (S1.getD k default).replies.A (S1.getD k default).replies.n (S1.getD k default).replies.c, .int .i64 (j : Int), .slice (some (adr bs 1 0)) 1 1]) Tryz.call90 (fun bs w hS => (insR_Kept (S1.getD k default).replies.A (S1.getD k default).replies.c (S1.getD k default).replies.xs j _ (⟨q, ⟨r.code, r.n, r.text⟩⟩ : DKept) (bs.getD 1 0) 141 w (hS.res _ (.head _)) hS.head1.2.2 rfl (by omega) (by omega) (hS.loc 1 ⟨141, [vI q, vI r.code, vI r.n, vS r.text]⟩ (by kernel_rfl) (by simp)) (hS.ne_head (i := 1) (b := ⟨141, [vI q, vI r.code, vI r.n, vS r.text]⟩) (by kernel_rfl))).mono (fun e w' ⟨y, h1, h2⟩ => ⟨y, h1, trivial, h2⟩)) (J := ?_)
 rintro q3 _
 refine Mz (J := ?_)
 refine m_f2 ?_
 refine Ms k 4 (⟨(S1.getD k default).client, (S1.getD k default).id, (S1.getD k default).acked, (S1.getD k default).last, ⟨q3.1, q3.2, (S1.getD k default).replies.xs.take j ++ [(⟨q, ⟨r.code, r.n, r.text⟩⟩ : DKept)] ++ (S1.getD k default).replies.xs.drop j⟩⟩ : CSession) (by omega) (J := ?_)
 intro L5 hL5 hlL5
 have hgL5 : L5.getD k default = (⟨(S1.getD k default).client, (S1.getD k default).id, (S1.getD k default).acked, (S1.getD k default).last, ⟨q3.1, q3.2, (S1.getD k default).replies.xs.take j ++ [(⟨q, ⟨r.code, r.n, r.text⟩⟩ : DKept)] ++ (S1.getD k default).replies.xs.drop j⟩⟩ : CSession) := by rw [hL5]; exact getD_set (by omega)
 have hbL5 : L5 = List.set S1 k (⟨(S1.getD k default).client, (S1.getD k default).id, (S1.getD k default).acked, (S1.getD k default).last, ⟨q3.1, q3.2, (S1.getD k default).replies.xs.take j ++ [(⟨q, ⟨r.code, r.n, r.text⟩⟩ : DKept)] ++ (S1.getD k default).replies.xs.drop j⟩⟩ : CSession) := by rw [hL5]
 refine Mi (pEk 62 k hgL5 (.head _)) (J := ?_)
 have hszk : ∀ z, z ∈ (S1.getD k default).replies.xs.take j ++ [(⟨q, ⟨r.code, r.n, r.text⟩⟩ : DKept)] ++ (S1.getD k default).replies.xs.drop j → z.reply.text.size ≤ 9223372036854775807 := fun z hz => by simp only [List.mem_append, List.mem_singleton] at hz; rcases hz with (hz | hz) | hz; exact hnm1 _ (mem_of_getD (L := S1) (i := k) (by omega)) z (List.mem_of_mem_take hz); subst hz; exact hr; exact hnm1 _ (mem_of_getD (L := S1) (i := k) (by omega)) z (List.mem_of_mem_drop hz)
 refine Mp (v := .bool (mReplies (⟨(S1.getD k default).client, (S1.getD k default).id, (S1.getD k default).acked, (S1.getD k default).last, (S1.getD k default).replies.xs.take j ++ [(⟨q, ⟨r.code, r.n, r.text⟩⟩ : DKept)] ++ (S1.getD k default).replies.xs.drop j⟩ : DSession))) Tryz.call91 (fun bs w hS => session_replies (⟨(S1.getD k default).client, (S1.getD k default).id, (S1.getD k default).acked, (S1.getD k default).last, ⟨q3.1, q3.2, (S1.getD k default).replies.xs.take j ++ [(⟨q, ⟨r.code, r.n, r.text⟩⟩ : DKept)] ++ (S1.getD k default).replies.xs.drop j⟩⟩ : CSession) w (Rr (B := anyB) (hS.res _ (.tail _ (.head _))) (fun _ _ => trivial) hszk) ⟨hk5.2.2.1, hk5.2.2.2.1⟩) (J := ?_)
 have hmk := kept_ins (d := (S1.getD k default).abs) hk5.2.2.2.2 ⟨hk5.2.2.1, hk5.2.2.2.1⟩ r (by show mIdx _ _ < 0; exact hkn) hj
 have hmr : mReplies (⟨(S1.getD k default).client, (S1.getD k default).id, (S1.getD k default).acked, (S1.getD k default).last, (S1.getD k default).replies.xs.take j ++ [(⟨q, ⟨r.code, r.n, r.text⟩⟩ : DKept)] ++ (S1.getD k default).replies.xs.drop j⟩ : DSession) = mReplies (kIns (S1.getD k default).abs q r) := hmk.1
 rw [hmr]
 refine Mbn (mReplies (kIns (S1.getD k default).abs q r)) (T := fun h4 => ?_) (F := fun h4 => ?_)
 rotate_left
 · refine Mt [.slice none 0 0, .int .i64 2] fun bs w hS => ?_
   rw [← hF1]
   have hm : mKeep (S1.map CSession.abs) n t q r = ([], 2) := by
     unfold mKeep sIdx
     simp only [hJ, Int.toNat_natCast, sgetD, List.length_map]
     repeat (first | rw [if_pos (by first | assumption | omega)] | rw [if_neg (by first | assumption | omega | (intro h0; first | exact absurd h0 (by assumption) | (simp_all; done)))])
     all_goals rfl
   refine ⟨Sl.nil, ?_, ?_, hS.outS (Sl.rd_nil _ _)⟩
   · rw [hm] <;> rfl
   · rw [hm] <;> rfl
 refine Mt [.slice A1 S1.length c1, .int .i64 0] fun bs w hS => ?_
 rw [← hF1]
 have hvx := setS_map hbL5
 have hxe : ((⟨(S1.getD k default).client, (S1.getD k default).id, (S1.getD k default).acked, (S1.getD k default).last, ⟨q3.1, q3.2, (S1.getD k default).replies.xs.take j ++ [(⟨q, ⟨r.code, r.n, r.text⟩⟩ : DKept)] ++ (S1.getD k default).replies.xs.drop j⟩⟩ : CSession)).abs = kIns (S1.getD k default).abs q r := by exact congrArg (fun l => (⟨(S1.getD k default).client, (S1.getD k default).id, (S1.getD k default).acked, (S1.getD k default).last, l⟩ : DSession)) (hmk.2 (by assumption))
 rw [hxe] at hvx
 have hm : mKeep (S1.map CSession.abs) n t q r = ((S1.map CSession.abs).set k (kIns (S1.getD k default).abs q r), 0) := by
   unfold mKeep sIdx
   simp only [hJ, Int.toNat_natCast, sgetD, List.length_map]
   repeat (first | rw [if_pos (by first | assumption | omega)] | rw [if_neg (by first | assumption | omega | (intro h0; first | exact absurd h0 (by assumption) | (simp_all; done)))])
   all_goals rfl
 refine ⟨⟨A1, c1, L5⟩, ?_, ?_, hS.outS (y := (⟨A1, c1, L5⟩ : Sl CSession)) (out_sessG (.head _) hS.res (fun x hx => ?_))⟩
 · have hll : S1.length = L5.length := by rw [hbL5, List.length_set]
   rw [hm]
   exact congrArg (fun q => Ending.returned (.tuple #[.slice A1 q c1, .int .i64 0])) hll
 · exact Eq.trans hvx (congrArg Prod.fst hm).symm
 · rw [hbL5] at hx
   rcases mem_set_ne hx with hx | hx
   · subst hx; exact allR_row (.tail _ (.head _)) (hS.res _ (.tail _ (.head _))) hszk
   · exact own_in (.tail _ (.tail _ (.head _))) hS.res (fun z hz => hnm1 z (List.mem_of_mem_eraseIdx hz)) hx

end Go.Proofs.YtbjakddkfgjkaaaGreat.W
