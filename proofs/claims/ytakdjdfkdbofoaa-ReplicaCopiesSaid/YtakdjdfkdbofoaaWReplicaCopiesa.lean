/-
  The functions that the law ReplicaCopies reaches, walked: each returns what its model says.
  Conditions: those that each theorem states.
-/
import Derived.Test.YtakdjdfkdbofoaaFe
import Derived.Test.YtakdjdfkdbofoaaChecked
set_option linter.unusedVariables false
set_option linter.unusedSimpArgs false
set_option maxRecDepth 100000
set_option maxHeartbeats 2000000
namespace Go.Proofs.Ytakdjdfkdbofoaa.W
open Go.Proofs.Ytakdjdfkdbofoaa.Fw Go.RowKit
attribute [local irreducible] JM nx

theorem Try_mixed : Try.prog.follows .mixedOrders = true := by kernel_rfl
theorem laid : laidOutB Try.prog = true := by kernel_rfl

theorem clone_Int {B : Nat → Prop} (s : Sl Int) (w : World) (hs : s.rd B w) (hb : s.n * 8 ≤ 140737488355328) : Calls Try.prog 45 #[s.val] w fun e w' => ∃ y : Sl Int, e = .returned y.val ∧ y.xs = s.xs ∧ Kp [] w w' ∧ Fresh w w' (rowA 3 y.A y.c y.xs) := by
 have oks := Sl.rd.ok hs
 have ncs := Sl.ok.nc oks
 have hns : s.n = s.xs.length := rfl
 refine M0 ?_ Try.func45
 refine Mi ?_ (pG [(4, .val (.bool s.A.isNone))] (oc ((eq_nil Try.underlying84) : ∀ w, (do eqGuard .eql 84 (.tmp 3) (.const vn) s.val vn; binOp .eql 84 s.val vn : Sem Value).run Try.prog w = .ok (.bool s.A.isNone) w) on))
 refine Mb s.A.isNone (fun h1 => ?_) fun h1 => ?_
 · refine Mt [vn] fun bs w hS => ?_
   have hnil : s.xs = [] := Sl.ok.empty oks (by cases h : s.A <;> simp_all)
   exact ⟨Sl.nil, rfl, hnil.symm, hS.kp, rowA_nil 3 w⟩
 refine Mlz ?_ (α := Int) (e := 3)
 intro A1
 refine Ma ?_ (α := Int) (L2 := s.xs) 8 (fun bs w hS => Sl.rd.src (s := s) (Sl.rd.kp hs hS.kp))
 intro A2 c2
 exact Mt [.slice A2 ([] ++ s.xs).length c2] fun bs w hS => ⟨⟨A2, c2, [] ++ s.xs⟩, rfl, by simp, hS.kp, hS.out1⟩

theorem clone_Kept {B : Nat → Prop} (s : Sl DKept) (w : World) (hs : s.rd B w) (hb : s.n * 40 ≤ 140737488355328) : Calls Try.prog 47 #[s.val] w fun e w' => ∃ y : Sl DKept, e = .returned y.val ∧ y.xs = s.xs ∧ Kp [] w w' ∧ Fresh w w' (rowA 94 y.A y.c y.xs) := by
 have oks := Sl.rd.ok hs
 have ncs := Sl.ok.nc oks
 have hns : s.n = s.xs.length := rfl
 refine M0 ?_ Try.func47
 refine Mi ?_ (pG [(4, .val (.bool s.A.isNone))] (oc ((eq_nil Try.underlying89) : ∀ w, (do eqGuard .eql 89 (.tmp 3) (.const vn) s.val vn; binOp .eql 89 s.val vn : Sem Value).run Try.prog w = .ok (.bool s.A.isNone) w) on))
 refine Mb s.A.isNone (fun h1 => ?_) fun h1 => ?_
 · refine Mt [vn] fun bs w hS => ?_
   have hnil : s.xs = [] := Sl.ok.empty oks (by cases h : s.A <;> simp_all)
   exact ⟨Sl.nil, rfl, hnil.symm, hS.kp, rowA_nil 94 w⟩
 refine Mlz ?_ (α := DKept) (e := 94)
 intro A1
 refine Ma ?_ (α := DKept) (L2 := s.xs) 40 (fun bs w hS => Sl.rd.src (s := s) (Sl.rd.kp hs hS.kp))
 intro A2 c2
 exact Mt [.slice A2 ([] ++ s.xs).length c2] fun bs w hS => ⟨⟨A2, c2, [] ++ s.xs⟩, rfl, by simp, hS.kp, hS.out1⟩

theorem lock_Copy {B : Nat → Prop} (s : Sl CLock) (w : World) (hs : s.rd B w) (hsm : Rds.small s) : Calls Try.prog 19 #[s.val] w fun e w' => ∃ y : Sl CLock, e = .returned y.val ∧ y.xs.map CLock.abs = s.xs.map CLock.abs ∧ Kp [] w w' ∧ Fresh w w' (locksR 86 3 y) := by
 have oks := Sl.rd.ok hs
 have ncs := Sl.ok.nc oks
 refine M0 ?_ Try.func19
 refine m_rowA (α := CLock) 86 ?_
 refine m_nores (ownL (lineR 3) []) rfl (fun w x hx => by cases hx) ?_
 refine Ml (σ := Nat × Option Addr × Nat × List CLock) (fun ⟨i, A, c, L⟩ => i ≤ s.n ∧ L.length = i ∧ L.map CLock.abs = (s.xs.take i).map CLock.abs) (fun ⟨i, A, c, L⟩ => s.n - i) (fun ⟨i, A, c, L⟩ => [ownL (lineR 3) L, rowA 86 A c (L : List CLock)]) [8, 7, 6, 3] (fun ⟨i, A, c, L⟩ => [(8, vI (i : Int)), (3, .v (.slice A L.length c))]) (fun _ => []) ?_ (⟨0, none, 0, []⟩) ⟨Nat.zero_le _, rfl, by simp⟩
 rintro ⟨i, A, c, L⟩ ⟨hi, hL, hI⟩ _ on1
 have hsn : s.n * 56 ≤ 140737488355328 := hsm.1
 refine Md ((i : Int) < (s.n : Int)) (fun h1 => ?_) fun h1 => ?_
 rotate_left
 · refine Mt [.slice A L.length c] fun bs w hS => ?_
   have hn : L.length = s.n := by omega
   exact ⟨⟨A, c, L⟩, rfl, by rw [hI, take_all (by omega)], hS.kp, hS.out⟩
 refine Mi ?_ (pA 10 11 (i : Int) i (rdk hs))
 refine Mf ?_ Try.call45 (fun bs w hS => clone_Int (s.at i).line w (Sl.rd.sub (s := s) (i := i) (Sl.rd.kp hs hS.kp) (by omega)).2 (hsm.2 i (by omega)).1)
 rintro y1 hF1
 refine M1 ?_
 refine m_f2 ?_
 refine Mal (α := CLock) 56 ([(⟨(s.at i).name, (s.at i).holder, (s.at i).fence, y1⟩ : CLock)]) ?_
 intro A3 c3
 refine Mi ?_ (pR ((i : Int) + 1))
 refine m_perm (R' := [rowA 3 y1.A y1.c (y1.xs : List Int), ownL (lineR 3) L, rowA 86 A3 c3 (L ++ [(⟨(s.at i).name, (s.at i).holder, (s.at i).fence, y1⟩ : CLock)] : List CLock)]) (by exact perm3 0 _ _ _) ?_
 refine m_join (ownL (lineR 3) (L ++ [(⟨(s.at i).name, (s.at i).holder, (s.at i).fence, y1⟩ : CLock)])) (ownL_app_fp (lineR 3) L (⟨(s.at i).name, (s.at i).holder, (s.at i).fence, y1⟩ : CLock)) (fun w => ownL_app_p (lineR 3) L (⟨(s.at i).name, (s.at i).holder, (s.at i).fence, y1⟩ : CLock) w) ?_
 exact on1 ⟨i + 1, A3, c3, L ++ [(⟨(s.at i).name, (s.at i).holder, (s.at i).fence, y1⟩ : CLock)]⟩ ⟨by omega, by rw [List.length_append]; simp [hL], map_take_snoc (by omega) hI (by first | simp [CLock.abs, hF1] | simp [CLock.abs])⟩ (by show s.n - (i + 1) < s.n - i; omega)
theorem lock_CopyS {B : Nat → Prop} (s : Sl CLock) (w : World) (hs : s.rd B w) (hsm : Rds.small s) : Calls Try.prog 19 #[s.val] w fun e w' => ∃ y : Sl CLock, e = .returned y.val ∧ y.xs.map CLock.abs = s.xs.map CLock.abs ∧ FreshS w w' y :=
  (lock_Copy s w hs hsm).mono fun e w' ⟨y, h1, h2, h3, h4⟩ => ⟨y, h1, h2, h3, h4.sub fun hp => locksR_rd hp (locks_names hs h2)⟩

theorem session_Copy {B : Nat → Prop} (s : Sl CSession) (w : World) (hs : s.rd B w) (hsm : Rds.small s) : Calls Try.prog 21 #[s.val] w fun e w' => ∃ y : Sl CSession, e = .returned y.val ∧ y.xs.map CSession.abs = s.xs.map CSession.abs ∧ Kp [] w w' ∧ Fresh w w' (sessR 91 94 y) := by
 have oks := Sl.rd.ok hs
 have ncs := Sl.ok.nc oks
 refine M0 ?_ Try.func21
 refine m_rowA (α := CSession) 91 ?_
 refine m_nores (ownL (keptR 94) []) rfl (fun w x hx => by cases hx) ?_
 refine Ml (σ := Nat × Option Addr × Nat × List CSession) (fun ⟨i, A, c, L⟩ => i ≤ s.n ∧ L.length = i ∧ L.map CSession.abs = (s.xs.take i).map CSession.abs) (fun ⟨i, A, c, L⟩ => s.n - i) (fun ⟨i, A, c, L⟩ => [ownL (keptR 94) L, rowA 91 A c (L : List CSession)]) [8, 7, 6, 3] (fun ⟨i, A, c, L⟩ => [(8, vI (i : Int)), (3, .v (.slice A L.length c))]) (fun _ => []) ?_ (⟨0, none, 0, []⟩) ⟨Nat.zero_le _, rfl, by simp⟩
 rintro ⟨i, A, c, L⟩ ⟨hi, hL, hI⟩ _ on1
 have hsn : s.n * 56 ≤ 140737488355328 := hsm.1
 refine Md ((i : Int) < (s.n : Int)) (fun h1 => ?_) fun h1 => ?_
 rotate_left
 · refine Mt [.slice A L.length c] fun bs w hS => ?_
   have hn : L.length = s.n := by omega
   exact ⟨⟨A, c, L⟩, rfl, by rw [hI, take_all (by omega)], hS.kp, hS.out⟩
 refine Mi ?_ (pA 10 11 (i : Int) i (rdk hs))
 refine Mf ?_ Try.call47 (fun bs w hS => clone_Kept (s.at i).replies w (Sl.rd.sub (s := s) (i := i) (Sl.rd.kp hs hS.kp) (by omega)) (hsm.2 i (by omega)).1)
 rintro y1 hF1
 refine M1 ?_
 refine m_f2 ?_
 refine Mal (α := CSession) 56 ([(⟨(s.at i).client, (s.at i).id, (s.at i).acked, (s.at i).last, y1⟩ : CSession)]) ?_
 intro A3 c3
 refine Mi ?_ (pR ((i : Int) + 1))
 refine m_perm (R' := [rowA 94 y1.A y1.c (y1.xs : List DKept), ownL (keptR 94) L, rowA 91 A3 c3 (L ++ [(⟨(s.at i).client, (s.at i).id, (s.at i).acked, (s.at i).last, y1⟩ : CSession)] : List CSession)]) (by exact perm3 0 _ _ _) ?_
 refine m_join (ownL (keptR 94) (L ++ [(⟨(s.at i).client, (s.at i).id, (s.at i).acked, (s.at i).last, y1⟩ : CSession)])) (ownL_app_fp (keptR 94) L (⟨(s.at i).client, (s.at i).id, (s.at i).acked, (s.at i).last, y1⟩ : CSession)) (fun w => ownL_app_p (keptR 94) L (⟨(s.at i).client, (s.at i).id, (s.at i).acked, (s.at i).last, y1⟩ : CSession) w) ?_
 exact on1 ⟨i + 1, A3, c3, L ++ [(⟨(s.at i).client, (s.at i).id, (s.at i).acked, (s.at i).last, y1⟩ : CSession)]⟩ ⟨by omega, by rw [List.length_append]; simp [hL], map_take_snoc (by omega) hI (by first | simp [CSession.abs, hF1] | simp [CSession.abs])⟩ (by show s.n - (i + 1) < s.n - i; omega)
theorem session_CopyS {B : Nat → Prop} (s : Sl CSession) (w : World) (hs : s.rd B w) (hsm : Rds.small s) : Calls Try.prog 21 #[s.val] w fun e w' => ∃ y : Sl CSession, e = .returned y.val ∧ y.xs.map CSession.abs = s.xs.map CSession.abs ∧ FreshS w w' y :=
  (session_Copy s w hs hsm).mono fun e w' ⟨y, h1, h2, h3, h4⟩ => ⟨y, h1, h2, h3, h4.sub fun hp => sessR_rd hp (sess_texts hs h2)⟩

theorem same_ints {B B' : Nat → Prop} (a b : Sl Int) (w : World) (ha : a.rd B w) (hb : b.rd B' w) (he : a.xs = b.xs) : Calls Try.prog 46 #[a.val, b.val] w fun e w' => e = .returned (vb true) ∧ Kp [] w w' := by
 have oka := Sl.rd.ok ha
 have okb := Sl.rd.ok hb
 have hn := xs_n he
 have nca := Sl.ok.nc oka
 refine M0 ?_ Try.func46
 refine Mdn ((a.n : Int) = (b.n : Int)) (fun h1 => ?_) fun h1 => ?_
 rotate_left
 · exfalso; first | omega | exact h1 (xs_at he i)
 refine Ml (σ := Nat) (fun i => True) (fun i => a.n - i) (fun _ => []) [5, 0, 1] (fun i => [(5, vI (i : Int))]) (fun _ => []) ?_ 0 trivial
 rintro i _ _ on1
 have hat := xs_at he i
 refine Md ((i : Int) < (a.n : Int)) (fun h2 => ?_) fun h2 => ?_
 rotate_left
 · exact Mt [vb true] fun bs w hS => ⟨rfl, hS.kp⟩
 refine Mda 9 [] [] [] Try_mixed ?_
 refine Mih ?_ (pc (pA 19 20 (i : Int) i (rdk ha)) (pA 23 24 (i : Int) i (rdk hb)))
 refine Mdn ((a.at i) = (b.at i)) (fun h3 => ?_) fun h3 => ?_
 rotate_left
 · exfalso; first | omega | exact h3 (xs_at he i)
 refine Mi ?_ (pR ((i : Int) + 1))
 exact on1 (i + 1) trivial (by omega)

theorem same_locks {B B' : Nat → Prop} (a b : Sl CLock) (w : World) (ha : a.rd B w) (hb : b.rd B' w) (he : a.xs.map CLock.abs = b.xs.map CLock.abs) : Calls Try.prog 20 #[a.val, b.val] w fun e w' => e = .returned (vb true) ∧ Kp [] w w' := by
 have oka := Sl.rd.ok ha
 have okb := Sl.rd.ok hb
 have hn := map_n he
 have nca := Sl.ok.nc oka
 refine M0 ?_ Try.func20
 refine Mdn ((a.n : Int) = (b.n : Int)) (fun h1 => ?_) fun h1 => ?_
 rotate_left
 · exfalso; first | omega | exact h1 q1
 refine Ml (σ := Nat) (fun i => True) (fun i => a.n - i) (fun _ => []) [5, 0, 1] (fun i => [(5, vI (i : Int))]) (fun _ => []) ?_ 0 trivial
 rintro i _ _ on1
 have hat := map_at (f := CLock.abs) (g := CLock.abs) rfl he i
 have q1 : (a.at i).name = (b.at i).name := congrArg DLock.name hat
 have q2 : (a.at i).holder = (b.at i).holder := congrArg DLock.holder hat
 have q3 : (a.at i).fence = (b.at i).fence := congrArg DLock.fence hat
 have q4 : (a.at i).line.xs = (b.at i).line.xs := congrArg DLock.line hat
 refine Md ((i : Int) < (a.n : Int)) (fun h2 => ?_) fun h2 => ?_
 rotate_left
 · exact Mt [vb true] fun bs w hS => ⟨rfl, hS.kp⟩
 refine Mda 51 [] [] [] Try_mixed ?_
 refine Mih ?_ (pc (pI 19 (i : Int) i (rdk ha)) (pc (pF 21 i 0 1 (rdk ha)) (pc (pI 24 (i : Int) i (rdk hb)) (pF 26 i 0 1 (rdk hb)))))
 refine Mdn ((a.at i).name = (b.at i).name) (fun h3 => ?_) fun h3 => ?_
 rotate_left
 · exfalso; first | omega | exact h3 q1
 refine Mih ?_ (pc (pI 31 (i : Int) i (rdk ha)) (pc (pF 33 i 1 1 (rdk ha)) (pc (pI 36 (i : Int) i (rdk hb)) (pF 38 i 1 1 (rdk hb)))))
 refine Mdn ((a.at i).holder = (b.at i).holder) (fun h4 => ?_) fun h4 => ?_
 rotate_left
 · exfalso; first | omega | exact h4 q1
 refine Mih ?_ (pc (pI 44 (i : Int) i (rdk ha)) (pc (pF 46 i 2 1 (rdk ha)) (pc (pI 49 (i : Int) i (rdk hb)) (pF 51 i 2 1 (rdk hb)))))
 refine Mdn ((a.at i).fence = (b.at i).fence) (fun h5 => ?_) fun h5 => ?_
 rotate_left
 · exfalso; first | omega | exact h5 q1
 refine Mih ?_ (pc (pI 57 (i : Int) i (rdk ha)) (pc (pF 59 i 3 1 (rdk ha)) (pc (pI 62 (i : Int) i (rdk hb)) (pF 64 i 3 1 (rdk hb)))))
 refine Mp ?_ Try.call46 (fun bs w hS => same_ints _ _ w (Sl.rd.sub (s := a) (i := i) (Sl.rd.kp ha hS.kp) (by omega)).2 (Sl.rd.sub (s := b) (i := i) (Sl.rd.kp hb hS.kp) (by omega)).2 q4)
 refine Mq 67 false ?_ rfl
 refine Mi ?_ (pR ((i : Int) + 1))
 exact on1 (i + 1) trivial (by omega)

theorem same_sessions {B B' : Nat → Prop} (a b : Sl CSession) (w : World) (ha : a.rd B w) (hb : b.rd B' w) (he : a.xs.map CSession.abs = b.xs.map CSession.abs) : Calls Try.prog 22 #[a.val, b.val] w fun e w' => e = .returned (vb true) ∧ Kp [] w w' := by
 have oka := Sl.rd.ok ha
 have okb := Sl.rd.ok hb
 have hn := map_n he
 have nca := Sl.ok.nc oka
 refine M0 ?_ Try.func22
 refine Mdn ((a.n : Int) = (b.n : Int)) (fun h1 => ?_) fun h1 => ?_
 rotate_left
 · exfalso; first | omega | (rw [hbt] at h1; simp at h1)
 refine Ml (σ := Nat) (fun i => True) (fun i => a.n - i) (fun _ => []) [5, 0, 1] (fun i => [(5, vI (i : Int))]) (fun _ => []) ?_ 0 trivial
 rintro i _ _ on1
 have hat := map_at (f := CSession.abs) (g := CSession.abs) rfl he i
 have q0 : (a.at i).client = (b.at i).client := congrArg DSession.client hat
 have q1 : (a.at i).id = (b.at i).id := congrArg DSession.id hat
 have q2 : (a.at i).acked = (b.at i).acked := congrArg DSession.acked hat
 have q3 : (a.at i).last = (b.at i).last := congrArg DSession.last hat
 have q4 : (a.at i).replies.xs = (b.at i).replies.xs := congrArg DSession.replies hat
 have q5 := xs_n q4
 refine Md ((i : Int) < (a.n : Int)) (fun h2 => ?_) fun h2 => ?_
 rotate_left
 · exact Mt [vb true] fun bs w hS => ⟨rfl, hS.kp⟩
 refine Mi ?_ (pc (pA 22 23 (i : Int) i (rdk ha)) (pA 26 27 (i : Int) i (rdk hb)))
 refine Mdn ((a.at i).client = (b.at i).client) (fun h3 => ?_) fun h3 => ?_
 rotate_left
 · exfalso; first | omega | (rw [hbt] at h3; simp at h3)
 refine Mdn ((a.at i).id = (b.at i).id) (fun h4 => ?_) fun h4 => ?_
 rotate_left
 · exfalso; first | omega | (rw [hbt] at h4; simp at h4)
 refine Mdn ((a.at i).acked = (b.at i).acked) (fun h5 => ?_) fun h5 => ?_
 rotate_left
 · exfalso; first | omega | (rw [hbt] at h5; simp at h5)
 refine Mdn ((a.at i).last = (b.at i).last) (fun h6 => ?_) fun h6 => ?_
 rotate_left
 · exfalso; first | omega | (rw [hbt] at h6; simp at h6)
 refine Mdn ((((a.at i).replies.n : Nat) : Int) = (((b.at i).replies.n : Nat) : Int)) (fun h7 => ?_) fun h7 => ?_
 rotate_left
 · exfalso; first | omega | (rw [hbt] at h7; simp at h7)
 refine Ml (σ := Nat) (fun j => True) (fun j => (a.at i).replies.n - j) (fun _ => []) [8, 7, 6, 5, 0, 1] (fun j => [(8, vI (j : Int))]) (fun _ => []) ?_ 0 trivial
 rintro j _ _ on2
 have hbt := xs_at q4 j
 have ncr := Sl.ok.nc (Sl.ok.at oka (show i < a.n by omega))
 refine Md ((j : Int) < (((a.at i).replies.n : Nat) : Int)) (fun h8 => ?_) fun h8 => ?_
 rotate_left
 · refine Mi ?_ (pR ((i : Int) + 1))
   exact on1 (i + 1) trivial (by omega)
 refine Mda 11 [] [] [] Try_mixed ?_
 refine Mih ?_ (pc (pA 73 74 (j : Int) j (s := (a.at i).replies) (fun w hk hr => (Sl.rd.sub (s := a) (i := i) (Sl.rd.kp ha hk) (by omega)))) (pc (pA 78 79 (j : Int) j (s := (b.at i).replies) (fun w hk hr => (Sl.rd.sub (s := b) (i := i) (Sl.rd.kp hb hk) (by omega)))) (pG [(80, .val (vb (!((decide (((a.at i).replies.at j).seq = ((b.at i).replies.at j).seq)) && (((decide (((a.at i).replies.at j).reply.code = ((b.at i).replies.at j).reply.code)) && ((decide (((a.at i).replies.at j).reply.n = ((b.at i).replies.at j).reply.n)) && ((decide (((a.at i).replies.at j).reply.text = ((b.at i).replies.at j).reply.text)) && true))) && true)))))] (oc ((neq_agg (by kernel_rfl) (by kernel_rfl)) : ∀ w, (do eqGuard .neq 94 (.tmp 74) (.tmp 79) ((a.at i).replies.at j).val ((b.at i).replies.at j).val; binOp .neq 94 ((a.at i).replies.at j).val ((b.at i).replies.at j).val : Sem Value).run Try.prog w = .ok (vb (!((decide (((a.at i).replies.at j).seq = ((b.at i).replies.at j).seq)) && (((decide (((a.at i).replies.at j).reply.code = ((b.at i).replies.at j).reply.code)) && ((decide (((a.at i).replies.at j).reply.n = ((b.at i).replies.at j).reply.n)) && ((decide (((a.at i).replies.at j).reply.text = ((b.at i).replies.at j).reply.text)) && true))) && true)))) w) on))))
 refine Mbn ((decide (((a.at i).replies.at j).seq = ((b.at i).replies.at j).seq)) && (((decide (((a.at i).replies.at j).reply.code = ((b.at i).replies.at j).reply.code)) && ((decide (((a.at i).replies.at j).reply.n = ((b.at i).replies.at j).reply.n)) && ((decide (((a.at i).replies.at j).reply.text = ((b.at i).replies.at j).reply.text)) && true))) && true)) (fun h9 => ?_) fun h9 => ?_
 rotate_left
 · exfalso; first | omega | (rw [hbt] at h9; simp at h9)
 refine Mi ?_ (pR ((j : Int) + 1))
 exact on2 (j + 1) trivial (by omega)

theorem same_texts {B B' : Nat → Prop} (a b : Sl ByteArray) (w : World) (ha : a.rd B w) (hb : b.rd B' w) (he : a.xs = b.xs) : Calls Try.prog 43 #[a.val, b.val] w fun e w' => e = .returned (vb true) ∧ Kp [] w w' := by
 have oka := Sl.rd.ok ha
 have okb := Sl.rd.ok hb
 have hn := xs_n he
 have nca := Sl.ok.nc oka
 refine M0 ?_ Try.func43
 refine Mdn ((a.n : Int) = (b.n : Int)) (fun h1 => ?_) fun h1 => ?_
 rotate_left
 · exfalso; first | omega | exact h1 (xs_at he i)
 refine Ml (σ := Nat) (fun i => True) (fun i => a.n - i) (fun _ => []) [5, 0, 1] (fun i => [(5, vI (i : Int))]) (fun _ => []) ?_ 0 trivial
 rintro i _ _ on1
 have hat := xs_at he i
 refine Md ((i : Int) < (a.n : Int)) (fun h2 => ?_) fun h2 => ?_
 rotate_left
 · exact Mt [vb true] fun bs w hS => ⟨rfl, hS.kp⟩
 refine Mda 9 [] [] [] Try_mixed ?_
 refine Mih ?_ (pc (pA 19 20 (i : Int) i (rdk ha)) (pA 23 24 (i : Int) i (rdk hb)))
 refine Mdn ((a.at i) = (b.at i)) (fun h3 => ?_) fun h3 => ?_
 rotate_left
 · exfalso; first | omega | exact h3 (xs_at he i)
 refine Mi ?_ (pR ((i : Int) + 1))
 exact on1 (i + 1) trivial (by omega)

theorem cloneS_ByteArray (A : Option Addr) (n c : Nat) (L : List ByteArray) (w : World) (hl : L.length = n) (hsrc : SrcAt w A n (L.flatMap Lay.cells)) (hb : n * 16 ≤ 140737488355328) : Calls Try.prog 42 #[.slice A n c] w fun e w' => ∃ y : Sl ByteArray, e = .returned y.val ∧ y.xs = L ∧ Kp [] w w' ∧ Fresh w w' (rowA 9 y.A y.c y.xs) := by
 refine M0 ?_ Try.func42
 refine Mi ?_ (pG [(4, .val (.bool A.isNone))] (oc ((eq_nil Try.underlying22) : ∀ w, (do eqGuard .eql 22 (.tmp 3) (.const vn) (.slice A n c) vn; binOp .eql 22 (.slice A n c) vn : Sem Value).run Try.prog w = .ok (.bool A.isNone) w) on))
 refine Mb A.isNone (fun h1 => ?_) fun h1 => ?_
 · refine Mt [vn] fun bs w hS => ?_
   have hnil : L = [] := by cases hA : A with | none => rw [hA] at hsrc; have h0 : n = 0 := hsrc; exact List.eq_nil_of_length_eq_zero (by omega) | some a => rw [hA] at h1; cases h1
   exact ⟨Sl.nil, rfl, hnil.symm, hS.kp, rowA_nil 9 w⟩
 refine Mlz ?_ (α := ByteArray) (e := 9)
 intro A1
 refine Ma ?_ (α := ByteArray) (L2 := L) 16 (fun bs w hS => (SrcAt.kp hsrc hS.kp)) (hn2 := hl)
 intro A2 c2
 exact Mt [.slice A2 ([] ++ L).length c2] fun bs w hS => ⟨⟨A2, c2, [] ++ L⟩, rfl, by simp, hS.kp, hS.out1⟩
theorem clone_ByteArray {B : Nat → Prop} (s : Sl ByteArray) (w : World) (hs : s.rd B w) (hb : s.n * 16 ≤ 140737488355328) : Calls Try.prog 42 #[s.val] w fun e w' => ∃ y : Sl ByteArray, e = .returned y.val ∧ y.xs = s.xs ∧ Kp [] w w' ∧ Fresh w w' (rowA 9 y.A y.c y.xs) := cloneS_ByteArray s.A s.n s.c s.xs w rfl hs.src hb

theorem clone_Pair {B : Nat → Prop} (s : Sl DPair) (w : World) (hs : s.rd B w) (hb : s.n * 40 ≤ 140737488355328) : Calls Try.prog 48 #[s.val] w fun e w' => ∃ y : Sl DPair, e = .returned y.val ∧ y.xs = s.xs ∧ Kp [] w w' ∧ Fresh w w' (rowA 97 y.A y.c y.xs) := by
 have oks := Sl.rd.ok hs
 have ncs := Sl.ok.nc oks
 have hns : s.n = s.xs.length := rfl
 refine M0 ?_ Try.func48
 refine Mi ?_ (pG [(4, .val (.bool s.A.isNone))] (oc ((eq_nil Try.underlying42) : ∀ w, (do eqGuard .eql 42 (.tmp 3) (.const vn) s.val vn; binOp .eql 42 s.val vn : Sem Value).run Try.prog w = .ok (.bool s.A.isNone) w) on))
 refine Mb s.A.isNone (fun h1 => ?_) fun h1 => ?_
 · refine Mt [vn] fun bs w hS => ?_
   have hnil : s.xs = [] := Sl.ok.empty oks (by cases h : s.A <;> simp_all)
   exact ⟨Sl.nil, rfl, hnil.symm, hS.kp, rowA_nil 97 w⟩
 refine Mlz ?_ (α := DPair) (e := 97)
 intro A1
 refine Ma ?_ (α := DPair) (L2 := s.xs) 40 (fun bs w hS => Sl.rd.src (s := s) (Sl.rd.kp hs hS.kp))
 intro A2 c2
 exact Mt [.slice A2 ([] ++ s.xs).length c2] fun bs w hS => ⟨⟨A2, c2, [] ++ s.xs⟩, rfl, by simp, hS.kp, hS.out1⟩

theorem log_CopyR {B : Nat → Prop} (x : CLog) (w : World) (hx : Rds.sub B w x) (hb : x.entries.n * 16 ≤ 140737488355328) : Calls Try.prog 15 #[x.val] w fun e w' => ∃ y : Sl ByteArray, e = .returned (.agg #[vi x.base, y.val]) ∧ y.xs = x.entries.xs ∧ Kp [] w w' ∧ Fresh w w' (rowA 9 y.A y.c y.xs) := by
 have okx := Rds.okof hx
 have ncx := Sl.ok.nc okx
 have hnx : x.entries.n = x.entries.xs.length := rfl
 have hla : mLast x.abs = x.base + (x.entries.n : Int) := rfl
 have q1 : x.abs.base = x.base := rfl
 have q2 : x.abs.entries = x.entries.xs := rfl
 have hat : ∀ q, x.entries.xs.getD q default = x.entries.at q := fun _ => rfl
 refine M0 ?_ Try.func15
 refine Mda 6 [] [] [] Try_mixed ?_
 refine Mf ?_ Try.call42 (fun bs w hS => clone_ByteArray x.entries w (Rds.kp hx hS.kp) hb)
 rintro y1 hF1
 exact Mt [.agg #[vi x.base, y1.val]] fun bs w hS => ⟨y1, rfl, hF1, hS.kp, hS.out1⟩
theorem log_Copy {B : Nat → Prop} (x : CLog) (w : World) (hx : Rds.sub B w x) (hsm : Rds.small x) : Calls Try.prog 15 #[x.val] w fun e w' => ∃ y : CLog, e = .returned (y.val) ∧ y.abs = x.abs ∧ FreshS w w' y :=
  (log_CopyR x w hx hsm.1).mono fun e w' ⟨y, h1, h2, h3, h4⟩ => ⟨⟨x.base, y⟩, h1, by simp [CLog.abs, h2], h3, h4.sub fun hp => Rr hp (fun b hb => hb) fun z hz => Sl.rd.mem (s := x.entries) hx z (h2 ▸ hz)⟩

theorem same_log {B B' : Nat → Prop} (a b : CLog) (w : World) (ha : Rds.sub B w a) (hb : Rds.sub B' w b) (he : a.abs = b.abs) : Calls Try.prog 16 #[a.val, b.val] w fun e w' => e = .returned (vb true) ∧ Kp [] w w' := by
 have oka := Rds.okof ha
 have okb := Rds.okof hb
 refine M0 ?_ Try.func16
 refine Md (a.base = b.base) (fun h1 => ?_) fun h1 => ?_
 rotate_left
 · exact absurd (congrArg (fun q => q.base) he) h1
 refine Mp ?_ Try.call43 (fun bs w hS => same_texts _ _ w (Rds.kp ha hS.kp) (Rds.kp hb hS.kp) (congrArg DLog.entries he))
 exact Mt [vb true] fun bs w hS => ⟨rfl, hS.kp⟩

theorem same_pairs {B B' : Nat → Prop} (a b : Sl DPair) (w : World) (ha : a.rd B w) (hb : b.rd B' w) (he : a.xs = b.xs) : Calls Try.prog 49 #[a.val, b.val] w fun e w' => e = .returned (vb true) ∧ Kp [] w w' := by
 have oka := Sl.rd.ok ha
 have okb := Sl.rd.ok hb
 have hn := xs_n he
 have nca := Sl.ok.nc oka
 refine M0 ?_ Try.func49
 refine Mdn ((a.n : Int) = (b.n : Int)) (fun h1 => ?_) fun h1 => ?_
 rotate_left
 · exfalso; first | omega | exact h1 (xs_at he i)
 refine Ml (σ := Nat) (fun i => True) (fun i => a.n - i) (fun _ => []) [5, 0, 1] (fun i => [(5, vI (i : Int))]) (fun _ => []) ?_ 0 trivial
 rintro i _ _ on1
 have hat := xs_at he i
 refine Md ((i : Int) < (a.n : Int)) (fun h2 => ?_) fun h2 => ?_
 rotate_left
 · exact Mt [vb true] fun bs w hS => ⟨rfl, hS.kp⟩
 refine Mda 9 [] [] [] Try_mixed ?_
 refine Mih ?_ (pc (pA 19 20 (i : Int) i (rdk ha)) (pc (pA 23 24 (i : Int) i (rdk hb)) (pG [(25, .val (vb (!((decide ((a.at i).name = (b.at i).name)) && ((decide ((a.at i).value = (b.at i).value)) && ((decide ((a.at i).version = (b.at i).version)) && true))))))] (oc ((neq_agg (by kernel_rfl) (by kernel_rfl)) : ∀ w, (do eqGuard .neq 97 (.tmp 20) (.tmp 24) (a.at i).val (b.at i).val; binOp .neq 97 (a.at i).val (b.at i).val : Sem Value).run Try.prog w = .ok (vb (!((decide ((a.at i).name = (b.at i).name)) && ((decide ((a.at i).value = (b.at i).value)) && ((decide ((a.at i).version = (b.at i).version)) && true))))) w) on))))
 refine Mbn ((decide ((a.at i).name = (b.at i).name)) && ((decide ((a.at i).value = (b.at i).value)) && ((decide ((a.at i).version = (b.at i).version)) && true))) (fun h3 => ?_) fun h3 => ?_
 rotate_left
 · exfalso; simp [xs_at he i] at h3
 refine Mi ?_ (pR ((i : Int) + 1))
 exact on1 (i + 1) trivial (by omega)

theorem same_state {B B' : Nat → Prop} (a b : CState) (w : World) (ha : Rds.sub B w a) (hb : Rds.sub B' w b) (he : a.abs = b.abs) : Calls Try.prog 24 #[a.val, b.val] w fun e w' => e = .returned (vb true) ∧ Kp [] w w' := by
 have oka := Rds.okof ha
 have okb := Rds.okof hb
 refine M0 ?_ Try.func24
 refine Md (a.index = b.index) (fun h1 => ?_) fun h1 => ?_
 rotate_left
 · exact absurd (congrArg (fun q => q.index) he) h1
 refine Mp ?_ Try.call20 (fun bs w hS => same_locks _ _ w (Rds.kp ha hS.kp).1 (Rds.kp hb hS.kp).1 (congrArg DState.locks he))
 refine Mq 17 true ?_ rfl
 refine Mp ?_ Try.call49 (fun bs w hS => same_pairs a.pairs b.pairs w (Rds.kp ha hS.kp).2.1 (Rds.kp hb hS.kp).2.1 (congrArg DState.pairs he))
 refine Mq 24 true ?_ rfl
 refine Mp ?_ Try.call22 (fun bs w hS => same_sessions _ _ w (Rds.kp ha hS.kp).2.2 (Rds.kp hb hS.kp).2.2 (congrArg DState.sessions he))
 exact Mt [vb true] fun bs w hS => ⟨rfl, hS.kp⟩

theorem machine_Copy {B : Nat → Prop} (x : CState) (w : World) (hx : Rds.sub B w x) (hsm : Rds.small x) : Calls Try.prog 23 #[x.val] w fun e w' => ∃ y : CState, e = .returned (y.val) ∧ y.abs = x.abs ∧ FreshS w w' y := by
 have okx := Rds.okof hx
 refine M0 ?_ Try.func23
 refine Mda 12 [] [] [] Try_mixed ?_
 refine Mu ?_ Try.call19 (fun bs w hS => lock_CopyS x.locks w (Rds.kp hx hS.kp).1 hsm.1)
 rintro fp1 y1 hF1 hok1
 refine Mf ?_ Try.call48 (fun bs w hS => clone_Pair x.pairs w (Rds.kp hx hS.kp).2.1 hsm.2.1.1)
 rintro y2 hF2
 refine Mu ?_ Try.call21 (fun bs w hS => session_CopyS x.sessions w (Rds.kp hx hS.kp).2.2 hsm.2.2)
 rintro fp4 y4 hF4 hok4
 refine Mt [.agg #[vi x.index, y1.val, y2.val, y4.val]] fun bs w hS => ?_
 have hab : CState.abs (⟨x.index, y1, y2, y4⟩ : CState) = CState.abs x := by simp [CState.abs, *]
 exact ⟨(⟨x.index, y1, y2, y4⟩ : CState), rfl, hab, hS.outS (y := (⟨x.index, y1, y2, y4⟩ : CState)) ⟨(allR_sub i2 (hS.res _ i2)), (allR_row i1 (hS.res _ i1) (fun z hz => Sl.rd.mem (Rds.kp hx hS.kp).2.1 z (hF2 ▸ hz))), (allR_sub i0 (hS.res _ i0))⟩⟩

theorem replica_Copy {B : Nat → Prop} (x : CReplica) (w : World) (hx : Rds.sub B w x) (hsm : Rds.small x) : Calls Try.prog 25 #[x.val] w fun e w' => ∃ y : CReplica, e = .returned (y.val) ∧ y.abs = x.abs ∧ FreshS w w' y := by
 have okx := Rds.okof hx
 refine M0 ?_ Try.func25
 refine Mda 9 [] [] [] Try_mixed ?_
 refine Mu ?_ Try.call15 (fun bs w hS => log_Copy x.log w (Rds.kp hx hS.kp).2.1 hsm.1)
 rintro fp1 y1 hF1 hok1
 refine Mu ?_ Try.call23 (fun bs w hS => machine_Copy x.state w ⟨(Rds.kp hx hS.kp).2.2.1, (Rds.kp hx hS.kp).2.2.2.1, (Rds.kp hx hS.kp).2.2.2.2⟩ ⟨hsm.2.1, hsm.2.2.1, hsm.2.2.2⟩)
 rintro fp2 y2 hF2 hok2
 refine Mt [.agg #[vi y1.base, y1.entries.val, vs x.snap, vi y2.index, y2.locks.val, y2.pairs.val, y2.sessions.val]] fun bs w hS => ?_
 have hab : CReplica.abs (⟨⟨y1.base, y1.entries⟩, x.snap, ⟨y2.index, y2.locks, y2.pairs, y2.sessions⟩⟩ : CReplica) = CReplica.abs x := by simp [CReplica.abs, *]
 exact ⟨(⟨⟨y1.base, y1.entries⟩, x.snap, ⟨y2.index, y2.locks, y2.pairs, y2.sessions⟩⟩ : CReplica), rfl, hab, hS.outS (y := (⟨⟨y1.base, y1.entries⟩, x.snap, ⟨y2.index, y2.locks, y2.pairs, y2.sessions⟩⟩ : CReplica)) ⟨okx.1, (allR_sub (y := y1) i1 (hS.res _ i1)), (allR_sub (y := y2) i0 (hS.res _ i0)).1, (allR_sub (y := y2) i0 (hS.res _ i0)).2.1, (allR_sub (y := y2) i0 (hS.res _ i0)).2.2⟩⟩

theorem same_replica {B B' : Nat → Prop} (a b : CReplica) (w : World) (ha : Rds.sub B w a) (hb : Rds.sub B' w b) (he : a.abs = b.abs) : Calls Try.prog 26 #[a.val, b.val] w fun e w' => e = .returned (vb true) ∧ Kp [] w w' := by
 have oka := Rds.okof ha
 have okb := Rds.okof hb
 refine M0 ?_ Try.func26
 refine Md (a.snap = b.snap) (fun h1 => ?_) fun h1 => ?_
 rotate_left
 · exact absurd (congrArg (fun q => q.snap) he) h1
 refine Mp ?_ Try.call16 (fun bs w hS => same_log a.log b.log w (Rds.kp ha hS.kp).2.1 (Rds.kp hb hS.kp).2.1 (congrArg DReplica.log he))
 refine Mq 17 true ?_ rfl
 refine Mp ?_ Try.call24 (fun bs w hS => same_state a.state b.state w ⟨(Rds.kp ha hS.kp).2.2.1, (Rds.kp ha hS.kp).2.2.2.1, (Rds.kp ha hS.kp).2.2.2.2⟩ ⟨(Rds.kp hb hS.kp).2.2.1, (Rds.kp hb hS.kp).2.2.2.1, (Rds.kp hb hS.kp).2.2.2.2⟩ (congrArg DReplica.state he))
 exact Mt [vb true] fun bs w hS => ⟨rfl, hS.kp⟩

theorem law_ReplicaCopies {B : Nat → Prop} (x : CReplica) (w : World) (hx : Rds.sub B w x) (hsm : Rds.small x) : Calls Try.prog 8 #[x.val] w fun e w' => e = .returned (vb true) ∧ Kp [] w w' := by
 have okx := Rds.okof hx
 refine M0 ?_ Try.func8
 refine Mu ?_ Try.call25 (fun bs w hS => replica_Copy x w (Rds.kp hx hS.kp) hsm)
 rintro fp1 y1 hF1 hok1
 refine Mp ?_ Try.call26 (fun bs w hS => same_replica y1 x w (hS.res _ i0) (Rds.kp hx hS.kp) hF1)
 exact Meb true (by simp [retOf, den])

end Go.Proofs.Ytakdjdfkdbofoaa.W
