/-
  The functions that the law CustomerCopies reaches, walked: each returns what its model says.
  Conditions: those that each theorem states.
-/
import Derived.Test.YtakdjdfkdbofoaaFe
import Derived.Test.YtakdjdfkdbofoaaChecked
set_option linter.unusedVariables false
set_option linter.unusedSimpArgs false
set_option maxRecDepth 100000
set_option maxHeartbeats 2000000
namespace Go.Proofs.Ytakdjdfkdbofoaa.W
open Go.Proofs.Ytakdjdfkdbofoaa.Fw Go.RowKit
attribute [local irreducible] JM nx

theorem Try_mixed : Try.prog.follows .mixedOrders = true := by kernel_rfl
theorem laid : laidOutB Try.prog = true := by kernel_rfl

theorem clone_Wait {B : Nat → Prop} (s : Sl DWait) (w : World) (hs : s.rd B w) (hb : s.n * 56 ≤ 140737488355328) : Calls Try.prog 44 #[s.val] w fun e w' => ∃ y : Sl DWait, e = .returned y.val ∧ y.xs = s.xs ∧ Kp [] w w' ∧ Fresh w w' (rowA 83 y.A y.c y.xs) := by
 have oks := Sl.rd.ok hs
 have ncs := Sl.ok.nc oks
 have hns : s.n = s.xs.length := rfl
 refine M0 ?_ Try.func44
 refine Mi ?_ (pG [(4, .val (.bool s.A.isNone))] (oc ((eq_nil Try.underlying28) : ∀ w, (do eqGuard .eql 28 (.tmp 3) (.const vn) s.val vn; binOp .eql 28 s.val vn : Sem Value).run Try.prog w = .ok (.bool s.A.isNone) w) on))
 refine Mb s.A.isNone (fun h1 => ?_) fun h1 => ?_
 · refine Mt [vn] fun bs w hS => ?_
   have hnil : s.xs = [] := Sl.ok.empty oks (by cases h : s.A <;> simp_all)
   exact ⟨Sl.nil, rfl, hnil.symm, hS.kp, rowA_nil 83 w⟩
 refine Mlz ?_ (α := DWait) (e := 83)
 intro A1
 refine Ma ?_ (α := DWait) (L2 := s.xs) 56 (fun bs w hS => Sl.rd.src (s := s) (Sl.rd.kp hs hS.kp))
 intro A2 c2
 exact Mt [.slice A2 ([] ++ s.xs).length c2] fun bs w hS => ⟨⟨A2, c2, [] ++ s.xs⟩, rfl, by simp, hS.kp, hS.out1⟩

theorem customer_CopyR {B : Nat → Prop} (x : CCustomer) (w : World) (hx : Rds.sub B w x) (hb : x.waits.n * 56 ≤ 140737488355328) : Calls Try.prog 17 #[x.val] w fun e w' => ∃ y : Sl DWait, e = .returned (.agg #[vi x.id, vi x.session, vi x.next, y.val]) ∧ y.xs = x.waits.xs ∧ Kp [] w w' ∧ Fresh w w' (rowA 83 y.A y.c y.xs) := by
 have hat : ∀ q, x.abs.waits.getD q default = x.waits.at q := fun _ => rfl
 have ha1 : x.abs.id = x.id := rfl
 have ha2 : x.abs.session = x.session := rfl
 have ha3 : x.abs.next = x.next := rfl
 have ha4 : x.abs.waits.length = x.waits.n := rfl
 have okx := Rds.okof hx
 have ncx := Sl.ok.nc okx
 have hnx : x.waits.n = x.waits.xs.length := rfl
 refine M0 ?_ Try.func17
 refine Mf ?_ Try.call44 (fun bs w hS => clone_Wait x.waits w (Rds.kp hx hS.kp) hb)
 rintro y1 hF1
 exact Mt [.agg #[vi x.id, vi x.session, vi x.next, y1.val]] fun bs w hS => ⟨y1, rfl, hF1, hS.kp, hS.out1⟩
theorem customer_Copy {B : Nat → Prop} (x : CCustomer) (w : World) (hx : Rds.sub B w x) (hb : x.waits.n * 56 ≤ 140737488355328) : Calls Try.prog 17 #[x.val] w fun e w' => ∃ y : CCustomer, e = .returned (y.val) ∧ y.abs = x.abs ∧ FreshS w w' y :=
  (customer_CopyR x w hx hb).mono fun e w' ⟨y, h1, h2, h3, h4⟩ => ⟨⟨x.id, x.session, x.next, y⟩, h1, by simp [CCustomer.abs, h2], h3, h4.sub fun hp => Rr hp (fun b hb => hb) fun z hz => Sl.rd.mem (s := x.waits) hx z (h2 ▸ hz)⟩

theorem same_customer {B B' : Nat → Prop} (a b : CCustomer) (w : World) (ha : Rds.sub B w a) (hb : Rds.sub B' w b) (he : a.abs = b.abs) : Calls Try.prog 18 #[a.val, b.val] w fun e w' => e = .returned (vb true) ∧ Kp [] w w' := by
 have oka := Rds.okof ha
 have okb := Rds.okof hb
 have hw : a.waits.xs = b.waits.xs := congrArg DCustomer.waits he
 have hwn := xs_n hw
 have h1 : a.id = b.id := congrArg DCustomer.id he
 have h2 : a.session = b.session := congrArg DCustomer.session he
 have h3 : a.next = b.next := congrArg DCustomer.next he
 have nca := Sl.ok.nc oka
 refine M0 ?_ Try.func18
 refine Mdn (a.id = b.id) (fun h11 => ?_) fun h11 => ?_
 rotate_left
 · exfalso; first | omega | (rw [hat] at h11; simp at h11)
 refine Mdn (a.session = b.session) (fun h12 => ?_) fun h12 => ?_
 rotate_left
 · exfalso; first | omega | (rw [hat] at h12; simp at h12)
 refine Mdn (a.next = b.next) (fun h13 => ?_) fun h13 => ?_
 rotate_left
 · exfalso; first | omega | (rw [hat] at h13; simp at h13)
 refine Mdn ((a.waits.n : Int) = (b.waits.n : Int)) (fun h14 => ?_) fun h14 => ?_
 rotate_left
 · exfalso; first | omega | (rw [hat] at h14; simp at h14)
 refine Ml (σ := Nat) (fun i => True) (fun i => a.waits.n - i) (fun _ => []) [5, 3, 2] (fun i => [(5, vI (i : Int))]) (fun _ => []) ?_ 0 trivial
 rintro i _ _ on1
 have hat := xs_at hw i
 refine Md ((i : Int) < (a.waits.n : Int)) (fun h15 => ?_) fun h15 => ?_
 rotate_left
 · exact Mt [vb true] fun bs w hS => ⟨rfl, hS.kp⟩
 refine Mda 11 [] [] [] Try_mixed ?_
 refine Mih ?_ (pc (pA 44 45 (i : Int) i (s := a.waits) (fun w hk hr => (Rds.kp ha hk))) (pc (pA 49 50 (i : Int) i (s := b.waits) (fun w hk hr => (Rds.kp hb hk))) (pG [(51, .val (vb (!((decide ((a.waits.at i).seq = (b.waits.at i).seq)) && (((decide ((a.waits.at i).op.kind = (b.waits.at i).op.kind)) && ((decide ((a.waits.at i).op.a = (b.waits.at i).op.a)) && ((decide ((a.waits.at i).op.b = (b.waits.at i).op.b)) && ((decide ((a.waits.at i).op.n = (b.waits.at i).op.n)) && true)))) && true)))))] (oc ((neq_agg (by kernel_rfl) (by kernel_rfl)) : ∀ w, (do eqGuard .neq 83 (.tmp 45) (.tmp 50) (a.waits.at i).val (b.waits.at i).val; binOp .neq 83 (a.waits.at i).val (b.waits.at i).val : Sem Value).run Try.prog w = .ok (vb (!((decide ((a.waits.at i).seq = (b.waits.at i).seq)) && (((decide ((a.waits.at i).op.kind = (b.waits.at i).op.kind)) && ((decide ((a.waits.at i).op.a = (b.waits.at i).op.a)) && ((decide ((a.waits.at i).op.b = (b.waits.at i).op.b)) && ((decide ((a.waits.at i).op.n = (b.waits.at i).op.n)) && true)))) && true)))) w) on))))
 refine Mbn ((decide ((a.waits.at i).seq = (b.waits.at i).seq)) && (((decide ((a.waits.at i).op.kind = (b.waits.at i).op.kind)) && ((decide ((a.waits.at i).op.a = (b.waits.at i).op.a)) && ((decide ((a.waits.at i).op.b = (b.waits.at i).op.b)) && ((decide ((a.waits.at i).op.n = (b.waits.at i).op.n)) && true)))) && true)) (fun h16 => ?_) fun h16 => ?_
 rotate_left
 · exfalso; first | omega | (rw [hat] at h16; simp at h16)
 refine Mi ?_ (pR ((i : Int) + 1))
 exact on1 (i + 1) trivial (by omega)

theorem law_CustomerCopies {B : Nat → Prop} (x : CCustomer) (w : World) (hx : Rds.sub B w x) (hsm : Rds.small x) : Calls Try.prog 4 #[.agg #[.int .i64 x.id, .int .i64 x.session, .int .i64 x.next, .slice x.waits.A x.waits.n x.waits.c]] w fun e w' => e = .returned (.bool true) ∧ Kp [] w w' := by
 have okx := Rds.okof hx
 refine M0 ?_ Try.func4
 refine Mu ?_ Try.call17 (fun bs w hS => customer_Copy x w (Rds.kp hx hS.kp) hsm.1)
 rintro fp1 y1 hF1 hok1
 refine Mp ?_ Try.call18 (fun bs w hS => same_customer y1 x w (hS.res _ i0) (Rds.kp hx hS.kp) hF1)
 exact Meb true (by simp [retOf, den])

end Go.Proofs.Ytakdjdfkdbofoaa.W
