/-
  The functions that the law CustomerStarts reaches, walked: each returns what its model says.
  Conditions: those that each theorem states.
-/
import Derived.Test.YtececkgjacccmacWCustomerStartsa
set_option linter.unusedVariables false
set_option linter.unusedSimpArgs false
set_option maxRecDepth 100000
namespace Go.Proofs.Ytececkgjacccmac.W
open Go.Proofs.Ytececkgjacccmac.Fw Go.RowKit

theorem law_CustomerStarts {B : Nat → Prop} (x : CCustomer) (o : DOp) (w : World) (hx : Rds.sub B w x) (ho : Rds.sub B w o) (hsm : Rds.small x) : Calls Try.prog 3 #[.agg #[.int .i64 x.id, .int .i64 x.session, .int .i64 x.next, .slice x.waits.A x.waits.n x.waits.c], .agg #[.int .i64 o.kind, .string o.a, .string o.b, .int .i64 o.n]] w fun e w' => e = .returned (.bool true) ∧ Kp [] w w' := by
  have okx := Rds.okof hx
  refine calls_J0 37 Try.func3 rfl rfl [.agg #[.int .i64 x.id, .int .i64 x.session, .int .i64 x.next, .slice x.waits.A x.waits.n x.waits.c], .agg #[.int .i64 o.kind, .string o.a, .string o.b, .int .i64 o.n]] rfl ?_
  refine c_seq ?_
  refine c_region ?_
  refine JL_run 3 [] [3, 2] 2 ⟨[(3, .p 1 0), (2, .p 0 0)], [⟨24, [vI x.id, vI x.session, vI x.next, .v (.slice x.waits.A x.waits.n x.waits.c)]⟩, ⟨26, [vI o.kind, vS o.a, vS o.b, vI o.n]⟩]⟩ [] [] (by kernel_rfl) on wn ?_
  refine l_nil (q_then_normal ?_)
  refine c_seq ?_
  refine c_region ?_
  refine JL_run 1 [] [10, 3, 2] 2 ⟨[(10, .v (.agg #[.int .i64 x.id, .int .i64 x.session, .int .i64 x.next, .slice x.waits.A x.waits.n x.waits.c])), (3, .p 1 0), (2, .p 0 0)], [⟨24, [vI x.id, vI x.session, vI x.next, .v (.slice x.waits.A x.waits.n x.waits.c)]⟩, ⟨26, [vI o.kind, vS o.a, vS o.b, vI o.n]⟩]⟩ [] [] (by kernel_rfl) on wn ?_
  refine l_sub_call (σ := CCustomer) 15 [] [.v (.agg #[.int .i64 x.id, .int .i64 x.session, .int .i64 x.next, .slice x.waits.A x.waits.n x.waits.c])] (fun y1 => .agg #[.int .i64 y1.id, .int .i64 y1.session, .int .i64 y1.next, .slice y1.waits.A y1.waits.n y1.waits.c]) (fun y1 => y1.abs = x.abs) Try.call15 rfl rfl rfl rfl (fun bs w hS => ref_CustomerCopy x w (Rds.kp hx hS.kp) hsm.1) ?_
  rintro fp1 y1 hF1 hok1
  refine JL_run 2 [] [5, 3, 2] 3 ⟨[(5, .p 2 0), (3, .p 1 0), (2, .p 0 0)], [⟨24, [vI x.id, vI x.session, vI x.next, .v (.slice x.waits.A x.waits.n x.waits.c)]⟩, ⟨26, [vI o.kind, vS o.a, vS o.b, vI o.n]⟩, ⟨24, [vI y1.id, vI y1.session, vI y1.next, .v (.slice y1.waits.A y1.waits.n y1.waits.c)]⟩]⟩ [] [] (by kernel_rfl) on wn ?_
  refine l_nil (q_then_normal ?_)
  refine c_seq ?_
  refine c_region ?_
  refine JL_run 2 [] [14, 13, 5, 3, 2] 3 ⟨[(14, .v (.agg #[.int .i64 o.kind, .string o.a, .string o.b, .int .i64 o.n])), (13, .v (.agg #[.int .i64 y1.id, .int .i64 y1.session, .int .i64 y1.next, .slice y1.waits.A y1.waits.n y1.waits.c])), (5, .p 2 0), (3, .p 1 0), (2, .p 0 0)], [⟨24, [vI x.id, vI x.session, vI x.next, .v (.slice x.waits.A x.waits.n x.waits.c)]⟩, ⟨26, [vI o.kind, vS o.a, vS o.b, vI o.n]⟩, ⟨24, [vI y1.id, vI y1.session, vI y1.next, .v (.slice y1.waits.A y1.waits.n y1.waits.c)]⟩]⟩ [] [] (by kernel_rfl) on wn ?_
  refine l_sub_call (σ := CCustomer) 16 [] [.v (.agg #[.int .i64 y1.id, .int .i64 y1.session, .int .i64 y1.next, .slice y1.waits.A y1.waits.n y1.waits.c]), .v (.agg #[.int .i64 o.kind, .string o.a, .string o.b, .int .i64 o.n])] (fun y2 => .tuple #[.agg #[.int .i64 y2.id, .int .i64 y2.session, .int .i64 y2.next, .slice y2.waits.A y2.waits.n y2.waits.c], .int .i64 ((mStart y1.abs o).2)]) (fun y2 => y2.abs = (mStart y1.abs o).1) Try.call16 rfl rfl rfl rfl (fun bs w hS => customer_Start y1 o w (hS.res _ (.head _)) ho) ?_
  rintro fp2 y2 hF2 hok2
  refine JL_run 6 [] [7, 6, 5, 3, 2] 4 ⟨[(7, vI ((mStart y1.abs o).2)), (6, .p 3 0), (5, .p 2 0), (3, .p 1 0), (2, .p 0 0)], [⟨24, [vI x.id, vI x.session, vI x.next, .v (.slice x.waits.A x.waits.n x.waits.c)]⟩, ⟨26, [vI o.kind, vS o.a, vS o.b, vI o.n]⟩, ⟨24, [vI y1.id, vI y1.session, vI y1.next, .v (.slice y1.waits.A y1.waits.n y1.waits.c)]⟩, ⟨24, [vI y2.id, vI y2.session, vI y2.next, .v (.slice y2.waits.A y2.waits.n y2.waits.c)]⟩]⟩ [] [] (by kernel_rfl) on wn ?_
  refine l_nil (q_then_normal ?_)
  refine c_seq ?_
  refine c_region ?_
  refine JL_run 2 [] [20, 19, 7, 6, 5, 2] 4 ⟨[(20, .v (.agg #[.int .i64 o.kind, .string o.a, .string o.b, .int .i64 o.n])), (19, .v (.agg #[.int .i64 x.id, .int .i64 x.session, .int .i64 x.next, .slice x.waits.A x.waits.n x.waits.c])), (7, vI ((mStart y1.abs o).2)), (6, .p 3 0), (5, .p 2 0), (2, .p 0 0)], [⟨24, [vI x.id, vI x.session, vI x.next, .v (.slice x.waits.A x.waits.n x.waits.c)]⟩, ⟨26, [vI o.kind, vS o.a, vS o.b, vI o.n]⟩, ⟨24, [vI y1.id, vI y1.session, vI y1.next, .v (.slice y1.waits.A y1.waits.n y1.waits.c)]⟩, ⟨24, [vI y2.id, vI y2.session, vI y2.next, .v (.slice y2.waits.A y2.waits.n y2.waits.c)]⟩]⟩ [] [] (by kernel_rfl) on wn ?_
  refine l_sub_call (σ := CCustomer) 17 [] [.v (.agg #[.int .i64 x.id, .int .i64 x.session, .int .i64 x.next, .slice x.waits.A x.waits.n x.waits.c]), .v (.agg #[.int .i64 o.kind, .string o.a, .string o.b, .int .i64 o.n])] (fun y3 => .tuple #[.agg #[.int .i64 y3.id, .int .i64 y3.session, .int .i64 y3.next, .slice y3.waits.A y3.waits.n y3.waits.c], .int .i64 ((mStart x.abs o).2)]) (fun y3 => y3.abs = (mStart x.abs o).1) Try.call17 rfl rfl rfl rfl (fun bs w hS => ref_StartedOf x o w (Rds.kp hx hS.kp) ho) ?_
  rintro fp3 y3 hF3 hok3
  refine JL_run 6 [] [9, 8, 7, 6, 5, 2] 5 ⟨[(9, vI ((mStart x.abs o).2)), (8, .p 4 0), (7, vI ((mStart y1.abs o).2)), (6, .p 3 0), (5, .p 2 0), (2, .p 0 0)], [⟨24, [vI x.id, vI x.session, vI x.next, .v (.slice x.waits.A x.waits.n x.waits.c)]⟩, ⟨26, [vI o.kind, vS o.a, vS o.b, vI o.n]⟩, ⟨24, [vI y1.id, vI y1.session, vI y1.next, .v (.slice y1.waits.A y1.waits.n y1.waits.c)]⟩, ⟨24, [vI y2.id, vI y2.session, vI y2.next, .v (.slice y2.waits.A y2.waits.n y2.waits.c)]⟩, ⟨24, [vI y3.id, vI y3.session, vI y3.next, .v (.slice y3.waits.A y3.waits.n y3.waits.c)]⟩]⟩ [] [] (by kernel_rfl) on wn ?_
  refine l_nil (q_then_normal ?_)
  refine c_seq ?_
  refine c_region ?_
  refine JL_run 4 [] [27, 8, 6, 5, 2] 5 ⟨[(27, vB (decide ((mStart y1.abs o).2 = (mStart x.abs o).2))), (8, .p 4 0), (6, .p 3 0), (5, .p 2 0), (2, .p 0 0)], [⟨24, [vI x.id, vI x.session, vI x.next, .v (.slice x.waits.A x.waits.n x.waits.c)]⟩, ⟨26, [vI o.kind, vS o.a, vS o.b, vI o.n]⟩, ⟨24, [vI y1.id, vI y1.session, vI y1.next, .v (.slice y1.waits.A y1.waits.n y1.waits.c)]⟩, ⟨24, [vI y2.id, vI y2.session, vI y2.next, .v (.slice y2.waits.A y2.waits.n y2.waits.c)]⟩, ⟨24, [vI y3.id, vI y3.session, vI y3.next, .v (.slice y3.waits.A y3.waits.n y3.waits.c)]⟩]⟩ [] [] (by kernel_rfl) on wn ?_
  cases h1 : decide ((mStart y1.abs o).2 = (mStart x.abs o).2) with
  | true =>
    have h1 := of_decide_eq_true h1
    refine JL_run 2 [] [29, 28, 27, 5, 2] 3 ⟨[(29, .v (.agg #[.int .i64 y3.id, .int .i64 y3.session, .int .i64 y3.next, .slice y3.waits.A y3.waits.n y3.waits.c])), (28, .v (.agg #[.int .i64 y2.id, .int .i64 y2.session, .int .i64 y2.next, .slice y2.waits.A y2.waits.n y2.waits.c])), (27, vB true), (5, .p 2 0), (2, .p 0 0)], [⟨24, [vI x.id, vI x.session, vI x.next, .v (.slice x.waits.A x.waits.n x.waits.c)]⟩, ⟨26, [vI o.kind, vS o.a, vS o.b, vI o.n]⟩, ⟨24, [vI y1.id, vI y1.session, vI y1.next, .v (.slice y1.waits.A y1.waits.n y1.waits.c)]⟩]⟩ [] [] (by kernel_rfl) on wn ?_
    refine l_pure 18 [] [.v (.agg #[.int .i64 y2.id, .int .i64 y2.session, .int .i64 y2.next, .slice y2.waits.A y2.waits.n y2.waits.c]), .v (.agg #[.int .i64 y3.id, .int .i64 y3.session, .int .i64 y3.next, .slice y3.waits.A y3.waits.n y3.waits.c])] (.bool true) Try.call18 rfl rfl rfl rfl (fun bs w hS => same_customer y2 y3 w (hS.res _ (.tail _ (.head _))) (hS.res _ (.head _)) (by rw [hF2, hF3, hF1])) ?_
    refine JL_run 4 [] [34, 33, 32] 0 ⟨[(34, .v (.agg #[.int .i64 x.id, .int .i64 x.session, .int .i64 x.next, .slice x.waits.A x.waits.n x.waits.c])), (33, .v (.agg #[.int .i64 y1.id, .int .i64 y1.session, .int .i64 y1.next, .slice y1.waits.A y1.waits.n y1.waits.c])), (32, vB true)], []⟩ [] [] (by kernel_rfl) on wn ?_
    refine l_pure 18 [] [.v (.agg #[.int .i64 y1.id, .int .i64 y1.session, .int .i64 y1.next, .slice y1.waits.A y1.waits.n y1.waits.c]), .v (.agg #[.int .i64 x.id, .int .i64 x.session, .int .i64 x.next, .slice x.waits.A x.waits.n x.waits.c])] (.bool true) Try.call18 rfl rfl rfl rfl (fun bs w hS => same_customer y1 x w (hS.res _ (.tail _ (.tail _ (.head _)))) (Rds.kp hx hS.kp) hF1) ?_
    refine JL_run 2 [] [4] 0 ⟨[(4, vB true)], []⟩ [] [] (by kernel_rfl) on wn ?_
    refine l_nil (q_then_normal ?_)
    refine c_ret ?_
    refine q_ret (.inl rfl) [vB true] rfl (fun bs w hS => ?_)
    refine ⟨?_, hS.kp⟩
    simp [retOf, den]
  | false =>
    have h1 := of_decide_eq_false h1
    exfalso; first | (simp at h1; done) | (rw [hF1] at h1; simp at h1; done)

end Go.Proofs.Ytececkgjacccmac.W
