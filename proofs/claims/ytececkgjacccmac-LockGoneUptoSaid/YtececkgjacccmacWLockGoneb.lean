/-
  The functions that the law LockGone reaches, walked: each returns what its model says.
  Conditions: those that each theorem states.
-/
import Derived.Test.YtececkgjacccmacWLockGonea
set_option linter.unusedVariables false
set_option linter.unusedSimpArgs false
set_option maxRecDepth 100000
namespace Go.Proofs.Ytececkgjacccmac.W
open Go.Proofs.Ytececkgjacccmac.Fw Go.RowKit

theorem law_LockGone {B : Nat → Prop} (s : Sl CLock) (who : Int) (w : World) (hs : s.rd B w) (hsm : Rds.small s) : Calls Try.prog 8 #[.slice s.A s.n s.c, .int .i64 who] w fun e w' => e = .returned (.bool true) ∧ Kp [] w w' := by
 have oks := Sl.rd.ok hs
 have ncs := Sl.ok.nc oks
 have hns : s.n = s.xs.length := rfl
 refine calls_J0 37 Try.func8 rfl rfl [.slice s.A s.n s.c, .int .i64 who] rfl ?_
 refine Cs (Cg (Jq 1 [0, 1] 0 ⟨[(0, .v s.val), (1, vI who)], []⟩ (Ln (Qn (Cs (Cg (Jq 1 [10, 0, 1] 0 ⟨[(10, .v s.val), (0, .v s.val), (1, vI who)], []⟩ (Lu (σ := Sl CLock) 29 [] [.v s.val] (fun y1 => .slice y1.A y1.n y1.c) (fun y1 => y1.xs.map CLock.abs = s.xs.map CLock.abs) Try.call29 rfl rfl rfl rfl (fun bs w hS => ref_LocksCopyS s w (Sl.rd.kp hs hS.kp) hsm) ?_))))))))
 rintro fp1 y1 hF1 hok1
 refine Jq 1 [5, 0, 1] 0 ⟨[(5, .v y1.val), (0, .v s.val), (1, vI who)], []⟩ (Ln (Qn (Cs (Cg (Jq 2 [14, 13, 5, 0, 1] 0 ⟨[(14, vI who), (13, .v y1.val), (5, .v y1.val), (0, .v s.val), (1, vI who)], []⟩ (Lu (σ := Sl CLock) 30 [] [.v y1.val, vI who] (fun y2 => .tuple #[.slice y2.A y2.n y2.c, .int .i64 (mGone (y1.xs.map CLock.abs) who).2]) (fun y2 => y2.xs.map CLock.abs = (mGone (y1.xs.map CLock.abs) who).1) Try.call30 rfl rfl rfl rfl (fun bs w hS => lock_Gone y1 who w (hS.res _ (.head _))) ?_))))))
 rintro fp2 y2 hF2 hok2
 refine Jq 5 [7, 6, 5, 0, 1] 0 ⟨[(7, vI (mGone (y1.xs.map CLock.abs) who).2), (6, .v y2.val), (5, .v y1.val), (0, .v s.val), (1, vI who)], []⟩ (Ln (Qn (Cs (Cg (Jq 2 [20, 19, 7, 6, 5, 0] 0 ⟨[(20, vI who), (19, .v s.val), (7, vI (mGone (y1.xs.map CLock.abs) who).2), (6, .v y2.val), (5, .v y1.val), (0, .v s.val)], []⟩ (Lu (σ := Sl CLock) 31 [] [.v s.val, vI who] (fun y3 => .tuple #[.slice y3.A y3.n y3.c, .int .i64 (mGone (s.xs.map CLock.abs) who).2]) (fun y3 => y3.xs.map CLock.abs = (mGone (s.xs.map CLock.abs) who).1) Try.call31 rfl rfl rfl rfl (fun bs w hS => ref_GoneOf s who w (Sl.rd.kp hs hS.kp)) ?_))))))
 rintro fp3 y3 hF3 hok3
 refine Jq 5 [9, 8, 7, 6, 5, 0] 0 ⟨[(9, vI (mGone (s.xs.map CLock.abs) who).2), (8, .v y3.val), (7, vI (mGone (y1.xs.map CLock.abs) who).2), (6, .v y2.val), (5, .v y1.val), (0, .v s.val)], []⟩ (Ln (Qn (Cs (Cg (Jq 4 [27, 8, 6, 5, 0] 0 ⟨[(27, vB (decide ((mGone (y1.xs.map CLock.abs) who).2 = (mGone (s.xs.map CLock.abs) who).2))), (8, .v y3.val), (6, .v y2.val), (5, .v y1.val), (0, .v s.val)], []⟩ ?_)))))
 cases h1 : decide ((mGone (y1.xs.map CLock.abs) who).2 = (mGone (s.xs.map CLock.abs) who).2) with
 | true =>
  have h1 := of_decide_eq_true h1
  refine Jq 2 [29, 28, 27, 5, 0] 0 ⟨[(29, .v y3.val), (28, .v y2.val), (27, vB true), (5, .v y1.val), (0, .v s.val)], []⟩ (Lp 32 [] [.v y2.val, .v y3.val] (.bool true) Try.call32 rfl rfl rfl rfl (fun bs w hS => same_locks _ _ w (hS.res _ (.tail _ (.head _))) (hS.res _ (.head _)) (by rw [hF2, hF3, hF1])) (Jq 4 [34, 33, 32] 0 ⟨[(34, .v s.val), (33, .v y1.val), (32, vB true)], []⟩ (Lp 32 [] [.v y1.val, .v s.val] (.bool true) Try.call32 rfl rfl rfl rfl (fun bs w hS => same_locks _ _ w (hS.res _ (.tail _ (.tail _ (.head _)))) (Sl.rd.kp hs hS.kp) hF1) (Jq 2 [4] 0 ⟨[(4, vB true)], []⟩ (Ln (Qn (Cr (Rt (.inl rfl) [vB true] rfl (fun bs w hS => (⟨?_, hS.kp⟩))))))))))
  simp [retOf, den]
 | false =>
  have h1 := of_decide_eq_false h1
  exfalso; first | (simp at h1; done) | (rw [hF1] at h1; simp at h1; done)

end Go.Proofs.Ytececkgjacccmac.W
