/-
  The law ClusterRuns of the given program: it answers true at every argument of the bulk that its row names, and every argument reads afterwards as before.
  Conditions: none.
-/
import Derived.Test.YtbjakddkfgjkaaaGreatWClusterRunse
import Derived.Test.YtbjakddkfgjkaaaGreatOClusterRuns
import Derived.Test.YtbjakddkfgjkaaaGreatRows
import Derived.WalkKit
import Derived.ProofKit
import Derived.OpenShut
import Derived.JoinedCond
set_option linter.unusedVariables false
set_option linter.unusedSimpArgs false
namespace Go.Proofs.YtbjakddkfgjkaaaGreat.clusterRuns
open Go.ChangeShapes Go.WideShapes Go.ChangeAt Go.RowKit Go.Proofs.YtbjakddkfgjkaaaGreat.Fw Go.Proofs.YtbjakddkfgjkaaaGreat.W Go.Proofs.YtbjakddkfgjkaaaGreat.O
theorem own:ownKnob Tryz.prog.godebug=none:=by kernel_rfl
set_option maxRecDepth 100000 in
theorem G5 (H:Type)(enc:TypeId×Value→H)(W:World)(base:Nat)(args:Array Value)(ds gs:List (DataW H))(before:List MemPlace)
    (Cu: ∀(j:Nat) t v,Tryz.f5.params[j]? =some t→args[j]? =some v→Value.okWide Tryz.prog W .any base t v)
    (hW:DataW.Whole enc Tryz.prog Tryz.f5.params.toList Rows.clusterRunsSpec.vars false W args.toList ds gs before) (hk:Rows.uptoSmall H (ds++gs)=true):
    Calls Tryz.prog 5 args W fun e W'=> ∃v,e=.returned v∧Rows.clusterRunsSpec.post enc Tryz.prog Tryz.f5 false true false false W args v W':=by
  have K8:=hW
  obtain⟨p,q,Rz,hV,rfl,hfz,Hv⟩:=hW
  have hA:DataW.TrodAll enc Tryz.prog W 0 (fun _=>true) true Tryz.f5.params.toList args.toList ds p:=Rz
  rw[Tryz.params5] at hA Cu
  obtain⟨v0,Uc,d0,Ud,p0,q0,yL,rfl,rfl,h0,r0⟩:=trodAll_cons hA
  obtain⟨v1,Ue,d1,Uf,p1,q1,rfl,rfl,rfl,h1,r1⟩:=trodAll_cons r0
  obtain⟨rfl,rfl,rfl⟩:=trodAll_nil r1
  obtain rfl:args= #[v0,v1]:=by cases args;simp_all
  obtain⟨rfl,rfl⟩:=trodVars_none hV
  obtain⟨a0,rfl,rfl,rfl,Qi⟩:=open_int Tryz.underlying3 (Cu 0 3 v0 rfl rfl) h0
  obtain⟨a1,rfl,u4,lQ⟩:=EP Tryz.underlying47 P9 (Cu 1 47 v1 rfl rfl) h1
  clear Rz
  simp only[List.append_nil] at K8 hk
  have ER:=of_decide_eq_true hk
  simp only[Rows.uptoBulkAll] at ER
  have Qa:=lQ (by omega)
  have Np:=tj a0 a1 W u4 Qa
  refine Np.mono fun e W' ⟨he,hg⟩=>?_
  subst he
  exact⟨_,rfl,Fg K8 rfl rfl (by kernel_rfl) (by kernel_rfl) Tryz.underlying4 laid (by kernel_rfl) hg⟩
set_option maxRecDepth 100000 in
theorem lifted (os:Os)(started:os.Started)(H:Type)(enc:TypeId×Value→H)(F:Stop.Interp):
    ReturnsInHanded {} Tryz.checked os 5 .any ((Rows.OpenSpec.upto Rows.clusterRunsSpec).pre6 enc Tryz.prog Tryz.f5 Rows.clusterRunsUptoRow.domain false) (((Rows.OpenSpec.upto Rows.clusterRunsSpec).at F).post enc Tryz.prog Tryz.f5 false true false false):=by
  refine returnsInHanded_of_cond (C:=Tryz.checked) (s:=Rows.OpenSpec.upto Rows.clusterRunsSpec) (k:=Rows.uptoSmall) rfl own started (by kernel_rfl) Tryz.func5
    (OpenSpec.witness (enc:=enc) (C:=Tryz.checked) (s:=Rows.OpenSpec.upto Rows.clusterRunsSpec) (k:=Rows.uptoSmall) rfl false ⟨#[], #[.int .i64 0,.slice none 0 0],[]⟩ 8 (by kernel_rfl) (by kernel_rfl) (by kernel_rfl)
      (x:=([.lit (.int .i64 0),.nil],[],[])) (by kernel_rfl) rfl (by kernel_rfl)) ?_
  intro W base args ds gs before Cu hW _ hk _
  exact G5 H enc W base args ds gs before Cu hW hk
theorem proved:Rows.ClusterRunsUptoSaid:=
  OpenClaim.holds_of_cond 5 Tryz.f5 rfl rfl rfl rfl rfl rfl rfl ⟨rfl,rfl,rfl,rfl,rfl⟩ rfl rfl rfl rfl rfl (by kernel_rfl) Tryz.func5 (by kernel_rfl)
    (of_decide_eq_true (by kernel_rfl)) (by unfold Func.isWrapper;first|(rw[if_pos (by decide+kernel)];kernel_rfl)|(rw[if_neg (by decide+kernel)];exact⟨rfl,rfl⟩))
    (fun os started H enc _ F=>lifted os started H enc F)
end Go.Proofs.YtbjakddkfgjkaaaGreat.clusterRuns
