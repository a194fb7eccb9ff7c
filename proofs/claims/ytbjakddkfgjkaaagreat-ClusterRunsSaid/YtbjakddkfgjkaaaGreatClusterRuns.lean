/-
  The law ClusterRuns of the given program: it answers true at every argument, and every argument reads afterwards as before.
  Conditions: none.
-/
import Derived.Test.YtbjakddkfgjkaaaGreatWClusterRunse
import Derived.Test.YtbjakddkfgjkaaaGreatOClusterRuns
import Derived.Test.YtbjakddkfgjkaaaGreatRows
import Derived.WalkKit
import Derived.ProofKit
import Derived.OpenShut
import Derived.JoinedCond
import Derived.SizedLaws
set_option linter.unusedVariables false
set_option linter.unusedSimpArgs false
namespace Go.Proofs.YtbjakddkfgjkaaaGreat.clusterRuns
open Go.ChangeShapes Go.WideShapes Go.ChangeAt Go.RowKit Go.Proofs.YtbjakddkfgjkaaaGreat.Fw Go.Proofs.YtbjakddkfgjkaaaGreat.W Go.Proofs.YtbjakddkfgjkaaaGreat.O
theorem own:ownKnob Tryz.prog.godebug=none:=by kernel_rfl
set_option maxRecDepth 100000 in
theorem G2 (H:Type)(enc:TypeId×Value→H)(W:World)(base:Nat)(args:Array Value)(ds gs:List (DataW H))(before:List MemPlace)
    (Ct: ∀(j:Nat) t v,Tryz.f5.params[j]? =some t→args[j]? =some v→Value.okWide Tryz.prog W .any base t v)
    (hW:DataW.Whole enc Tryz.prog Tryz.f5.params.toList Rows.clusterRunsSpec.vars false W args.toList ds gs before) (lY:(DataW.weightsEach Tryz.prog (Tryz.f5.params.toList++Rows.clusterRunsSpec.plain.varTypes Tryz.prog) (ds++gs)).all (· ≤reachBytes)=true):
    Calls Tryz.prog 5 args W fun e W'=> ∃v,e=.returned v∧Rows.clusterRunsSpec.post enc Tryz.prog Tryz.f5 false true false false W args v W':=by
  have K6:=hW
  obtain⟨p,q,Ry,hV,rfl,hfz,Ht⟩:=hW
  have hA:DataW.TrodAll enc Tryz.prog W 0 (fun _=>true) true Tryz.f5.params.toList args.toList ds p:=Ry
  rw[Tryz.params5] at hA Ct lY
  obtain⟨v0,Uc,d0,Ud,p0,q0,yM,rfl,rfl,h0,r0⟩:=trodAll_cons hA
  obtain⟨v1,Ue,d1,Uf,p1,q1,rfl,rfl,rfl,h1,r1⟩:=trodAll_cons r0
  obtain⟨rfl,rfl,rfl⟩:=trodAll_nil r1
  obtain rfl:args= #[v0,v1]:=by cases args;simp_all
  obtain⟨rfl,rfl⟩:=trodVars_none hV
  obtain⟨a0,rfl,rfl,rfl,Qg⟩:=open_int Tryz.underlying3 (Ct 0 3 v0 rfl rfl) h0
  obtain⟨a1,rfl,u5,lQ⟩:=EO Tryz.underlying47 P8 (Ct 1 47 v1 rfl rfl) h1
  clear Ry
  simp only[List.append_nil] at K6
  have P9:=lQ (Nn lY (j:=1) rfl rfl)
  have Np:=tk a0 a1 W u5 P9
  refine Np.mono fun e W' ⟨he,hg⟩=>?_
  subst he
  exact⟨_,rfl,Fe K6 rfl rfl (by kernel_rfl) (by kernel_rfl) Tryz.underlying4 laid (by kernel_rfl) hg⟩
set_option maxRecDepth 100000 in
theorem lifted (os:Os)(started:os.Started)(H:Type)(enc:TypeId×Value→H):
    ReturnsInHanded {} Tryz.checked os 5 .any (Rows.clusterRunsSpec.pre6 enc Tryz.prog Tryz.f5 Rows.clusterRunsRow.domain false) (Rows.clusterRunsSpec.post enc Tryz.prog Tryz.f5 false true false false):=by
  refine returnsInHanded_of_change_sized (C:=Tryz.checked) own started (by kernel_rfl) Tryz.func5
    (ChangeSpec.witness6 (enc:=enc) (C:=Tryz.checked) false ⟨#[], #[.int .i64 0,.slice none 0 0],[]⟩ 8 (by kernel_rfl) (by kernel_rfl) (by kernel_rfl) (by kernel_rfl)) ?_
  intro W base args ds gs before Ct hW Tw lY _
  exact G2 H enc W base args ds gs before Ct hW lY
theorem proved:Rows.ClusterRunsSaid:=
  OpenClaim.holds_of_wide 5 Tryz.f5 rfl rfl rfl rfl rfl rfl rfl ⟨rfl,rfl,rfl,rfl,rfl⟩ rfl rfl rfl rfl rfl (by kernel_rfl) Tryz.func5 (by kernel_rfl)
    (of_decide_eq_true (by kernel_rfl)) (by unfold Func.isWrapper;first|(rw[if_pos (by decide+kernel)];kernel_rfl)|(rw[if_neg (by decide+kernel)];exact⟨rfl,rfl⟩))
    (fun os started H enc _=>lifted os started H enc)
end Go.Proofs.YtbjakddkfgjkaaaGreat.clusterRuns
