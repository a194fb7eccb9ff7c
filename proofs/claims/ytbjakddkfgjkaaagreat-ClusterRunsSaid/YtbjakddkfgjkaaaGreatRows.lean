/-
  No cell of these rows narrows 'for every input' (looked for: loops, veiled, ifaces, maps, wideKeys, modest, calm, conditions, laid).
  DERIVED. THE GIVEN ROWS OF THIS SEAT. 3 by the template 'for every input the law returns true; each argument reads behind the call as it read before'; 0 by the template 'total and deterministic' (their statements: YtbjakddkfgjkaaaGreatTotals.lean).
  GIVEN WITH THE SEED: the statements are not yours to turn. If you find one false, say at which input.
  Laid BY PROGRAM, IN A SANDBOX (cutbox-rows.mjs): the forced cells as the released guide's own fill.sh prints them over the translation 363bda574a1a42f2… (all of the seat's roots in one cut). By AI agents, Wed Nov 11 2026. No macro, syntax, notation, axiom, sorry.
-/
import Derived.Test.YtbjakddkfgjkaaaGreatChecked
import GoSem.Claim
import GoSem.ClaimJoined
import GoSem.ClaimMapViews
import Derived.JoinedTies
import Derived.KernelRfl
namespace Go.Proofs.YtbjakddkfgjkaaaGreat
/- THE CELL 'sum', in the pinned program and in every row, IS THE sha256 OF THE DUMP (.gsa) THAT YtbjakddkfgjkaaaGreatProg.lean LOADS. Nothing in Lean hashes anything: it is a label: what it is worth is what the hold of that sum in a sandbox is worth. -/
noncomputable def Tryz.pinned : Pinned := { name := "ytbjakddkfgjkaaagreat", sum := "363bda574a1a42f2e21703287a1099b0d5d830d5e02656e0a216ba5db9a32816", checked := Tryz.checked }
namespace Rows
def none {H : Type} : Left H := { results := [], args := [] }

/-- 'tackroomlaw.MachineApplies': WHATEVER THE INPUT: true; the input reads as it did. -/
def machineAppliesSpec : ChangeSpec := { name := "machineApplies", fn := fun _ => fun
  | [d1, d2] => { results := [.lit (.bool true)], args := [d1, d2] }
  | _ => none }
def machineAppliesRow : OpenClaim := { program := "ytbjakddkfgjkaaagreat", sum := "363bda574a1a42f2e21703287a1099b0d5d830d5e02656e0a216ba5db9a32816", func := "tackroom/tackroomlaw.MachineApplies", spec := "machineApplies", inPlace := ["slices.overlaps[tackroom/api.Session]", "internal/bytealg.abigen_runtime_cmpstring", "slices.overlaps[tackroom/api.Lock]", "slices.overlaps[tackroom/api.Pair]", "slices.overlaps[tackroom/api.Kept]"], unfollowed := true, recurses := true, apart := false }
def MachineAppliesSaid : Prop := machineAppliesRow.holds Tryz.pinned (OpenSpec.ofChange machineAppliesSpec)

/-- ITS FALSE NEIGHBOUR: 'it returns false'. Refute it at one input. -/
def machineAppliesWrong : ChangeSpec := { name := "machineApplies", fn := fun _ => fun
  | [d1, d2] => { results := [.lit (.bool false)], args := [d1, d2] }
  | _ => none }
def MachineAppliesWrongFalsely : Prop := machineAppliesRow.holds Tryz.pinned (OpenSpec.ofChange machineAppliesWrong)

/-- 'tackroomlaw.ReplicaApplies': WHATEVER THE INPUT: true; the input reads as it did. -/
def replicaAppliesSpec : ChangeSpec := { name := "replicaApplies", fn := fun _ => fun
  | [d1, d2] => { results := [.lit (.bool true)], args := [d1, d2] }
  | _ => none }
def replicaAppliesRow : OpenClaim := { program := "ytbjakddkfgjkaaagreat", sum := "363bda574a1a42f2e21703287a1099b0d5d830d5e02656e0a216ba5db9a32816", func := "tackroom/tackroomlaw.ReplicaApplies", spec := "replicaApplies", inPlace := ["slices.overlaps[tackroom/api.Session]", "internal/bytealg.abigen_runtime_cmpstring", "slices.overlaps[tackroom/api.Lock]", "slices.overlaps[tackroom/api.Pair]", "slices.overlaps[tackroom/api.Kept]"], unfollowed := true, recurses := true, apart := false }
def ReplicaAppliesSaid : Prop := replicaAppliesRow.holds Tryz.pinned (OpenSpec.ofChange replicaAppliesSpec)

/-- ITS FALSE NEIGHBOUR: 'it returns false'. Refute it at one input. -/
def replicaAppliesWrong : ChangeSpec := { name := "replicaApplies", fn := fun _ => fun
  | [d1, d2] => { results := [.lit (.bool false)], args := [d1, d2] }
  | _ => none }
def ReplicaAppliesWrongFalsely : Prop := replicaAppliesRow.holds Tryz.pinned (OpenSpec.ofChange replicaAppliesWrong)

/-- 'tackroomlaw.ClusterRuns': WHATEVER THE INPUT: true; the input reads as it did. -/
def clusterRunsSpec : ChangeSpec := { name := "clusterRuns", fn := fun _ => fun
  | [d1, d2] => { results := [.lit (.bool true)], args := [d1, d2] }
  | _ => none }
def clusterRunsRow : OpenClaim := { program := "ytbjakddkfgjkaaagreat", sum := "363bda574a1a42f2e21703287a1099b0d5d830d5e02656e0a216ba5db9a32816", func := "tackroom/tackroomlaw.ClusterRuns", spec := "clusterRuns", inPlace := ["slices.overlaps[tackroom/api.Session]", "internal/bytealg.abigen_runtime_cmpstring", "slices.overlaps[tackroom/api.Lock]", "slices.overlaps[tackroom/api.Pair]", "slices.overlaps[tackroom/api.Kept]"], unfollowed := true, recurses := true, apart := false }
def ClusterRunsSaid : Prop := clusterRunsRow.holds Tryz.pinned (OpenSpec.ofChange clusterRunsSpec)

/-- ITS FALSE NEIGHBOUR: 'it returns false'. Refute it at one input. -/
def clusterRunsWrong : ChangeSpec := { name := "clusterRuns", fn := fun _ => fun
  | [d1, d2] => { results := [.lit (.bool false)], args := [d1, d2] }
  | _ => none }
def ClusterRunsWrongFalsely : Prop := clusterRunsRow.holds Tryz.pinned (OpenSpec.ofChange clusterRunsWrong)

/- THE SECOND FORM. 'bulk': how many values and letters a reading holds, each counted each time it is reached (what is shared counts as often as it is met; a slice's spare places count too). A statement '..UptoSaid' is the law's where the arguments, and the package variables that the reading takes, are together of bulk at most 1048576: NARROWER than '..Said'. Prove '..Said' where nothing that the law and all that it calls make is longer than what came in: it says more and counts as full. Else prove '..UptoSaid'. A law counts once. -/
mutual
def uptoBulk {H : Type} : DataW H → Nat
  | .lit (.string bytes) => bytes.length + 1
  | .lit _ => 1
  | .nil => 1
  | .ptr d => uptoBulk d + 1
  | .slice elems spare => uptoBulkAll elems + uptoBulkAll spare + 1
  | .agg parts => uptoBulkAll parts + 1
  | .iface _ d => uptoBulk d + 1
  | .map entries => uptoBulkEntries entries + 1
  | .held _ => 1
def uptoBulkAll {H : Type} : List (DataW H) → Nat
  | [] => 0
  | d :: r => uptoBulk d + uptoBulkAll r
def uptoBulkEntries {H : Type} : List (Lit × DataW H) → Nat
  | [] => 0
  | x :: r => uptoBulkEntry x + uptoBulkEntries r
def uptoBulkEntry {H : Type} : Lit × DataW H → Nat
  | (.string bytes, d) => bytes.length + uptoBulk d + 1
  | (_, d) => uptoBulk d + 1
 end
def uptoSmall : (H : Type) → List (DataW H) → Bool := fun _ ds => decide (uptoBulkAll ds ≤ 1048576)
def OpenSpec.upto (s : _root_.Go.ChangeSpec) : _root_.Go.OpenSpec := { _root_.Go.OpenSpec.ofChange s with cond := some uptoSmall }

/-- 'tackroomlaw.MachineApplies', WHERE WHAT IT READS IS OF BULK AT MOST 1048576: true; the input reads as it did. -/
def machineAppliesUptoRow : OpenClaim := { program := "ytbjakddkfgjkaaagreat", sum := "363bda574a1a42f2e21703287a1099b0d5d830d5e02656e0a216ba5db9a32816", func := "tackroom/tackroomlaw.MachineApplies", spec := "machineApplies", inPlace := ["slices.overlaps[tackroom/api.Session]", "internal/bytealg.abigen_runtime_cmpstring", "slices.overlaps[tackroom/api.Lock]", "slices.overlaps[tackroom/api.Pair]", "slices.overlaps[tackroom/api.Kept]"], unfollowed := true, recurses := true, apart := false, narrowed := true }
def MachineAppliesUptoSaid : Prop := machineAppliesUptoRow.holds Tryz.pinned (OpenSpec.upto machineAppliesSpec)

/-- 'tackroomlaw.ReplicaApplies', WHERE WHAT IT READS IS OF BULK AT MOST 1048576: true; the input reads as it did. -/
def replicaAppliesUptoRow : OpenClaim := { program := "ytbjakddkfgjkaaagreat", sum := "363bda574a1a42f2e21703287a1099b0d5d830d5e02656e0a216ba5db9a32816", func := "tackroom/tackroomlaw.ReplicaApplies", spec := "replicaApplies", inPlace := ["slices.overlaps[tackroom/api.Session]", "internal/bytealg.abigen_runtime_cmpstring", "slices.overlaps[tackroom/api.Lock]", "slices.overlaps[tackroom/api.Pair]", "slices.overlaps[tackroom/api.Kept]"], unfollowed := true, recurses := true, apart := false, narrowed := true }
def ReplicaAppliesUptoSaid : Prop := replicaAppliesUptoRow.holds Tryz.pinned (OpenSpec.upto replicaAppliesSpec)

/-- 'tackroomlaw.ClusterRuns', WHERE WHAT IT READS IS OF BULK AT MOST 1048576: true; the input reads as it did. -/
def clusterRunsUptoRow : OpenClaim := { program := "ytbjakddkfgjkaaagreat", sum := "363bda574a1a42f2e21703287a1099b0d5d830d5e02656e0a216ba5db9a32816", func := "tackroom/tackroomlaw.ClusterRuns", spec := "clusterRuns", inPlace := ["slices.overlaps[tackroom/api.Session]", "internal/bytealg.abigen_runtime_cmpstring", "slices.overlaps[tackroom/api.Lock]", "slices.overlaps[tackroom/api.Pair]", "slices.overlaps[tackroom/api.Kept]"], unfollowed := true, recurses := true, apart := false, narrowed := true }
def ClusterRunsUptoSaid : Prop := clusterRunsUptoRow.holds Tryz.pinned (OpenSpec.upto clusterRunsSpec)

end Rows
end Go.Proofs.YtbjakddkfgjkaaaGreat
