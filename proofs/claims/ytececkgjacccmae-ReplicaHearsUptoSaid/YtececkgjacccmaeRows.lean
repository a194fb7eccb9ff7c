/-
  No cell of these rows narrows 'for every input' (looked for: loops, veiled, ifaces, maps, wideKeys, modest, calm, conditions, laid).
  DERIVED. THE GIVEN ROWS OF THIS SEAT. 3 by the template 'for every input the law returns true; each argument reads behind the call as it read before'; 0 by the template 'total and deterministic' (their statements: YtececkgjacccmaeTotals.lean).
  GIVEN WITH THE SEED: the statements are not yours to turn. If you find one false, say at which input.
  Laid BY PROGRAM, IN A SANDBOX (cutbox-rows.mjs): the forced cells as the released guide's own fill.sh prints them over the translation 7bdc691d22876ab3… (all of the seat's roots in one cut). By AI agents, Wed Nov 11 2026. No macro, syntax, notation, axiom, sorry.
-/
import Derived.Test.YtececkgjacccmaeChecked
import GoSem.Claim
import GoSem.ClaimJoined
import GoSem.ClaimMapViews
import Derived.JoinedTies
import Derived.KernelRfl
namespace Go.Proofs.Ytececkgjacccmae
/- THE CELL 'sum', in the pinned program and in every row, IS THE sha256 OF THE DUMP (.gsa) THAT YtececkgjacccmaeProg.lean LOADS. Nothing in Lean hashes anything: it is a label: what it is worth is what the hold of that sum in a sandbox is worth. -/
noncomputable def Try.pinned : Pinned := { name := "ytececkgjacccmae", sum := "7bdc691d22876ab33483b318e264135803bfeefce85aa2f8608c90a8fead869c", checked := Try.checked }
namespace Rows
def none {H : Type} : Left H := { results := [], args := [] }

/-- 'tackroomlaw.ReplicaInstalls': WHATEVER THE INPUT: true; the input reads as it did. -/
def replicaInstallsSpec : ChangeSpec := { name := "replicaInstalls", fn := fun _ => fun
  | [d1, d2] => { results := [.lit (.bool true)], args := [d1, d2] }
  | _ => none }
def replicaInstallsRow : OpenClaim := { program := "ytececkgjacccmae", sum := "7bdc691d22876ab33483b318e264135803bfeefce85aa2f8608c90a8fead869c", func := "tackroom/tackroomlaw.ReplicaInstalls", spec := "replicaInstalls", unfollowed := true, recurses := true, apart := false }
def ReplicaInstallsSaid : Prop := replicaInstallsRow.holds Try.pinned (OpenSpec.ofChange replicaInstallsSpec)

/-- ITS FALSE NEIGHBOUR: 'it returns false'. Refute it at one input. -/
def replicaInstallsWrong : ChangeSpec := { name := "replicaInstalls", fn := fun _ => fun
  | [d1, d2] => { results := [.lit (.bool false)], args := [d1, d2] }
  | _ => none }
def ReplicaInstallsWrongFalsely : Prop := replicaInstallsRow.holds Try.pinned (OpenSpec.ofChange replicaInstallsWrong)

/-- 'tackroomlaw.ReplicaHears': WHATEVER THE INPUT: true; the input reads as it did. -/
def replicaHearsSpec : ChangeSpec := { name := "replicaHears", fn := fun _ => fun
  | [d1, d2, d3] => { results := [.lit (.bool true)], args := [d1, d2, d3] }
  | _ => none }
def replicaHearsRow : OpenClaim := { program := "ytececkgjacccmae", sum := "7bdc691d22876ab33483b318e264135803bfeefce85aa2f8608c90a8fead869c", func := "tackroom/tackroomlaw.ReplicaHears", spec := "replicaHears", unfollowed := true, recurses := true, apart := false }
def ReplicaHearsSaid : Prop := replicaHearsRow.holds Try.pinned (OpenSpec.ofChange replicaHearsSpec)

/-- ITS FALSE NEIGHBOUR: 'it returns false'. Refute it at one input. -/
def replicaHearsWrong : ChangeSpec := { name := "replicaHears", fn := fun _ => fun
  | [d1, d2, d3] => { results := [.lit (.bool false)], args := [d1, d2, d3] }
  | _ => none }
def ReplicaHearsWrongFalsely : Prop := replicaHearsRow.holds Try.pinned (OpenSpec.ofChange replicaHearsWrong)

/-- 'tackroomlaw.ReplicaCompacts': WHATEVER THE INPUT: true; the input reads as it did. -/
def replicaCompactsSpec : ChangeSpec := { name := "replicaCompacts", fn := fun _ => fun
  | [d] => { results := [.lit (.bool true)], args := [d] }
  | _ => none }
def replicaCompactsRow : OpenClaim := { program := "ytececkgjacccmae", sum := "7bdc691d22876ab33483b318e264135803bfeefce85aa2f8608c90a8fead869c", func := "tackroom/tackroomlaw.ReplicaCompacts", spec := "replicaCompacts", unfollowed := true, recurses := true, apart := false }
def ReplicaCompactsSaid : Prop := replicaCompactsRow.holds Try.pinned (OpenSpec.ofChange replicaCompactsSpec)

/-- ITS FALSE NEIGHBOUR: 'it returns false'. Refute it at one input. -/
def replicaCompactsWrong : ChangeSpec := { name := "replicaCompacts", fn := fun _ => fun
  | [d] => { results := [.lit (.bool false)], args := [d] }
  | _ => none }
def ReplicaCompactsWrongFalsely : Prop := replicaCompactsRow.holds Try.pinned (OpenSpec.ofChange replicaCompactsWrong)

/- THE SECOND FORM. 'bulk': how many values and letters a reading holds, each counted each time it is reached (what is shared counts as often as it is met; a slice's spare places count too). A statement '..UptoSaid' is the law's where the arguments, and the package variables that the reading takes, are together of bulk at most 1048576: NARROWER than '..Said'. Prove '..Said' where nothing that the law and all that it calls make is longer than what came in: it says more and counts as full. Else prove '..UptoSaid'. A law counts once. -/
mutual
def uptoBulk {H : Type} : DataW H → Nat
  | .lit (.string bytes) => bytes.length + 1
  | .lit _ => 1
  | .nil => 1
  | .ptr d => uptoBulk d + 1
  | .slice elems spare => uptoBulkAll elems + uptoBulkAll spare + 1
  | .agg parts => uptoBulkAll parts + 1
  | .iface _ d => uptoBulk d + 1
  | .map entries => uptoBulkEntries entries + 1
  | .held _ => 1
def uptoBulkAll {H : Type} : List (DataW H) → Nat
  | [] => 0
  | d :: r => uptoBulk d + uptoBulkAll r
def uptoBulkEntries {H : Type} : List (Lit × DataW H) → Nat
  | [] => 0
  | x :: r => uptoBulkEntry x + uptoBulkEntries r
def uptoBulkEntry {H : Type} : Lit × DataW H → Nat
  | (.string bytes, d) => bytes.length + uptoBulk d + 1
  | (_, d) => uptoBulk d + 1
 end
def uptoSmall : (H : Type) → List (DataW H) → Bool := fun _ ds => decide (uptoBulkAll ds ≤ 1048576)
def OpenSpec.upto (s : _root_.Go.ChangeSpec) : _root_.Go.OpenSpec := { _root_.Go.OpenSpec.ofChange s with cond := some uptoSmall }

/-- 'tackroomlaw.ReplicaInstalls', WHERE WHAT IT READS IS OF BULK AT MOST 1048576: true; the input reads as it did. -/
def replicaInstallsUptoRow : OpenClaim := { program := "ytececkgjacccmae", sum := "7bdc691d22876ab33483b318e264135803bfeefce85aa2f8608c90a8fead869c", func := "tackroom/tackroomlaw.ReplicaInstalls", spec := "replicaInstalls", unfollowed := true, recurses := true, apart := false, narrowed := true }
def ReplicaInstallsUptoSaid : Prop := replicaInstallsUptoRow.holds Try.pinned (OpenSpec.upto replicaInstallsSpec)

/-- 'tackroomlaw.ReplicaHears', WHERE WHAT IT READS IS OF BULK AT MOST 1048576: true; the input reads as it did. -/
def replicaHearsUptoRow : OpenClaim := { program := "ytececkgjacccmae", sum := "7bdc691d22876ab33483b318e264135803bfeefce85aa2f8608c90a8fead869c", func := "tackroom/tackroomlaw.ReplicaHears", spec := "replicaHears", unfollowed := true, recurses := true, apart := false, narrowed := true }
def ReplicaHearsUptoSaid : Prop := replicaHearsUptoRow.holds Try.pinned (OpenSpec.upto replicaHearsSpec)

/-- 'tackroomlaw.ReplicaCompacts', WHERE WHAT IT READS IS OF BULK AT MOST 1048576: true; the input reads as it did. -/
def replicaCompactsUptoRow : OpenClaim := { program := "ytececkgjacccmae", sum := "7bdc691d22876ab33483b318e264135803bfeefce85aa2f8608c90a8fead869c", func := "tackroom/tackroomlaw.ReplicaCompacts", spec := "replicaCompacts", unfollowed := true, recurses := true, apart := false, narrowed := true }
def ReplicaCompactsUptoSaid : Prop := replicaCompactsUptoRow.holds Try.pinned (OpenSpec.upto replicaCompactsSpec)

end Rows
end Go.Proofs.Ytececkgjacccmae
