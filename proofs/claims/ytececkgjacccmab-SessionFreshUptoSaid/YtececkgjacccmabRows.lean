/-
  No cell of these rows narrows 'for every input' (looked for: loops, veiled, ifaces, maps, wideKeys, modest, calm, conditions, laid).
  DERIVED. THE GIVEN ROWS OF THIS SEAT. 12 by the template 'for every input the law returns true; each argument reads behind the call as it read before'; 0 by the template 'total and deterministic' (their statements: YtececkgjacccmabTotals.lean).
  GIVEN WITH THE SEED: the statements are not yours to turn. If you find one false, say at which input.
  Laid BY PROGRAM, IN A SANDBOX (cutbox-rows.mjs): the forced cells as the released guide's own fill.sh prints them over the translation 08b42be24f3c3644… (all of the seat's roots in one cut). By AI agents, Wed Nov 11 2026. No macro, syntax, notation, axiom, sorry.
-/
import Derived.Test.YtececkgjacccmabChecked
import GoSem.Claim
import GoSem.ClaimJoined
import GoSem.ClaimMapViews
import Derived.JoinedTies
import Derived.KernelRfl
namespace Go.Proofs.Ytececkgjacccmab
/- THE CELL 'sum', in the pinned program and in every row, IS THE sha256 OF THE DUMP (.gsa) THAT YtececkgjacccmabProg.lean LOADS. Nothing in Lean hashes anything: it is a label: what it is worth is what the hold of that sum in a sandbox is worth. -/
noncomputable def Try.pinned : Pinned := { name := "ytececkgjacccmab", sum := "08b42be24f3c3644d04b4063ad66cb0a1a0eedf2a3d760e6f3df87006e7dd8c8", checked := Try.checked }
namespace Rows
def none {H : Type} : Left H := { results := [], args := [] }

/-- 'tackroomlaw.MachineCopies': WHATEVER THE INPUT: true; the input reads as it did. -/
def machineCopiesSpec : ChangeSpec := { name := "machineCopies", fn := fun _ => fun
  | [d] => { results := [.lit (.bool true)], args := [d] }
  | _ => none }
def machineCopiesRow : OpenClaim := { program := "ytececkgjacccmab", sum := "08b42be24f3c3644d04b4063ad66cb0a1a0eedf2a3d760e6f3df87006e7dd8c8", func := "tackroom/tackroomlaw.MachineCopies", spec := "machineCopies", apart := false }
def MachineCopiesSaid : Prop := machineCopiesRow.holds Try.pinned (OpenSpec.ofChange machineCopiesSpec)

/-- ITS FALSE NEIGHBOUR: 'it returns false'. Refute it at one input. -/
def machineCopiesWrong : ChangeSpec := { name := "machineCopies", fn := fun _ => fun
  | [d] => { results := [.lit (.bool false)], args := [d] }
  | _ => none }
def MachineCopiesWrongFalsely : Prop := machineCopiesRow.holds Try.pinned (OpenSpec.ofChange machineCopiesWrong)

/-- 'tackroomlaw.CommandOps': WHATEVER THE INPUT: true; the input reads as it did. -/
def commandOpsSpec : ChangeSpec := { name := "commandOps", fn := fun _ => fun
  | [d] => { results := [.lit (.bool true)], args := [d] }
  | _ => none }
def commandOpsRow : OpenClaim := { program := "ytececkgjacccmab", sum := "08b42be24f3c3644d04b4063ad66cb0a1a0eedf2a3d760e6f3df87006e7dd8c8", func := "tackroom/tackroomlaw.CommandOps", spec := "commandOps", unfollowed := true, recurses := true, apart := false }
def CommandOpsSaid : Prop := commandOpsRow.holds Try.pinned (OpenSpec.ofChange commandOpsSpec)

/-- ITS FALSE NEIGHBOUR: 'it returns false'. Refute it at one input. -/
def commandOpsWrong : ChangeSpec := { name := "commandOps", fn := fun _ => fun
  | [d] => { results := [.lit (.bool false)], args := [d] }
  | _ => none }
def CommandOpsWrongFalsely : Prop := commandOpsRow.holds Try.pinned (OpenSpec.ofChange commandOpsWrong)

/-- 'tackroomlaw.CodecTells': WHATEVER THE INPUT: true; the input reads as it did. -/
def codecTellsSpec : ChangeSpec := { name := "codecTells", fn := fun _ => fun
  | [d] => { results := [.lit (.bool true)], args := [d] }
  | _ => none }
def codecTellsRow : OpenClaim := { program := "ytececkgjacccmab", sum := "08b42be24f3c3644d04b4063ad66cb0a1a0eedf2a3d760e6f3df87006e7dd8c8", func := "tackroom/tackroomlaw.CodecTells", spec := "codecTells", apart := false }
def CodecTellsSaid : Prop := codecTellsRow.holds Try.pinned (OpenSpec.ofChange codecTellsSpec)

/-- ITS FALSE NEIGHBOUR: 'it returns false'. Refute it at one input. -/
def codecTellsWrong : ChangeSpec := { name := "codecTells", fn := fun _ => fun
  | [d] => { results := [.lit (.bool false)], args := [d] }
  | _ => none }
def CodecTellsWrongFalsely : Prop := codecTellsRow.holds Try.pinned (OpenSpec.ofChange codecTellsWrong)

/-- 'tackroomlaw.SessionChecks': WHATEVER THE INPUT: true; the input reads as it did. -/
def sessionChecksSpec : ChangeSpec := { name := "sessionChecks", fn := fun _ => fun
  | [d1, d2] => { results := [.lit (.bool true)], args := [d1, d2] }
  | _ => none }
def sessionChecksRow : OpenClaim := { program := "ytececkgjacccmab", sum := "08b42be24f3c3644d04b4063ad66cb0a1a0eedf2a3d760e6f3df87006e7dd8c8", func := "tackroom/tackroomlaw.SessionChecks", spec := "sessionChecks", apart := false }
def SessionChecksSaid : Prop := sessionChecksRow.holds Try.pinned (OpenSpec.ofChange sessionChecksSpec)

/-- ITS FALSE NEIGHBOUR: 'it returns false'. Refute it at one input. -/
def sessionChecksWrong : ChangeSpec := { name := "sessionChecks", fn := fun _ => fun
  | [d1, d2] => { results := [.lit (.bool false)], args := [d1, d2] }
  | _ => none }
def SessionChecksWrongFalsely : Prop := sessionChecksRow.holds Try.pinned (OpenSpec.ofChange sessionChecksWrong)

/-- 'tackroomlaw.ReplicaCopies': WHATEVER THE INPUT: true; the input reads as it did. -/
def replicaCopiesSpec : ChangeSpec := { name := "replicaCopies", fn := fun _ => fun
  | [d] => { results := [.lit (.bool true)], args := [d] }
  | _ => none }
def replicaCopiesRow : OpenClaim := { program := "ytececkgjacccmab", sum := "08b42be24f3c3644d04b4063ad66cb0a1a0eedf2a3d760e6f3df87006e7dd8c8", func := "tackroom/tackroomlaw.ReplicaCopies", spec := "replicaCopies", apart := false }
def ReplicaCopiesSaid : Prop := replicaCopiesRow.holds Try.pinned (OpenSpec.ofChange replicaCopiesSpec)

/-- ITS FALSE NEIGHBOUR: 'it returns false'. Refute it at one input. -/
def replicaCopiesWrong : ChangeSpec := { name := "replicaCopies", fn := fun _ => fun
  | [d] => { results := [.lit (.bool false)], args := [d] }
  | _ => none }
def ReplicaCopiesWrongFalsely : Prop := replicaCopiesRow.holds Try.pinned (OpenSpec.ofChange replicaCopiesWrong)

/-- 'tackroomlaw.PairChecks': WHATEVER THE INPUT: true; the input reads as it did. -/
def pairChecksSpec : ChangeSpec := { name := "pairChecks", fn := fun _ => fun
  | [d] => { results := [.lit (.bool true)], args := [d] }
  | _ => none }
def pairChecksRow : OpenClaim := { program := "ytececkgjacccmab", sum := "08b42be24f3c3644d04b4063ad66cb0a1a0eedf2a3d760e6f3df87006e7dd8c8", func := "tackroom/tackroomlaw.PairChecks", spec := "pairChecks", unfollowed := true, recurses := true, apart := false }
def PairChecksSaid : Prop := pairChecksRow.holds Try.pinned (OpenSpec.ofChange pairChecksSpec)

/-- ITS FALSE NEIGHBOUR: 'it returns false'. Refute it at one input. -/
def pairChecksWrong : ChangeSpec := { name := "pairChecks", fn := fun _ => fun
  | [d] => { results := [.lit (.bool false)], args := [d] }
  | _ => none }
def PairChecksWrongFalsely : Prop := pairChecksRow.holds Try.pinned (OpenSpec.ofChange pairChecksWrong)

/-- 'tackroomlaw.CustomerChecks': WHATEVER THE INPUT: true; the input reads as it did. -/
def customerChecksSpec : ChangeSpec := { name := "customerChecks", fn := fun _ => fun
  | [d] => { results := [.lit (.bool true)], args := [d] }
  | _ => none }
def customerChecksRow : OpenClaim := { program := "ytececkgjacccmab", sum := "08b42be24f3c3644d04b4063ad66cb0a1a0eedf2a3d760e6f3df87006e7dd8c8", func := "tackroom/tackroomlaw.CustomerChecks", spec := "customerChecks", unfollowed := true, recurses := true, apart := false }
def CustomerChecksSaid : Prop := customerChecksRow.holds Try.pinned (OpenSpec.ofChange customerChecksSpec)

/-- ITS FALSE NEIGHBOUR: 'it returns false'. Refute it at one input. -/
def customerChecksWrong : ChangeSpec := { name := "customerChecks", fn := fun _ => fun
  | [d] => { results := [.lit (.bool false)], args := [d] }
  | _ => none }
def CustomerChecksWrongFalsely : Prop := customerChecksRow.holds Try.pinned (OpenSpec.ofChange customerChecksWrong)

/-- 'tackroomlaw.CommandChecks': WHATEVER THE INPUT: true; the input reads as it did. -/
def commandChecksSpec : ChangeSpec := { name := "commandChecks", fn := fun _ => fun
  | [d] => { results := [.lit (.bool true)], args := [d] }
  | _ => none }
def commandChecksRow : OpenClaim := { program := "ytececkgjacccmab", sum := "08b42be24f3c3644d04b4063ad66cb0a1a0eedf2a3d760e6f3df87006e7dd8c8", func := "tackroom/tackroomlaw.CommandChecks", spec := "commandChecks", unfollowed := true, recurses := true, apart := false }
def CommandChecksSaid : Prop := commandChecksRow.holds Try.pinned (OpenSpec.ofChange commandChecksSpec)

/-- ITS FALSE NEIGHBOUR: 'it returns false'. Refute it at one input. -/
def commandChecksWrong : ChangeSpec := { name := "commandChecks", fn := fun _ => fun
  | [d] => { results := [.lit (.bool false)], args := [d] }
  | _ => none }
def CommandChecksWrongFalsely : Prop := commandChecksRow.holds Try.pinned (OpenSpec.ofChange commandChecksWrong)

/-- 'tackroomlaw.LockChecks': WHATEVER THE INPUT: true; the input reads as it did. -/
def lockChecksSpec : ChangeSpec := { name := "lockChecks", fn := fun _ => fun
  | [d] => { results := [.lit (.bool true)], args := [d] }
  | _ => none }
def lockChecksRow : OpenClaim := { program := "ytececkgjacccmab", sum := "08b42be24f3c3644d04b4063ad66cb0a1a0eedf2a3d760e6f3df87006e7dd8c8", func := "tackroom/tackroomlaw.LockChecks", spec := "lockChecks", unfollowed := true, recurses := true, apart := false }
def LockChecksSaid : Prop := lockChecksRow.holds Try.pinned (OpenSpec.ofChange lockChecksSpec)

/-- ITS FALSE NEIGHBOUR: 'it returns false'. Refute it at one input. -/
def lockChecksWrong : ChangeSpec := { name := "lockChecks", fn := fun _ => fun
  | [d] => { results := [.lit (.bool false)], args := [d] }
  | _ => none }
def LockChecksWrongFalsely : Prop := lockChecksRow.holds Try.pinned (OpenSpec.ofChange lockChecksWrong)

/-- 'tackroomlaw.PairGets': WHATEVER THE INPUT: true; the input reads as it did. -/
def pairGetsSpec : ChangeSpec := { name := "pairGets", fn := fun _ => fun
  | [d1, d2] => { results := [.lit (.bool true)], args := [d1, d2] }
  | _ => none }
def pairGetsRow : OpenClaim := { program := "ytececkgjacccmab", sum := "08b42be24f3c3644d04b4063ad66cb0a1a0eedf2a3d760e6f3df87006e7dd8c8", func := "tackroom/tackroomlaw.PairGets", spec := "pairGets", inPlace := ["internal/bytealg.abigen_runtime_cmpstring"], unfollowed := true, recurses := true, apart := false }
def PairGetsSaid : Prop := pairGetsRow.holds Try.pinned (OpenSpec.ofChange pairGetsSpec)

/-- ITS FALSE NEIGHBOUR: 'it returns false'. Refute it at one input. -/
def pairGetsWrong : ChangeSpec := { name := "pairGets", fn := fun _ => fun
  | [d1, d2] => { results := [.lit (.bool false)], args := [d1, d2] }
  | _ => none }
def PairGetsWrongFalsely : Prop := pairGetsRow.holds Try.pinned (OpenSpec.ofChange pairGetsWrong)

/-- 'tackroomlaw.SessionFresh': WHATEVER THE INPUT: true; the input reads as it did. -/
def sessionFreshSpec : ChangeSpec := { name := "sessionFresh", fn := fun _ => fun
  | [d1, d2] => { results := [.lit (.bool true)], args := [d1, d2] }
  | _ => none }
def sessionFreshRow : OpenClaim := { program := "ytececkgjacccmab", sum := "08b42be24f3c3644d04b4063ad66cb0a1a0eedf2a3d760e6f3df87006e7dd8c8", func := "tackroom/tackroomlaw.SessionFresh", spec := "sessionFresh", unfollowed := true, recurses := true, apart := false }
def SessionFreshSaid : Prop := sessionFreshRow.holds Try.pinned (OpenSpec.ofChange sessionFreshSpec)

/-- ITS FALSE NEIGHBOUR: 'it returns false'. Refute it at one input. -/
def sessionFreshWrong : ChangeSpec := { name := "sessionFresh", fn := fun _ => fun
  | [d1, d2] => { results := [.lit (.bool false)], args := [d1, d2] }
  | _ => none }
def SessionFreshWrongFalsely : Prop := sessionFreshRow.holds Try.pinned (OpenSpec.ofChange sessionFreshWrong)

/-- 'tackroomlaw.CommandEncodes': WHATEVER THE INPUT: true; the input reads as it did. -/
def commandEncodesSpec : ChangeSpec := { name := "commandEncodes", fn := fun _ => fun
  | [d] => { results := [.lit (.bool true)], args := [d] }
  | _ => none }
def commandEncodesRow : OpenClaim := { program := "ytececkgjacccmab", sum := "08b42be24f3c3644d04b4063ad66cb0a1a0eedf2a3d760e6f3df87006e7dd8c8", func := "tackroom/tackroomlaw.CommandEncodes", spec := "commandEncodes", unfollowed := true, recurses := true, apart := false }
def CommandEncodesSaid : Prop := commandEncodesRow.holds Try.pinned (OpenSpec.ofChange commandEncodesSpec)

/-- ITS FALSE NEIGHBOUR: 'it returns false'. Refute it at one input. -/
def commandEncodesWrong : ChangeSpec := { name := "commandEncodes", fn := fun _ => fun
  | [d] => { results := [.lit (.bool false)], args := [d] }
  | _ => none }
def CommandEncodesWrongFalsely : Prop := commandEncodesRow.holds Try.pinned (OpenSpec.ofChange commandEncodesWrong)

/- THE SECOND FORM. 'bulk': how many values and letters a reading holds, each counted each time it is reached (what is shared counts as often as it is met; a slice's spare places count too). A statement '..UptoSaid' is the law's where the arguments, and the package variables that the reading takes, are together of bulk at most 1048576: NARROWER than '..Said'. Prove '..Said' where nothing that the law and all that it calls make is longer than what came in: it says more and counts as full. Else prove '..UptoSaid'. A law counts once. -/
mutual
def uptoBulk {H : Type} : DataW H → Nat
  | .lit (.string bytes) => bytes.length + 1
  | .lit _ => 1
  | .nil => 1
  | .ptr d => uptoBulk d + 1
  | .slice elems spare => uptoBulkAll elems + uptoBulkAll spare + 1
  | .agg parts => uptoBulkAll parts + 1
  | .iface _ d => uptoBulk d + 1
  | .map entries => uptoBulkEntries entries + 1
  | .held _ => 1
def uptoBulkAll {H : Type} : List (DataW H) → Nat
  | [] => 0
  | d :: r => uptoBulk d + uptoBulkAll r
def uptoBulkEntries {H : Type} : List (Lit × DataW H) → Nat
  | [] => 0
  | x :: r => uptoBulkEntry x + uptoBulkEntries r
def uptoBulkEntry {H : Type} : Lit × DataW H → Nat
  | (.string bytes, d) => bytes.length + uptoBulk d + 1
  | (_, d) => uptoBulk d + 1
 end
def uptoSmall : (H : Type) → List (DataW H) → Bool := fun _ ds => decide (uptoBulkAll ds ≤ 1048576)
def OpenSpec.upto (s : _root_.Go.ChangeSpec) : _root_.Go.OpenSpec := { _root_.Go.OpenSpec.ofChange s with cond := some uptoSmall }

/-- 'tackroomlaw.MachineCopies', WHERE WHAT IT READS IS OF BULK AT MOST 1048576: true; the input reads as it did. -/
def machineCopiesUptoRow : OpenClaim := { program := "ytececkgjacccmab", sum := "08b42be24f3c3644d04b4063ad66cb0a1a0eedf2a3d760e6f3df87006e7dd8c8", func := "tackroom/tackroomlaw.MachineCopies", spec := "machineCopies", apart := false, narrowed := true }
def MachineCopiesUptoSaid : Prop := machineCopiesUptoRow.holds Try.pinned (OpenSpec.upto machineCopiesSpec)

/-- 'tackroomlaw.CommandOps', WHERE WHAT IT READS IS OF BULK AT MOST 1048576: true; the input reads as it did. -/
def commandOpsUptoRow : OpenClaim := { program := "ytececkgjacccmab", sum := "08b42be24f3c3644d04b4063ad66cb0a1a0eedf2a3d760e6f3df87006e7dd8c8", func := "tackroom/tackroomlaw.CommandOps", spec := "commandOps", unfollowed := true, recurses := true, apart := false, narrowed := true }
def CommandOpsUptoSaid : Prop := commandOpsUptoRow.holds Try.pinned (OpenSpec.upto commandOpsSpec)

/-- 'tackroomlaw.CodecTells', WHERE WHAT IT READS IS OF BULK AT MOST 1048576: true; the input reads as it did. -/
def codecTellsUptoRow : OpenClaim := { program := "ytececkgjacccmab", sum := "08b42be24f3c3644d04b4063ad66cb0a1a0eedf2a3d760e6f3df87006e7dd8c8", func := "tackroom/tackroomlaw.CodecTells", spec := "codecTells", apart := false, narrowed := true }
def CodecTellsUptoSaid : Prop := codecTellsUptoRow.holds Try.pinned (OpenSpec.upto codecTellsSpec)

/-- 'tackroomlaw.SessionChecks', WHERE WHAT IT READS IS OF BULK AT MOST 1048576: true; the input reads as it did. -/
def sessionChecksUptoRow : OpenClaim := { program := "ytececkgjacccmab", sum := "08b42be24f3c3644d04b4063ad66cb0a1a0eedf2a3d760e6f3df87006e7dd8c8", func := "tackroom/tackroomlaw.SessionChecks", spec := "sessionChecks", apart := false, narrowed := true }
def SessionChecksUptoSaid : Prop := sessionChecksUptoRow.holds Try.pinned (OpenSpec.upto sessionChecksSpec)

/-- 'tackroomlaw.ReplicaCopies', WHERE WHAT IT READS IS OF BULK AT MOST 1048576: true; the input reads as it did. -/
def replicaCopiesUptoRow : OpenClaim := { program := "ytececkgjacccmab", sum := "08b42be24f3c3644d04b4063ad66cb0a1a0eedf2a3d760e6f3df87006e7dd8c8", func := "tackroom/tackroomlaw.ReplicaCopies", spec := "replicaCopies", apart := false, narrowed := true }
def ReplicaCopiesUptoSaid : Prop := replicaCopiesUptoRow.holds Try.pinned (OpenSpec.upto replicaCopiesSpec)

/-- 'tackroomlaw.PairChecks', WHERE WHAT IT READS IS OF BULK AT MOST 1048576: true; the input reads as it did. -/
def pairChecksUptoRow : OpenClaim := { program := "ytececkgjacccmab", sum := "08b42be24f3c3644d04b4063ad66cb0a1a0eedf2a3d760e6f3df87006e7dd8c8", func := "tackroom/tackroomlaw.PairChecks", spec := "pairChecks", unfollowed := true, recurses := true, apart := false, narrowed := true }
def PairChecksUptoSaid : Prop := pairChecksUptoRow.holds Try.pinned (OpenSpec.upto pairChecksSpec)

/-- 'tackroomlaw.CustomerChecks', WHERE WHAT IT READS IS OF BULK AT MOST 1048576: true; the input reads as it did. -/
def customerChecksUptoRow : OpenClaim := { program := "ytececkgjacccmab", sum := "08b42be24f3c3644d04b4063ad66cb0a1a0eedf2a3d760e6f3df87006e7dd8c8", func := "tackroom/tackroomlaw.CustomerChecks", spec := "customerChecks", unfollowed := true, recurses := true, apart := false, narrowed := true }
def CustomerChecksUptoSaid : Prop := customerChecksUptoRow.holds Try.pinned (OpenSpec.upto customerChecksSpec)

/-- 'tackroomlaw.CommandChecks', WHERE WHAT IT READS IS OF BULK AT MOST 1048576: true; the input reads as it did. -/
def commandChecksUptoRow : OpenClaim := { program := "ytececkgjacccmab", sum := "08b42be24f3c3644d04b4063ad66cb0a1a0eedf2a3d760e6f3df87006e7dd8c8", func := "tackroom/tackroomlaw.CommandChecks", spec := "commandChecks", unfollowed := true, recurses := true, apart := false, narrowed := true }
def CommandChecksUptoSaid : Prop := commandChecksUptoRow.holds Try.pinned (OpenSpec.upto commandChecksSpec)

/-- 'tackroomlaw.LockChecks', WHERE WHAT IT READS IS OF BULK AT MOST 1048576: true; the input reads as it did. -/
def lockChecksUptoRow : OpenClaim := { program := "ytececkgjacccmab", sum := "08b42be24f3c3644d04b4063ad66cb0a1a0eedf2a3d760e6f3df87006e7dd8c8", func := "tackroom/tackroomlaw.LockChecks", spec := "lockChecks", unfollowed := true, recurses := true, apart := false, narrowed := true }
def LockChecksUptoSaid : Prop := lockChecksUptoRow.holds Try.pinned (OpenSpec.upto lockChecksSpec)

/-- 'tackroomlaw.PairGets', WHERE WHAT IT READS IS OF BULK AT MOST 1048576: true; the input reads as it did. -/
def pairGetsUptoRow : OpenClaim := { program := "ytececkgjacccmab", sum := "08b42be24f3c3644d04b4063ad66cb0a1a0eedf2a3d760e6f3df87006e7dd8c8", func := "tackroom/tackroomlaw.PairGets", spec := "pairGets", inPlace := ["internal/bytealg.abigen_runtime_cmpstring"], unfollowed := true, recurses := true, apart := false, narrowed := true }
def PairGetsUptoSaid : Prop := pairGetsUptoRow.holds Try.pinned (OpenSpec.upto pairGetsSpec)

/-- 'tackroomlaw.SessionFresh', WHERE WHAT IT READS IS OF BULK AT MOST 1048576: true; the input reads as it did. -/
def sessionFreshUptoRow : OpenClaim := { program := "ytececkgjacccmab", sum := "08b42be24f3c3644d04b4063ad66cb0a1a0eedf2a3d760e6f3df87006e7dd8c8", func := "tackroom/tackroomlaw.SessionFresh", spec := "sessionFresh", unfollowed := true, recurses := true, apart := false, narrowed := true }
def SessionFreshUptoSaid : Prop := sessionFreshUptoRow.holds Try.pinned (OpenSpec.upto sessionFreshSpec)

/-- 'tackroomlaw.CommandEncodes', WHERE WHAT IT READS IS OF BULK AT MOST 1048576: true; the input reads as it did. -/
def commandEncodesUptoRow : OpenClaim := { program := "ytececkgjacccmab", sum := "08b42be24f3c3644d04b4063ad66cb0a1a0eedf2a3d760e6f3df87006e7dd8c8", func := "tackroom/tackroomlaw.CommandEncodes", spec := "commandEncodes", unfollowed := true, recurses := true, apart := false, narrowed := true }
def CommandEncodesUptoSaid : Prop := commandEncodesUptoRow.holds Try.pinned (OpenSpec.upto commandEncodesSpec)

end Rows
end Go.Proofs.Ytececkgjacccmab
