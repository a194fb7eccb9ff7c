/-
  No cell of these rows narrows 'for every input' (looked for: loops, veiled, ifaces, maps, wideKeys, modest, calm, conditions, laid).
  DERIVED. THE GIVEN ROWS OF THIS SEAT. 12 by the template 'for every input the law returns true; each argument reads behind the call as it read before'; 0 by the template 'total and deterministic' (their statements: YtececkgjacccmacTotals.lean).
  GIVEN WITH THE SEED: the statements are not yours to turn. If you find one false, say at which input.
  Laid BY PROGRAM, IN A SANDBOX (cutbox-rows.mjs): the forced cells as the released guide's own fill.sh prints them over the translation b664edbcd4e9b43c… (all of the seat's roots in one cut). By AI agents, Wed Nov 11 2026. No macro, syntax, notation, axiom, sorry.
-/
import Derived.Test.YtececkgjacccmacChecked
import GoSem.Claim
import GoSem.ClaimJoined
import GoSem.ClaimMapViews
import Derived.JoinedTies
import Derived.KernelRfl
namespace Go.Proofs.Ytececkgjacccmac
/- THE CELL 'sum', in the pinned program and in every row, IS THE sha256 OF THE DUMP (.gsa) THAT YtececkgjacccmacProg.lean LOADS. Nothing in Lean hashes anything: it is a label: what it is worth is what the hold of that sum in a sandbox is worth. -/
noncomputable def Try.pinned : Pinned := { name := "ytececkgjacccmac", sum := "b664edbcd4e9b43c51c555ed3d39d50aa10615ad3f3d1b2faafb5d96c5fcc1f4", checked := Try.checked }
namespace Rows
def none {H : Type} : Left H := { results := [], args := [] }

/-- 'tackroomlaw.CustomerStarts': WHATEVER THE INPUT: true; the input reads as it did. -/
def customerStartsSpec : ChangeSpec := { name := "customerStarts", fn := fun _ => fun
  | [d1, d2] => { results := [.lit (.bool true)], args := [d1, d2] }
  | _ => none }
def customerStartsRow : OpenClaim := { program := "ytececkgjacccmac", sum := "b664edbcd4e9b43c51c555ed3d39d50aa10615ad3f3d1b2faafb5d96c5fcc1f4", func := "tackroom/tackroomlaw.CustomerStarts", spec := "customerStarts", unfollowed := true, recurses := true, apart := false }
def CustomerStartsSaid : Prop := customerStartsRow.holds Try.pinned (OpenSpec.ofChange customerStartsSpec)

/-- ITS FALSE NEIGHBOUR: 'it returns false'. Refute it at one input. -/
def customerStartsWrong : ChangeSpec := { name := "customerStarts", fn := fun _ => fun
  | [d1, d2] => { results := [.lit (.bool false)], args := [d1, d2] }
  | _ => none }
def CustomerStartsWrongFalsely : Prop := customerStartsRow.holds Try.pinned (OpenSpec.ofChange customerStartsWrong)

/-- 'tackroomlaw.LockWho': WHATEVER THE INPUT: true; the input reads as it did. -/
def lockWhoSpec : ChangeSpec := { name := "lockWho", fn := fun _ => fun
  | [d1, d2] => { results := [.lit (.bool true)], args := [d1, d2] }
  | _ => none }
def lockWhoRow : OpenClaim := { program := "ytececkgjacccmac", sum := "b664edbcd4e9b43c51c555ed3d39d50aa10615ad3f3d1b2faafb5d96c5fcc1f4", func := "tackroom/tackroomlaw.LockWho", spec := "lockWho", inPlace := ["internal/bytealg.abigen_runtime_cmpstring"], unfollowed := true, recurses := true, apart := false }
def LockWhoSaid : Prop := lockWhoRow.holds Try.pinned (OpenSpec.ofChange lockWhoSpec)

/-- ITS FALSE NEIGHBOUR: 'it returns false'. Refute it at one input. -/
def lockWhoWrong : ChangeSpec := { name := "lockWho", fn := fun _ => fun
  | [d1, d2] => { results := [.lit (.bool false)], args := [d1, d2] }
  | _ => none }
def LockWhoWrongFalsely : Prop := lockWhoRow.holds Try.pinned (OpenSpec.ofChange lockWhoWrong)

/-- 'tackroomlaw.SessionLeaves': WHATEVER THE INPUT: true; the input reads as it did. -/
def sessionLeavesSpec : ChangeSpec := { name := "sessionLeaves", fn := fun _ => fun
  | [d1, d2, d3] => { results := [.lit (.bool true)], args := [d1, d2, d3] }
  | _ => none }
def sessionLeavesRow : OpenClaim := { program := "ytececkgjacccmac", sum := "b664edbcd4e9b43c51c555ed3d39d50aa10615ad3f3d1b2faafb5d96c5fcc1f4", func := "tackroom/tackroomlaw.SessionLeaves", spec := "sessionLeaves", unfollowed := true, recurses := true, apart := false }
def SessionLeavesSaid : Prop := sessionLeavesRow.holds Try.pinned (OpenSpec.ofChange sessionLeavesSpec)

/-- ITS FALSE NEIGHBOUR: 'it returns false'. Refute it at one input. -/
def sessionLeavesWrong : ChangeSpec := { name := "sessionLeaves", fn := fun _ => fun
  | [d1, d2, d3] => { results := [.lit (.bool false)], args := [d1, d2, d3] }
  | _ => none }
def SessionLeavesWrongFalsely : Prop := sessionLeavesRow.holds Try.pinned (OpenSpec.ofChange sessionLeavesWrong)

/-- 'tackroomlaw.CustomerHears': WHATEVER THE INPUT: true; the input reads as it did. -/
def customerHearsSpec : ChangeSpec := { name := "customerHears", fn := fun _ => fun
  | [d1, d2] => { results := [.lit (.bool true)], args := [d1, d2] }
  | _ => none }
def customerHearsRow : OpenClaim := { program := "ytececkgjacccmac", sum := "b664edbcd4e9b43c51c555ed3d39d50aa10615ad3f3d1b2faafb5d96c5fcc1f4", func := "tackroom/tackroomlaw.CustomerHears", spec := "customerHears", unfollowed := true, recurses := true, apart := false }
def CustomerHearsSaid : Prop := customerHearsRow.holds Try.pinned (OpenSpec.ofChange customerHearsSpec)

/-- ITS FALSE NEIGHBOUR: 'it returns false'. Refute it at one input. -/
def customerHearsWrong : ChangeSpec := { name := "customerHears", fn := fun _ => fun
  | [d1, d2] => { results := [.lit (.bool false)], args := [d1, d2] }
  | _ => none }
def CustomerHearsWrongFalsely : Prop := customerHearsRow.holds Try.pinned (OpenSpec.ofChange customerHearsWrong)

/-- 'tackroomlaw.CustomerHellos': WHATEVER THE INPUT: true; the input reads as it did. -/
def customerHellosSpec : ChangeSpec := { name := "customerHellos", fn := fun _ => fun
  | [d] => { results := [.lit (.bool true)], args := [d] }
  | _ => none }
def customerHellosRow : OpenClaim := { program := "ytececkgjacccmac", sum := "b664edbcd4e9b43c51c555ed3d39d50aa10615ad3f3d1b2faafb5d96c5fcc1f4", func := "tackroom/tackroomlaw.CustomerHellos", spec := "customerHellos", unfollowed := true, recurses := true, apart := false }
def CustomerHellosSaid : Prop := customerHellosRow.holds Try.pinned (OpenSpec.ofChange customerHellosSpec)

/-- ITS FALSE NEIGHBOUR: 'it returns false'. Refute it at one input. -/
def customerHellosWrong : ChangeSpec := { name := "customerHellos", fn := fun _ => fun
  | [d] => { results := [.lit (.bool false)], args := [d] }
  | _ => none }
def CustomerHellosWrongFalsely : Prop := customerHellosRow.holds Try.pinned (OpenSpec.ofChange customerHellosWrong)

/-- 'tackroomlaw.LockGone': WHATEVER THE INPUT: true; the input reads as it did. -/
def lockGoneSpec : ChangeSpec := { name := "lockGone", fn := fun _ => fun
  | [d1, d2] => { results := [.lit (.bool true)], args := [d1, d2] }
  | _ => none }
def lockGoneRow : OpenClaim := { program := "ytececkgjacccmac", sum := "b664edbcd4e9b43c51c555ed3d39d50aa10615ad3f3d1b2faafb5d96c5fcc1f4", func := "tackroom/tackroomlaw.LockGone", spec := "lockGone", unfollowed := true, recurses := true, apart := false }
def LockGoneSaid : Prop := lockGoneRow.holds Try.pinned (OpenSpec.ofChange lockGoneSpec)

/-- ITS FALSE NEIGHBOUR: 'it returns false'. Refute it at one input. -/
def lockGoneWrong : ChangeSpec := { name := "lockGone", fn := fun _ => fun
  | [d1, d2] => { results := [.lit (.bool false)], args := [d1, d2] }
  | _ => none }
def LockGoneWrongFalsely : Prop := lockGoneRow.holds Try.pinned (OpenSpec.ofChange lockGoneWrong)

/-- 'tackroomlaw.MachineChecks': WHATEVER THE INPUT: true; the input reads as it did. -/
def machineChecksSpec : ChangeSpec := { name := "machineChecks", fn := fun _ => fun
  | [d] => { results := [.lit (.bool true)], args := [d] }
  | _ => none }
def machineChecksRow : OpenClaim := { program := "ytececkgjacccmac", sum := "b664edbcd4e9b43c51c555ed3d39d50aa10615ad3f3d1b2faafb5d96c5fcc1f4", func := "tackroom/tackroomlaw.MachineChecks", spec := "machineChecks", unfollowed := true, recurses := true, apart := false }
def MachineChecksSaid : Prop := machineChecksRow.holds Try.pinned (OpenSpec.ofChange machineChecksSpec)

/-- ITS FALSE NEIGHBOUR: 'it returns false'. Refute it at one input. -/
def machineChecksWrong : ChangeSpec := { name := "machineChecks", fn := fun _ => fun
  | [d] => { results := [.lit (.bool false)], args := [d] }
  | _ => none }
def MachineChecksWrongFalsely : Prop := machineChecksRow.holds Try.pinned (OpenSpec.ofChange machineChecksWrong)

/-- 'tackroomlaw.CommandDecodes': WHATEVER THE INPUT: true; the input reads as it did. -/
def commandDecodesSpec : ChangeSpec := { name := "commandDecodes", fn := fun _ => fun
  | [d] => { results := [.lit (.bool true)], args := [d] }
  | _ => none }
def commandDecodesRow : OpenClaim := { program := "ytececkgjacccmac", sum := "b664edbcd4e9b43c51c555ed3d39d50aa10615ad3f3d1b2faafb5d96c5fcc1f4", func := "tackroom/tackroomlaw.CommandDecodes", spec := "commandDecodes", unfollowed := true, recurses := true, apart := false }
def CommandDecodesSaid : Prop := commandDecodesRow.holds Try.pinned (OpenSpec.ofChange commandDecodesSpec)

/-- ITS FALSE NEIGHBOUR: 'it returns false'. Refute it at one input. -/
def commandDecodesWrong : ChangeSpec := { name := "commandDecodes", fn := fun _ => fun
  | [d] => { results := [.lit (.bool false)], args := [d] }
  | _ => none }
def CommandDecodesWrongFalsely : Prop := commandDecodesRow.holds Try.pinned (OpenSpec.ofChange commandDecodesWrong)

/-- 'tackroomlaw.CustomerRequests': WHATEVER THE INPUT: true; the input reads as it did. -/
def customerRequestsSpec : ChangeSpec := { name := "customerRequests", fn := fun _ => fun
  | [d1, d2] => { results := [.lit (.bool true)], args := [d1, d2] }
  | _ => none }
def customerRequestsRow : OpenClaim := { program := "ytececkgjacccmac", sum := "b664edbcd4e9b43c51c555ed3d39d50aa10615ad3f3d1b2faafb5d96c5fcc1f4", func := "tackroom/tackroomlaw.CustomerRequests", spec := "customerRequests", unfollowed := true, recurses := true, apart := false }
def CustomerRequestsSaid : Prop := customerRequestsRow.holds Try.pinned (OpenSpec.ofChange customerRequestsSpec)

/-- ITS FALSE NEIGHBOUR: 'it returns false'. Refute it at one input. -/
def customerRequestsWrong : ChangeSpec := { name := "customerRequests", fn := fun _ => fun
  | [d1, d2] => { results := [.lit (.bool false)], args := [d1, d2] }
  | _ => none }
def CustomerRequestsWrongFalsely : Prop := customerRequestsRow.holds Try.pinned (OpenSpec.ofChange customerRequestsWrong)

/-- 'tackroomlaw.SessionReady': WHATEVER THE INPUT: true; the input reads as it did. -/
def sessionReadySpec : ChangeSpec := { name := "sessionReady", fn := fun _ => fun
  | [d1, d2, d3] => { results := [.lit (.bool true)], args := [d1, d2, d3] }
  | _ => none }
def sessionReadyRow : OpenClaim := { program := "ytececkgjacccmac", sum := "b664edbcd4e9b43c51c555ed3d39d50aa10615ad3f3d1b2faafb5d96c5fcc1f4", func := "tackroom/tackroomlaw.SessionReady", spec := "sessionReady", unfollowed := true, recurses := true, apart := false }
def SessionReadySaid : Prop := sessionReadyRow.holds Try.pinned (OpenSpec.ofChange sessionReadySpec)

/-- ITS FALSE NEIGHBOUR: 'it returns false'. Refute it at one input. -/
def sessionReadyWrong : ChangeSpec := { name := "sessionReady", fn := fun _ => fun
  | [d1, d2, d3] => { results := [.lit (.bool false)], args := [d1, d2, d3] }
  | _ => none }
def SessionReadyWrongFalsely : Prop := sessionReadyRow.holds Try.pinned (OpenSpec.ofChange sessionReadyWrong)

/-- 'tackroomlaw.LogChecks': WHATEVER THE INPUT: true; the input reads as it did. -/
def logChecksSpec : ChangeSpec := { name := "logChecks", fn := fun _ => fun
  | [d] => { results := [.lit (.bool true)], args := [d] }
  | _ => none }
def logChecksRow : OpenClaim := { program := "ytececkgjacccmac", sum := "b664edbcd4e9b43c51c555ed3d39d50aa10615ad3f3d1b2faafb5d96c5fcc1f4", func := "tackroom/tackroomlaw.LogChecks", spec := "logChecks", unfollowed := true, recurses := true, apart := false }
def LogChecksSaid : Prop := logChecksRow.holds Try.pinned (OpenSpec.ofChange logChecksSpec)

/-- ITS FALSE NEIGHBOUR: 'it returns false'. Refute it at one input. -/
def logChecksWrong : ChangeSpec := { name := "logChecks", fn := fun _ => fun
  | [d] => { results := [.lit (.bool false)], args := [d] }
  | _ => none }
def LogChecksWrongFalsely : Prop := logChecksRow.holds Try.pinned (OpenSpec.ofChange logChecksWrong)

/-- 'tackroomlaw.LogAts': WHATEVER THE INPUT: true; the input reads as it did. -/
def logAtsSpec : ChangeSpec := { name := "logAts", fn := fun _ => fun
  | [d1, d2] => { results := [.lit (.bool true)], args := [d1, d2] }
  | _ => none }
def logAtsRow : OpenClaim := { program := "ytececkgjacccmac", sum := "b664edbcd4e9b43c51c555ed3d39d50aa10615ad3f3d1b2faafb5d96c5fcc1f4", func := "tackroom/tackroomlaw.LogAts", spec := "logAts", unfollowed := true, recurses := true, apart := false }
def LogAtsSaid : Prop := logAtsRow.holds Try.pinned (OpenSpec.ofChange logAtsSpec)

/-- ITS FALSE NEIGHBOUR: 'it returns false'. Refute it at one input. -/
def logAtsWrong : ChangeSpec := { name := "logAts", fn := fun _ => fun
  | [d1, d2] => { results := [.lit (.bool false)], args := [d1, d2] }
  | _ => none }
def LogAtsWrongFalsely : Prop := logAtsRow.holds Try.pinned (OpenSpec.ofChange logAtsWrong)

/- THE SECOND FORM. 'bulk': how many values and letters a reading holds, each counted each time it is reached (what is shared counts as often as it is met; a slice's spare places count too). A statement '..UptoSaid' is the law's where the arguments, and the package variables that the reading takes, are together of bulk at most 1048576: NARROWER than '..Said'. Prove '..Said' where nothing that the law and all that it calls make is longer than what came in: it says more and counts as full. Else prove '..UptoSaid'. A law counts once. -/
mutual
def uptoBulk {H : Type} : DataW H → Nat
  | .lit (.string bytes) => bytes.length + 1
  | .lit _ => 1
  | .nil => 1
  | .ptr d => uptoBulk d + 1
  | .slice elems spare => uptoBulkAll elems + uptoBulkAll spare + 1
  | .agg parts => uptoBulkAll parts + 1
  | .iface _ d => uptoBulk d + 1
  | .map entries => uptoBulkEntries entries + 1
  | .held _ => 1
def uptoBulkAll {H : Type} : List (DataW H) → Nat
  | [] => 0
  | d :: r => uptoBulk d + uptoBulkAll r
def uptoBulkEntries {H : Type} : List (Lit × DataW H) → Nat
  | [] => 0
  | x :: r => uptoBulkEntry x + uptoBulkEntries r
def uptoBulkEntry {H : Type} : Lit × DataW H → Nat
  | (.string bytes, d) => bytes.length + uptoBulk d + 1
  | (_, d) => uptoBulk d + 1
 end
def uptoSmall : (H : Type) → List (DataW H) → Bool := fun _ ds => decide (uptoBulkAll ds ≤ 1048576)
def OpenSpec.upto (s : _root_.Go.ChangeSpec) : _root_.Go.OpenSpec := { _root_.Go.OpenSpec.ofChange s with cond := some uptoSmall }

/-- 'tackroomlaw.CustomerStarts', WHERE WHAT IT READS IS OF BULK AT MOST 1048576: true; the input reads as it did. -/
def customerStartsUptoRow : OpenClaim := { program := "ytececkgjacccmac", sum := "b664edbcd4e9b43c51c555ed3d39d50aa10615ad3f3d1b2faafb5d96c5fcc1f4", func := "tackroom/tackroomlaw.CustomerStarts", spec := "customerStarts", unfollowed := true, recurses := true, apart := false, narrowed := true }
def CustomerStartsUptoSaid : Prop := customerStartsUptoRow.holds Try.pinned (OpenSpec.upto customerStartsSpec)

/-- 'tackroomlaw.LockWho', WHERE WHAT IT READS IS OF BULK AT MOST 1048576: true; the input reads as it did. -/
def lockWhoUptoRow : OpenClaim := { program := "ytececkgjacccmac", sum := "b664edbcd4e9b43c51c555ed3d39d50aa10615ad3f3d1b2faafb5d96c5fcc1f4", func := "tackroom/tackroomlaw.LockWho", spec := "lockWho", inPlace := ["internal/bytealg.abigen_runtime_cmpstring"], unfollowed := true, recurses := true, apart := false, narrowed := true }
def LockWhoUptoSaid : Prop := lockWhoUptoRow.holds Try.pinned (OpenSpec.upto lockWhoSpec)

/-- 'tackroomlaw.SessionLeaves', WHERE WHAT IT READS IS OF BULK AT MOST 1048576: true; the input reads as it did. -/
def sessionLeavesUptoRow : OpenClaim := { program := "ytececkgjacccmac", sum := "b664edbcd4e9b43c51c555ed3d39d50aa10615ad3f3d1b2faafb5d96c5fcc1f4", func := "tackroom/tackroomlaw.SessionLeaves", spec := "sessionLeaves", unfollowed := true, recurses := true, apart := false, narrowed := true }
def SessionLeavesUptoSaid : Prop := sessionLeavesUptoRow.holds Try.pinned (OpenSpec.upto sessionLeavesSpec)

/-- 'tackroomlaw.CustomerHears', WHERE WHAT IT READS IS OF BULK AT MOST 1048576: true; the input reads as it did. -/
def customerHearsUptoRow : OpenClaim := { program := "ytececkgjacccmac", sum := "b664edbcd4e9b43c51c555ed3d39d50aa10615ad3f3d1b2faafb5d96c5fcc1f4", func := "tackroom/tackroomlaw.CustomerHears", spec := "customerHears", unfollowed := true, recurses := true, apart := false, narrowed := true }
def CustomerHearsUptoSaid : Prop := customerHearsUptoRow.holds Try.pinned (OpenSpec.upto customerHearsSpec)

/-- 'tackroomlaw.CustomerHellos', WHERE WHAT IT READS IS OF BULK AT MOST 1048576: true; the input reads as it did. -/
def customerHellosUptoRow : OpenClaim := { program := "ytececkgjacccmac", sum := "b664edbcd4e9b43c51c555ed3d39d50aa10615ad3f3d1b2faafb5d96c5fcc1f4", func := "tackroom/tackroomlaw.CustomerHellos", spec := "customerHellos", unfollowed := true, recurses := true, apart := false, narrowed := true }
def CustomerHellosUptoSaid : Prop := customerHellosUptoRow.holds Try.pinned (OpenSpec.upto customerHellosSpec)

/-- 'tackroomlaw.LockGone', WHERE WHAT IT READS IS OF BULK AT MOST 1048576: true; the input reads as it did. -/
def lockGoneUptoRow : OpenClaim := { program := "ytececkgjacccmac", sum := "b664edbcd4e9b43c51c555ed3d39d50aa10615ad3f3d1b2faafb5d96c5fcc1f4", func := "tackroom/tackroomlaw.LockGone", spec := "lockGone", unfollowed := true, recurses := true, apart := false, narrowed := true }
def LockGoneUptoSaid : Prop := lockGoneUptoRow.holds Try.pinned (OpenSpec.upto lockGoneSpec)

/-- 'tackroomlaw.MachineChecks', WHERE WHAT IT READS IS OF BULK AT MOST 1048576: true; the input reads as it did. -/
def machineChecksUptoRow : OpenClaim := { program := "ytececkgjacccmac", sum := "b664edbcd4e9b43c51c555ed3d39d50aa10615ad3f3d1b2faafb5d96c5fcc1f4", func := "tackroom/tackroomlaw.MachineChecks", spec := "machineChecks", unfollowed := true, recurses := true, apart := false, narrowed := true }
def MachineChecksUptoSaid : Prop := machineChecksUptoRow.holds Try.pinned (OpenSpec.upto machineChecksSpec)

/-- 'tackroomlaw.CommandDecodes', WHERE WHAT IT READS IS OF BULK AT MOST 1048576: true; the input reads as it did. -/
def commandDecodesUptoRow : OpenClaim := { program := "ytececkgjacccmac", sum := "b664edbcd4e9b43c51c555ed3d39d50aa10615ad3f3d1b2faafb5d96c5fcc1f4", func := "tackroom/tackroomlaw.CommandDecodes", spec := "commandDecodes", unfollowed := true, recurses := true, apart := false, narrowed := true }
def CommandDecodesUptoSaid : Prop := commandDecodesUptoRow.holds Try.pinned (OpenSpec.upto commandDecodesSpec)

/-- 'tackroomlaw.CustomerRequests', WHERE WHAT IT READS IS OF BULK AT MOST 1048576: true; the input reads as it did. -/
def customerRequestsUptoRow : OpenClaim := { program := "ytececkgjacccmac", sum := "b664edbcd4e9b43c51c555ed3d39d50aa10615ad3f3d1b2faafb5d96c5fcc1f4", func := "tackroom/tackroomlaw.CustomerRequests", spec := "customerRequests", unfollowed := true, recurses := true, apart := false, narrowed := true }
def CustomerRequestsUptoSaid : Prop := customerRequestsUptoRow.holds Try.pinned (OpenSpec.upto customerRequestsSpec)

/-- 'tackroomlaw.SessionReady', WHERE WHAT IT READS IS OF BULK AT MOST 1048576: true; the input reads as it did. -/
def sessionReadyUptoRow : OpenClaim := { program := "ytececkgjacccmac", sum := "b664edbcd4e9b43c51c555ed3d39d50aa10615ad3f3d1b2faafb5d96c5fcc1f4", func := "tackroom/tackroomlaw.SessionReady", spec := "sessionReady", unfollowed := true, recurses := true, apart := false, narrowed := true }
def SessionReadyUptoSaid : Prop := sessionReadyUptoRow.holds Try.pinned (OpenSpec.upto sessionReadySpec)

/-- 'tackroomlaw.LogChecks', WHERE WHAT IT READS IS OF BULK AT MOST 1048576: true; the input reads as it did. -/
def logChecksUptoRow : OpenClaim := { program := "ytececkgjacccmac", sum := "b664edbcd4e9b43c51c555ed3d39d50aa10615ad3f3d1b2faafb5d96c5fcc1f4", func := "tackroom/tackroomlaw.LogChecks", spec := "logChecks", unfollowed := true, recurses := true, apart := false, narrowed := true }
def LogChecksUptoSaid : Prop := logChecksUptoRow.holds Try.pinned (OpenSpec.upto logChecksSpec)

/-- 'tackroomlaw.LogAts', WHERE WHAT IT READS IS OF BULK AT MOST 1048576: true; the input reads as it did. -/
def logAtsUptoRow : OpenClaim := { program := "ytececkgjacccmac", sum := "b664edbcd4e9b43c51c555ed3d39d50aa10615ad3f3d1b2faafb5d96c5fcc1f4", func := "tackroom/tackroomlaw.LogAts", spec := "logAts", unfollowed := true, recurses := true, apart := false, narrowed := true }
def LogAtsUptoSaid : Prop := logAtsUptoRow.holds Try.pinned (OpenSpec.upto logAtsSpec)

end Rows
end Go.Proofs.Ytececkgjacccmac
