/-
  No cell of these rows narrows 'for every input' (looked for: loops, veiled, ifaces, maps, wideKeys, modest, calm, conditions, laid).
  DERIVED. THE GIVEN ROWS OF THIS SEAT. 10 by the template 'for every input the law returns true; each argument reads behind the call as it read before'; 0 by the template 'total and deterministic' (their statements: YtakdjdfkdbofoabTotals.lean).
  GIVEN WITH THE SEED: the statements are not yours to turn. If you find one false, say at which input.
  Laid BY PROGRAM, IN A SANDBOX (cutbox-rows.mjs): the forced cells as the released guide's own fill.sh prints them over the translation 14dad6f277a8997e… (all of the seat's roots in one cut). By AI agents, Wed Nov 11 2026. No macro, syntax, notation, axiom, sorry.
-/
import Derived.Test.YtakdjdfkdbofoabChecked
import GoSem.Claim
import GoSem.ClaimJoined
import GoSem.ClaimMapViews
import Derived.JoinedTies
import Derived.KernelRfl
namespace Go.Proofs.Ytakdjdfkdbofoab
/- THE CELL 'sum', in the pinned program and in every row, IS THE sha256 OF THE DUMP (.gsa) THAT YtakdjdfkdbofoabProg.lean LOADS. Nothing in Lean hashes anything: it is a label: what it is worth is what the hold of that sum in a sandbox is worth. -/
noncomputable def Try.pinned : Pinned := { name := "ytakdjdfkdbofoab", sum := "14dad6f277a8997ed78e241bacdd55f5c7d291abee710865d4e6071683052d56", checked := Try.checked }
namespace Rows
def none {H : Type} : Left H := { results := [], args := [] }

/-- 'tackroomlaw.PairSets': WHATEVER THE INPUT: true; the input reads as it did. -/
def pairSetsSpec : ChangeSpec := { name := "pairSets", fn := fun _ => fun
  | [d1, d2, d3] => { results := [.lit (.bool true)], args := [d1, d2, d3] }
  | _ => none }
def pairSetsRow : OpenClaim := { program := "ytakdjdfkdbofoab", sum := "14dad6f277a8997ed78e241bacdd55f5c7d291abee710865d4e6071683052d56", func := "tackroom/tackroomlaw.PairSets", spec := "pairSets", inPlace := ["internal/bytealg.abigen_runtime_cmpstring", "slices.overlaps[tackroom/api.Pair]"], unfollowed := true, recurses := true, apart := false }
def PairSetsSaid : Prop := pairSetsRow.holds Try.pinned (OpenSpec.ofChange pairSetsSpec)

/-- ITS FALSE NEIGHBOUR: 'it returns false'. Refute it at one input. -/
def pairSetsWrong : ChangeSpec := { name := "pairSets", fn := fun _ => fun
  | [d1, d2, d3] => { results := [.lit (.bool false)], args := [d1, d2, d3] }
  | _ => none }
def PairSetsWrongFalsely : Prop := pairSetsRow.holds Try.pinned (OpenSpec.ofChange pairSetsWrong)

/-- 'tackroomlaw.SessionJoins': WHATEVER THE INPUT: true; the input reads as it did. -/
def sessionJoinsSpec : ChangeSpec := { name := "sessionJoins", fn := fun _ => fun
  | [d1, d2, d3] => { results := [.lit (.bool true)], args := [d1, d2, d3] }
  | _ => none }
def sessionJoinsRow : OpenClaim := { program := "ytakdjdfkdbofoab", sum := "14dad6f277a8997ed78e241bacdd55f5c7d291abee710865d4e6071683052d56", func := "tackroom/tackroomlaw.SessionJoins", spec := "sessionJoins", inPlace := ["slices.overlaps[tackroom/api.Session]"], unfollowed := true, recurses := true, apart := false }
def SessionJoinsSaid : Prop := sessionJoinsRow.holds Try.pinned (OpenSpec.ofChange sessionJoinsSpec)

/-- ITS FALSE NEIGHBOUR: 'it returns false'. Refute it at one input. -/
def sessionJoinsWrong : ChangeSpec := { name := "sessionJoins", fn := fun _ => fun
  | [d1, d2, d3] => { results := [.lit (.bool false)], args := [d1, d2, d3] }
  | _ => none }
def SessionJoinsWrongFalsely : Prop := sessionJoinsRow.holds Try.pinned (OpenSpec.ofChange sessionJoinsWrong)

/-- 'tackroomlaw.SessionKeeps': WHATEVER THE INPUT: true; the input reads as it did. -/
def sessionKeepsSpec : ChangeSpec := { name := "sessionKeeps", fn := fun _ => fun
  | [d1, d2, d3, d4, d5] => { results := [.lit (.bool true)], args := [d1, d2, d3, d4, d5] }
  | _ => none }
def sessionKeepsRow : OpenClaim := { program := "ytakdjdfkdbofoab", sum := "14dad6f277a8997ed78e241bacdd55f5c7d291abee710865d4e6071683052d56", func := "tackroom/tackroomlaw.SessionKeeps", spec := "sessionKeeps", inPlace := ["slices.overlaps[tackroom/api.Kept]"], unfollowed := true, recurses := true, apart := false }
def SessionKeepsSaid : Prop := sessionKeepsRow.holds Try.pinned (OpenSpec.ofChange sessionKeepsSpec)

/-- ITS FALSE NEIGHBOUR: 'it returns false'. Refute it at one input. -/
def sessionKeepsWrong : ChangeSpec := { name := "sessionKeeps", fn := fun _ => fun
  | [d1, d2, d3, d4, d5] => { results := [.lit (.bool false)], args := [d1, d2, d3, d4, d5] }
  | _ => none }
def SessionKeepsWrongFalsely : Prop := sessionKeepsRow.holds Try.pinned (OpenSpec.ofChange sessionKeepsWrong)

/-- 'tackroomlaw.LockTakes': WHATEVER THE INPUT: true; the input reads as it did. -/
def lockTakesSpec : ChangeSpec := { name := "lockTakes", fn := fun _ => fun
  | [d1, d2, d3, d4] => { results := [.lit (.bool true)], args := [d1, d2, d3, d4] }
  | _ => none }
def lockTakesRow : OpenClaim := { program := "ytakdjdfkdbofoab", sum := "14dad6f277a8997ed78e241bacdd55f5c7d291abee710865d4e6071683052d56", func := "tackroom/tackroomlaw.LockTakes", spec := "lockTakes", inPlace := ["internal/bytealg.abigen_runtime_cmpstring", "slices.overlaps[tackroom/api.Lock]"], unfollowed := true, recurses := true, apart := false }
def LockTakesSaid : Prop := lockTakesRow.holds Try.pinned (OpenSpec.ofChange lockTakesSpec)

/-- ITS FALSE NEIGHBOUR: 'it returns false'. Refute it at one input. -/
def lockTakesWrong : ChangeSpec := { name := "lockTakes", fn := fun _ => fun
  | [d1, d2, d3, d4] => { results := [.lit (.bool false)], args := [d1, d2, d3, d4] }
  | _ => none }
def LockTakesWrongFalsely : Prop := lockTakesRow.holds Try.pinned (OpenSpec.ofChange lockTakesWrong)

/-- 'tackroomlaw.LockFrees': WHATEVER THE INPUT: true; the input reads as it did. -/
def lockFreesSpec : ChangeSpec := { name := "lockFrees", fn := fun _ => fun
  | [d1, d2, d3] => { results := [.lit (.bool true)], args := [d1, d2, d3] }
  | _ => none }
def lockFreesRow : OpenClaim := { program := "ytakdjdfkdbofoab", sum := "14dad6f277a8997ed78e241bacdd55f5c7d291abee710865d4e6071683052d56", func := "tackroom/tackroomlaw.LockFrees", spec := "lockFrees", inPlace := ["internal/bytealg.abigen_runtime_cmpstring"], unfollowed := true, recurses := true, apart := false }
def LockFreesSaid : Prop := lockFreesRow.holds Try.pinned (OpenSpec.ofChange lockFreesSpec)

/-- ITS FALSE NEIGHBOUR: 'it returns false'. Refute it at one input. -/
def lockFreesWrong : ChangeSpec := { name := "lockFrees", fn := fun _ => fun
  | [d1, d2, d3] => { results := [.lit (.bool false)], args := [d1, d2, d3] }
  | _ => none }
def LockFreesWrongFalsely : Prop := lockFreesRow.holds Try.pinned (OpenSpec.ofChange lockFreesWrong)

/-- 'tackroomlaw.LogPuts': WHATEVER THE INPUT: true; the input reads as it did. -/
def logPutsSpec : ChangeSpec := { name := "logPuts", fn := fun _ => fun
  | [d1, d2, d3] => { results := [.lit (.bool true)], args := [d1, d2, d3] }
  | _ => none }
def logPutsRow : OpenClaim := { program := "ytakdjdfkdbofoab", sum := "14dad6f277a8997ed78e241bacdd55f5c7d291abee710865d4e6071683052d56", func := "tackroom/tackroomlaw.LogPuts", spec := "logPuts", unfollowed := true, recurses := true, apart := false }
def LogPutsSaid : Prop := logPutsRow.holds Try.pinned (OpenSpec.ofChange logPutsSpec)

/-- ITS FALSE NEIGHBOUR: 'it returns false'. Refute it at one input. -/
def logPutsWrong : ChangeSpec := { name := "logPuts", fn := fun _ => fun
  | [d1, d2, d3] => { results := [.lit (.bool false)], args := [d1, d2, d3] }
  | _ => none }
def LogPutsWrongFalsely : Prop := logPutsRow.holds Try.pinned (OpenSpec.ofChange logPutsWrong)

/-- 'tackroomlaw.ReplicaRestarts': WHATEVER THE INPUT: true; the input reads as it did. -/
def replicaRestartsSpec : ChangeSpec := { name := "replicaRestarts", fn := fun _ => fun
  | [d] => { results := [.lit (.bool true)], args := [d] }
  | _ => none }
def replicaRestartsRow : OpenClaim := { program := "ytakdjdfkdbofoab", sum := "14dad6f277a8997ed78e241bacdd55f5c7d291abee710865d4e6071683052d56", func := "tackroom/tackroomlaw.ReplicaRestarts", spec := "replicaRestarts", unfollowed := true, recurses := true, apart := false }
def ReplicaRestartsSaid : Prop := replicaRestartsRow.holds Try.pinned (OpenSpec.ofChange replicaRestartsSpec)

/-- ITS FALSE NEIGHBOUR: 'it returns false'. Refute it at one input. -/
def replicaRestartsWrong : ChangeSpec := { name := "replicaRestarts", fn := fun _ => fun
  | [d] => { results := [.lit (.bool false)], args := [d] }
  | _ => none }
def ReplicaRestartsWrongFalsely : Prop := replicaRestartsRow.holds Try.pinned (OpenSpec.ofChange replicaRestartsWrong)

/-- 'tackroomlaw.ReplicaInstalls': WHATEVER THE INPUT: true; the input reads as it did. -/
def replicaInstallsSpec : ChangeSpec := { name := "replicaInstalls", fn := fun _ => fun
  | [d1, d2] => { results := [.lit (.bool true)], args := [d1, d2] }
  | _ => none }
def replicaInstallsRow : OpenClaim := { program := "ytakdjdfkdbofoab", sum := "14dad6f277a8997ed78e241bacdd55f5c7d291abee710865d4e6071683052d56", func := "tackroom/tackroomlaw.ReplicaInstalls", spec := "replicaInstalls", unfollowed := true, recurses := true, apart := false }
def ReplicaInstallsSaid : Prop := replicaInstallsRow.holds Try.pinned (OpenSpec.ofChange replicaInstallsSpec)

/-- ITS FALSE NEIGHBOUR: 'it returns false'. Refute it at one input. -/
def replicaInstallsWrong : ChangeSpec := { name := "replicaInstalls", fn := fun _ => fun
  | [d1, d2] => { results := [.lit (.bool false)], args := [d1, d2] }
  | _ => none }
def ReplicaInstallsWrongFalsely : Prop := replicaInstallsRow.holds Try.pinned (OpenSpec.ofChange replicaInstallsWrong)

/-- 'tackroomlaw.ReplicaCompacts': WHATEVER THE INPUT: true; the input reads as it did. -/
def replicaCompactsSpec : ChangeSpec := { name := "replicaCompacts", fn := fun _ => fun
  | [d] => { results := [.lit (.bool true)], args := [d] }
  | _ => none }
def replicaCompactsRow : OpenClaim := { program := "ytakdjdfkdbofoab", sum := "14dad6f277a8997ed78e241bacdd55f5c7d291abee710865d4e6071683052d56", func := "tackroom/tackroomlaw.ReplicaCompacts", spec := "replicaCompacts", unfollowed := true, recurses := true, apart := false }
def ReplicaCompactsSaid : Prop := replicaCompactsRow.holds Try.pinned (OpenSpec.ofChange replicaCompactsSpec)

/-- ITS FALSE NEIGHBOUR: 'it returns false'. Refute it at one input. -/
def replicaCompactsWrong : ChangeSpec := { name := "replicaCompacts", fn := fun _ => fun
  | [d] => { results := [.lit (.bool false)], args := [d] }
  | _ => none }
def ReplicaCompactsWrongFalsely : Prop := replicaCompactsRow.holds Try.pinned (OpenSpec.ofChange replicaCompactsWrong)

/-- 'tackroomlaw.ReplicaHears': WHATEVER THE INPUT: true; the input reads as it did. -/
def replicaHearsSpec : ChangeSpec := { name := "replicaHears", fn := fun _ => fun
  | [d1, d2, d3] => { results := [.lit (.bool true)], args := [d1, d2, d3] }
  | _ => none }
def replicaHearsRow : OpenClaim := { program := "ytakdjdfkdbofoab", sum := "14dad6f277a8997ed78e241bacdd55f5c7d291abee710865d4e6071683052d56", func := "tackroom/tackroomlaw.ReplicaHears", spec := "replicaHears", unfollowed := true, recurses := true, apart := false }
def ReplicaHearsSaid : Prop := replicaHearsRow.holds Try.pinned (OpenSpec.ofChange replicaHearsSpec)

/-- ITS FALSE NEIGHBOUR: 'it returns false'. Refute it at one input. -/
def replicaHearsWrong : ChangeSpec := { name := "replicaHears", fn := fun _ => fun
  | [d1, d2, d3] => { results := [.lit (.bool false)], args := [d1, d2, d3] }
  | _ => none }
def ReplicaHearsWrongFalsely : Prop := replicaHearsRow.holds Try.pinned (OpenSpec.ofChange replicaHearsWrong)

/- THE SECOND FORM. 'bulk': how many values and letters a reading holds, each counted each time it is reached (what is shared counts as often as it is met; a slice's spare places count too). A statement '..UptoSaid' is the law's where the arguments, and the package variables that the reading takes, are together of bulk at most 1048576: NARROWER than '..Said'. Prove '..Said' where nothing that the law and all that it calls make is longer than what came in: it says more and counts as full. Else prove '..UptoSaid'. A law counts once. -/
mutual
def uptoBulk {H : Type} : DataW H → Nat
  | .lit (.string bytes) => bytes.length + 1
  | .lit _ => 1
  | .nil => 1
  | .ptr d => uptoBulk d + 1
  | .slice elems spare => uptoBulkAll elems + uptoBulkAll spare + 1
  | .agg parts => uptoBulkAll parts + 1
  | .iface _ d => uptoBulk d + 1
  | .map entries => uptoBulkEntries entries + 1
  | .held _ => 1
def uptoBulkAll {H : Type} : List (DataW H) → Nat
  | [] => 0
  | d :: r => uptoBulk d + uptoBulkAll r
def uptoBulkEntries {H : Type} : List (Lit × DataW H) → Nat
  | [] => 0
  | x :: r => uptoBulkEntry x + uptoBulkEntries r
def uptoBulkEntry {H : Type} : Lit × DataW H → Nat
  | (.string bytes, d) => bytes.length + uptoBulk d + 1
  | (_, d) => uptoBulk d + 1
 end
def uptoSmall : (H : Type) → List (DataW H) → Bool := fun _ ds => decide (uptoBulkAll ds ≤ 1048576)
def OpenSpec.upto (s : _root_.Go.ChangeSpec) : _root_.Go.OpenSpec := { _root_.Go.OpenSpec.ofChange s with cond := some uptoSmall }

/-- 'tackroomlaw.PairSets', WHERE WHAT IT READS IS OF BULK AT MOST 1048576: true; the input reads as it did. -/
def pairSetsUptoRow : OpenClaim := { program := "ytakdjdfkdbofoab", sum := "14dad6f277a8997ed78e241bacdd55f5c7d291abee710865d4e6071683052d56", func := "tackroom/tackroomlaw.PairSets", spec := "pairSets", inPlace := ["internal/bytealg.abigen_runtime_cmpstring", "slices.overlaps[tackroom/api.Pair]"], unfollowed := true, recurses := true, apart := false, narrowed := true }
def PairSetsUptoSaid : Prop := pairSetsUptoRow.holds Try.pinned (OpenSpec.upto pairSetsSpec)

/-- 'tackroomlaw.SessionJoins', WHERE WHAT IT READS IS OF BULK AT MOST 1048576: true; the input reads as it did. -/
def sessionJoinsUptoRow : OpenClaim := { program := "ytakdjdfkdbofoab", sum := "14dad6f277a8997ed78e241bacdd55f5c7d291abee710865d4e6071683052d56", func := "tackroom/tackroomlaw.SessionJoins", spec := "sessionJoins", inPlace := ["slices.overlaps[tackroom/api.Session]"], unfollowed := true, recurses := true, apart := false, narrowed := true }
def SessionJoinsUptoSaid : Prop := sessionJoinsUptoRow.holds Try.pinned (OpenSpec.upto sessionJoinsSpec)

/-- 'tackroomlaw.SessionKeeps', WHERE WHAT IT READS IS OF BULK AT MOST 1048576: true; the input reads as it did. -/
def sessionKeepsUptoRow : OpenClaim := { program := "ytakdjdfkdbofoab", sum := "14dad6f277a8997ed78e241bacdd55f5c7d291abee710865d4e6071683052d56", func := "tackroom/tackroomlaw.SessionKeeps", spec := "sessionKeeps", inPlace := ["slices.overlaps[tackroom/api.Kept]"], unfollowed := true, recurses := true, apart := false, narrowed := true }
def SessionKeepsUptoSaid : Prop := sessionKeepsUptoRow.holds Try.pinned (OpenSpec.upto sessionKeepsSpec)

/-- 'tackroomlaw.LockTakes', WHERE WHAT IT READS IS OF BULK AT MOST 1048576: true; the input reads as it did. -/
def lockTakesUptoRow : OpenClaim := { program := "ytakdjdfkdbofoab", sum := "14dad6f277a8997ed78e241bacdd55f5c7d291abee710865d4e6071683052d56", func := "tackroom/tackroomlaw.LockTakes", spec := "lockTakes", inPlace := ["internal/bytealg.abigen_runtime_cmpstring", "slices.overlaps[tackroom/api.Lock]"], unfollowed := true, recurses := true, apart := false, narrowed := true }
def LockTakesUptoSaid : Prop := lockTakesUptoRow.holds Try.pinned (OpenSpec.upto lockTakesSpec)

/-- 'tackroomlaw.LockFrees', WHERE WHAT IT READS IS OF BULK AT MOST 1048576: true; the input reads as it did. -/
def lockFreesUptoRow : OpenClaim := { program := "ytakdjdfkdbofoab", sum := "14dad6f277a8997ed78e241bacdd55f5c7d291abee710865d4e6071683052d56", func := "tackroom/tackroomlaw.LockFrees", spec := "lockFrees", inPlace := ["internal/bytealg.abigen_runtime_cmpstring"], unfollowed := true, recurses := true, apart := false, narrowed := true }
def LockFreesUptoSaid : Prop := lockFreesUptoRow.holds Try.pinned (OpenSpec.upto lockFreesSpec)

/-- 'tackroomlaw.LogPuts', WHERE WHAT IT READS IS OF BULK AT MOST 1048576: true; the input reads as it did. -/
def logPutsUptoRow : OpenClaim := { program := "ytakdjdfkdbofoab", sum := "14dad6f277a8997ed78e241bacdd55f5c7d291abee710865d4e6071683052d56", func := "tackroom/tackroomlaw.LogPuts", spec := "logPuts", unfollowed := true, recurses := true, apart := false, narrowed := true }
def LogPutsUptoSaid : Prop := logPutsUptoRow.holds Try.pinned (OpenSpec.upto logPutsSpec)

/-- 'tackroomlaw.ReplicaRestarts', WHERE WHAT IT READS IS OF BULK AT MOST 1048576: true; the input reads as it did. -/
def replicaRestartsUptoRow : OpenClaim := { program := "ytakdjdfkdbofoab", sum := "14dad6f277a8997ed78e241bacdd55f5c7d291abee710865d4e6071683052d56", func := "tackroom/tackroomlaw.ReplicaRestarts", spec := "replicaRestarts", unfollowed := true, recurses := true, apart := false, narrowed := true }
def ReplicaRestartsUptoSaid : Prop := replicaRestartsUptoRow.holds Try.pinned (OpenSpec.upto replicaRestartsSpec)

/-- 'tackroomlaw.ReplicaInstalls', WHERE WHAT IT READS IS OF BULK AT MOST 1048576: true; the input reads as it did. -/
def replicaInstallsUptoRow : OpenClaim := { program := "ytakdjdfkdbofoab", sum := "14dad6f277a8997ed78e241bacdd55f5c7d291abee710865d4e6071683052d56", func := "tackroom/tackroomlaw.ReplicaInstalls", spec := "replicaInstalls", unfollowed := true, recurses := true, apart := false, narrowed := true }
def ReplicaInstallsUptoSaid : Prop := replicaInstallsUptoRow.holds Try.pinned (OpenSpec.upto replicaInstallsSpec)

/-- 'tackroomlaw.ReplicaCompacts', WHERE WHAT IT READS IS OF BULK AT MOST 1048576: true; the input reads as it did. -/
def replicaCompactsUptoRow : OpenClaim := { program := "ytakdjdfkdbofoab", sum := "14dad6f277a8997ed78e241bacdd55f5c7d291abee710865d4e6071683052d56", func := "tackroom/tackroomlaw.ReplicaCompacts", spec := "replicaCompacts", unfollowed := true, recurses := true, apart := false, narrowed := true }
def ReplicaCompactsUptoSaid : Prop := replicaCompactsUptoRow.holds Try.pinned (OpenSpec.upto replicaCompactsSpec)

/-- 'tackroomlaw.ReplicaHears', WHERE WHAT IT READS IS OF BULK AT MOST 1048576: true; the input reads as it did. -/
def replicaHearsUptoRow : OpenClaim := { program := "ytakdjdfkdbofoab", sum := "14dad6f277a8997ed78e241bacdd55f5c7d291abee710865d4e6071683052d56", func := "tackroom/tackroomlaw.ReplicaHears", spec := "replicaHears", unfollowed := true, recurses := true, apart := false, narrowed := true }
def ReplicaHearsUptoSaid : Prop := replicaHearsUptoRow.holds Try.pinned (OpenSpec.upto replicaHearsSpec)

end Rows
end Go.Proofs.Ytakdjdfkdbofoab
