/-
  No cell of these rows narrows 'for every input' (looked for: loops, veiled, ifaces, maps, wideKeys, modest, calm, conditions, laid).
  DERIVED. THE GIVEN ROWS OF THIS SEAT. 12 by the template 'for every input the law returns true; each argument reads behind the call as it read before'; 0 by the template 'total and deterministic' (their statements: YtakdjdfkdbofoaaTotals.lean).
  GIVEN WITH THE SEED: the statements are not yours to turn. If you find one false, say at which input.
  Laid BY PROGRAM, IN A SANDBOX (cutbox-rows.mjs): the forced cells as the released guide's own fill.sh prints them over the translation 5a48e875d283635b… (all of the seat's roots in one cut). By AI agents, Wed Nov 11 2026. No macro, syntax, notation, axiom, sorry.
-/
import Derived.Test.YtakdjdfkdbofoaaChecked
import GoSem.Claim
import GoSem.ClaimJoined
import GoSem.ClaimMapViews
import Derived.JoinedTies
import Derived.KernelRfl
namespace Go.Proofs.Ytakdjdfkdbofoaa
/- THE CELL 'sum', in the pinned program and in every row, IS THE sha256 OF THE DUMP (.gsa) THAT YtakdjdfkdbofoaaProg.lean LOADS. Nothing in Lean hashes anything: it is a label: what it is worth is what the hold of that sum in a sandbox is worth. -/
noncomputable def Try.pinned : Pinned := { name := "ytakdjdfkdbofoaa", sum := "5a48e875d283635b95504f228280adce0b1783ad358f25c4dfcfc45482760fbc", checked := Try.checked }
namespace Rows
def none {H : Type} : Left H := { results := [], args := [] }

/-- 'tackroomlaw.LogCopies': WHATEVER THE INPUT: true; the input reads as it did. -/
def logCopiesSpec : ChangeSpec := { name := "logCopies", fn := fun _ => fun
  | [d] => { results := [.lit (.bool true)], args := [d] }
  | _ => none }
def logCopiesRow : OpenClaim := { program := "ytakdjdfkdbofoaa", sum := "5a48e875d283635b95504f228280adce0b1783ad358f25c4dfcfc45482760fbc", func := "tackroom/tackroomlaw.LogCopies", spec := "logCopies", apart := false }
def LogCopiesSaid : Prop := logCopiesRow.holds Try.pinned (OpenSpec.ofChange logCopiesSpec)

/-- ITS FALSE NEIGHBOUR: 'it returns false'. Refute it at one input. -/
def logCopiesWrong : ChangeSpec := { name := "logCopies", fn := fun _ => fun
  | [d] => { results := [.lit (.bool false)], args := [d] }
  | _ => none }
def LogCopiesWrongFalsely : Prop := logCopiesRow.holds Try.pinned (OpenSpec.ofChange logCopiesWrong)

/-- 'tackroomlaw.CustomerCopies': WHATEVER THE INPUT: true; the input reads as it did. -/
def customerCopiesSpec : ChangeSpec := { name := "customerCopies", fn := fun _ => fun
  | [d] => { results := [.lit (.bool true)], args := [d] }
  | _ => none }
def customerCopiesRow : OpenClaim := { program := "ytakdjdfkdbofoaa", sum := "5a48e875d283635b95504f228280adce0b1783ad358f25c4dfcfc45482760fbc", func := "tackroom/tackroomlaw.CustomerCopies", spec := "customerCopies", apart := false }
def CustomerCopiesSaid : Prop := customerCopiesRow.holds Try.pinned (OpenSpec.ofChange customerCopiesSpec)

/-- ITS FALSE NEIGHBOUR: 'it returns false'. Refute it at one input. -/
def customerCopiesWrong : ChangeSpec := { name := "customerCopies", fn := fun _ => fun
  | [d] => { results := [.lit (.bool false)], args := [d] }
  | _ => none }
def CustomerCopiesWrongFalsely : Prop := customerCopiesRow.holds Try.pinned (OpenSpec.ofChange customerCopiesWrong)

/-- 'tackroomlaw.LockCopies': WHATEVER THE INPUT: true; the input reads as it did. -/
def lockCopiesSpec : ChangeSpec := { name := "lockCopies", fn := fun _ => fun
  | [d] => { results := [.lit (.bool true)], args := [d] }
  | _ => none }
def lockCopiesRow : OpenClaim := { program := "ytakdjdfkdbofoaa", sum := "5a48e875d283635b95504f228280adce0b1783ad358f25c4dfcfc45482760fbc", func := "tackroom/tackroomlaw.LockCopies", spec := "lockCopies", apart := false }
def LockCopiesSaid : Prop := lockCopiesRow.holds Try.pinned (OpenSpec.ofChange lockCopiesSpec)

/-- ITS FALSE NEIGHBOUR: 'it returns false'. Refute it at one input. -/
def lockCopiesWrong : ChangeSpec := { name := "lockCopies", fn := fun _ => fun
  | [d] => { results := [.lit (.bool false)], args := [d] }
  | _ => none }
def LockCopiesWrongFalsely : Prop := lockCopiesRow.holds Try.pinned (OpenSpec.ofChange lockCopiesWrong)

/-- 'tackroomlaw.SessionCopies': WHATEVER THE INPUT: true; the input reads as it did. -/
def sessionCopiesSpec : ChangeSpec := { name := "sessionCopies", fn := fun _ => fun
  | [d] => { results := [.lit (.bool true)], args := [d] }
  | _ => none }
def sessionCopiesRow : OpenClaim := { program := "ytakdjdfkdbofoaa", sum := "5a48e875d283635b95504f228280adce0b1783ad358f25c4dfcfc45482760fbc", func := "tackroom/tackroomlaw.SessionCopies", spec := "sessionCopies", apart := false }
def SessionCopiesSaid : Prop := sessionCopiesRow.holds Try.pinned (OpenSpec.ofChange sessionCopiesSpec)

/-- ITS FALSE NEIGHBOUR: 'it returns false'. Refute it at one input. -/
def sessionCopiesWrong : ChangeSpec := { name := "sessionCopies", fn := fun _ => fun
  | [d] => { results := [.lit (.bool false)], args := [d] }
  | _ => none }
def SessionCopiesWrongFalsely : Prop := sessionCopiesRow.holds Try.pinned (OpenSpec.ofChange sessionCopiesWrong)

/-- 'tackroomlaw.MachineCopies': WHATEVER THE INPUT: true; the input reads as it did. -/
def machineCopiesSpec : ChangeSpec := { name := "machineCopies", fn := fun _ => fun
  | [d] => { results := [.lit (.bool true)], args := [d] }
  | _ => none }
def machineCopiesRow : OpenClaim := { program := "ytakdjdfkdbofoaa", sum := "5a48e875d283635b95504f228280adce0b1783ad358f25c4dfcfc45482760fbc", func := "tackroom/tackroomlaw.MachineCopies", spec := "machineCopies", apart := false }
def MachineCopiesSaid : Prop := machineCopiesRow.holds Try.pinned (OpenSpec.ofChange machineCopiesSpec)

/-- ITS FALSE NEIGHBOUR: 'it returns false'. Refute it at one input. -/
def machineCopiesWrong : ChangeSpec := { name := "machineCopies", fn := fun _ => fun
  | [d] => { results := [.lit (.bool false)], args := [d] }
  | _ => none }
def MachineCopiesWrongFalsely : Prop := machineCopiesRow.holds Try.pinned (OpenSpec.ofChange machineCopiesWrong)

/-- 'tackroomlaw.ReplicaCopies': WHATEVER THE INPUT: true; the input reads as it did. -/
def replicaCopiesSpec : ChangeSpec := { name := "replicaCopies", fn := fun _ => fun
  | [d] => { results := [.lit (.bool true)], args := [d] }
  | _ => none }
def replicaCopiesRow : OpenClaim := { program := "ytakdjdfkdbofoaa", sum := "5a48e875d283635b95504f228280adce0b1783ad358f25c4dfcfc45482760fbc", func := "tackroom/tackroomlaw.ReplicaCopies", spec := "replicaCopies", apart := false }
def ReplicaCopiesSaid : Prop := replicaCopiesRow.holds Try.pinned (OpenSpec.ofChange replicaCopiesSpec)

/-- ITS FALSE NEIGHBOUR: 'it returns false'. Refute it at one input. -/
def replicaCopiesWrong : ChangeSpec := { name := "replicaCopies", fn := fun _ => fun
  | [d] => { results := [.lit (.bool false)], args := [d] }
  | _ => none }
def ReplicaCopiesWrongFalsely : Prop := replicaCopiesRow.holds Try.pinned (OpenSpec.ofChange replicaCopiesWrong)

/-- 'tackroomlaw.SessionFresh': WHATEVER THE INPUT: true; the input reads as it did. -/
def sessionFreshSpec : ChangeSpec := { name := "sessionFresh", fn := fun _ => fun
  | [d1, d2] => { results := [.lit (.bool true)], args := [d1, d2] }
  | _ => none }
def sessionFreshRow : OpenClaim := { program := "ytakdjdfkdbofoaa", sum := "5a48e875d283635b95504f228280adce0b1783ad358f25c4dfcfc45482760fbc", func := "tackroom/tackroomlaw.SessionFresh", spec := "sessionFresh", unfollowed := true, recurses := true, apart := false }
def SessionFreshSaid : Prop := sessionFreshRow.holds Try.pinned (OpenSpec.ofChange sessionFreshSpec)

/-- ITS FALSE NEIGHBOUR: 'it returns false'. Refute it at one input. -/
def sessionFreshWrong : ChangeSpec := { name := "sessionFresh", fn := fun _ => fun
  | [d1, d2] => { results := [.lit (.bool false)], args := [d1, d2] }
  | _ => none }
def SessionFreshWrongFalsely : Prop := sessionFreshRow.holds Try.pinned (OpenSpec.ofChange sessionFreshWrong)

/-- 'tackroomlaw.CustomerStarts': WHATEVER THE INPUT: true; the input reads as it did. -/
def customerStartsSpec : ChangeSpec := { name := "customerStarts", fn := fun _ => fun
  | [d1, d2] => { results := [.lit (.bool true)], args := [d1, d2] }
  | _ => none }
def customerStartsRow : OpenClaim := { program := "ytakdjdfkdbofoaa", sum := "5a48e875d283635b95504f228280adce0b1783ad358f25c4dfcfc45482760fbc", func := "tackroom/tackroomlaw.CustomerStarts", spec := "customerStarts", unfollowed := true, recurses := true, apart := false }
def CustomerStartsSaid : Prop := customerStartsRow.holds Try.pinned (OpenSpec.ofChange customerStartsSpec)

/-- ITS FALSE NEIGHBOUR: 'it returns false'. Refute it at one input. -/
def customerStartsWrong : ChangeSpec := { name := "customerStarts", fn := fun _ => fun
  | [d1, d2] => { results := [.lit (.bool false)], args := [d1, d2] }
  | _ => none }
def CustomerStartsWrongFalsely : Prop := customerStartsRow.holds Try.pinned (OpenSpec.ofChange customerStartsWrong)

/-- 'tackroomlaw.CustomerHears': WHATEVER THE INPUT: true; the input reads as it did. -/
def customerHearsSpec : ChangeSpec := { name := "customerHears", fn := fun _ => fun
  | [d1, d2] => { results := [.lit (.bool true)], args := [d1, d2] }
  | _ => none }
def customerHearsRow : OpenClaim := { program := "ytakdjdfkdbofoaa", sum := "5a48e875d283635b95504f228280adce0b1783ad358f25c4dfcfc45482760fbc", func := "tackroom/tackroomlaw.CustomerHears", spec := "customerHears", unfollowed := true, recurses := true, apart := false }
def CustomerHearsSaid : Prop := customerHearsRow.holds Try.pinned (OpenSpec.ofChange customerHearsSpec)

/-- ITS FALSE NEIGHBOUR: 'it returns false'. Refute it at one input. -/
def customerHearsWrong : ChangeSpec := { name := "customerHears", fn := fun _ => fun
  | [d1, d2] => { results := [.lit (.bool false)], args := [d1, d2] }
  | _ => none }
def CustomerHearsWrongFalsely : Prop := customerHearsRow.holds Try.pinned (OpenSpec.ofChange customerHearsWrong)

/-- 'tackroomlaw.SessionLeaves': WHATEVER THE INPUT: true; the input reads as it did. -/
def sessionLeavesSpec : ChangeSpec := { name := "sessionLeaves", fn := fun _ => fun
  | [d1, d2, d3] => { results := [.lit (.bool true)], args := [d1, d2, d3] }
  | _ => none }
def sessionLeavesRow : OpenClaim := { program := "ytakdjdfkdbofoaa", sum := "5a48e875d283635b95504f228280adce0b1783ad358f25c4dfcfc45482760fbc", func := "tackroom/tackroomlaw.SessionLeaves", spec := "sessionLeaves", unfollowed := true, recurses := true, apart := false }
def SessionLeavesSaid : Prop := sessionLeavesRow.holds Try.pinned (OpenSpec.ofChange sessionLeavesSpec)

/-- ITS FALSE NEIGHBOUR: 'it returns false'. Refute it at one input. -/
def sessionLeavesWrong : ChangeSpec := { name := "sessionLeaves", fn := fun _ => fun
  | [d1, d2, d3] => { results := [.lit (.bool false)], args := [d1, d2, d3] }
  | _ => none }
def SessionLeavesWrongFalsely : Prop := sessionLeavesRow.holds Try.pinned (OpenSpec.ofChange sessionLeavesWrong)

/-- 'tackroomlaw.LockGone': WHATEVER THE INPUT: true; the input reads as it did. -/
def lockGoneSpec : ChangeSpec := { name := "lockGone", fn := fun _ => fun
  | [d1, d2] => { results := [.lit (.bool true)], args := [d1, d2] }
  | _ => none }
def lockGoneRow : OpenClaim := { program := "ytakdjdfkdbofoaa", sum := "5a48e875d283635b95504f228280adce0b1783ad358f25c4dfcfc45482760fbc", func := "tackroom/tackroomlaw.LockGone", spec := "lockGone", unfollowed := true, recurses := true, apart := false }
def LockGoneSaid : Prop := lockGoneRow.holds Try.pinned (OpenSpec.ofChange lockGoneSpec)

/-- ITS FALSE NEIGHBOUR: 'it returns false'. Refute it at one input. -/
def lockGoneWrong : ChangeSpec := { name := "lockGone", fn := fun _ => fun
  | [d1, d2] => { results := [.lit (.bool false)], args := [d1, d2] }
  | _ => none }
def LockGoneWrongFalsely : Prop := lockGoneRow.holds Try.pinned (OpenSpec.ofChange lockGoneWrong)

/-- 'tackroomlaw.SessionReady': WHATEVER THE INPUT: true; the input reads as it did. -/
def sessionReadySpec : ChangeSpec := { name := "sessionReady", fn := fun _ => fun
  | [d1, d2, d3] => { results := [.lit (.bool true)], args := [d1, d2, d3] }
  | _ => none }
def sessionReadyRow : OpenClaim := { program := "ytakdjdfkdbofoaa", sum := "5a48e875d283635b95504f228280adce0b1783ad358f25c4dfcfc45482760fbc", func := "tackroom/tackroomlaw.SessionReady", spec := "sessionReady", unfollowed := true, recurses := true, apart := false }
def SessionReadySaid : Prop := sessionReadyRow.holds Try.pinned (OpenSpec.ofChange sessionReadySpec)

/-- ITS FALSE NEIGHBOUR: 'it returns false'. Refute it at one input. -/
def sessionReadyWrong : ChangeSpec := { name := "sessionReady", fn := fun _ => fun
  | [d1, d2, d3] => { results := [.lit (.bool false)], args := [d1, d2, d3] }
  | _ => none }
def SessionReadyWrongFalsely : Prop := sessionReadyRow.holds Try.pinned (OpenSpec.ofChange sessionReadyWrong)

/- THE SECOND FORM. 'bulk': how many values and letters a reading holds, each counted each time it is reached (what is shared counts as often as it is met; a slice's spare places count too). A statement '..UptoSaid' is the law's where the arguments, and the package variables that the reading takes, are together of bulk at most 1048576: NARROWER than '..Said'. Prove '..Said' where nothing that the law and all that it calls make is longer than what came in: it says more and counts as full. Else prove '..UptoSaid'. A law counts once. -/
mutual
def uptoBulk {H : Type} : DataW H → Nat
  | .lit (.string bytes) => bytes.length + 1
  | .lit _ => 1
  | .nil => 1
  | .ptr d => uptoBulk d + 1
  | .slice elems spare => uptoBulkAll elems + uptoBulkAll spare + 1
  | .agg parts => uptoBulkAll parts + 1
  | .iface _ d => uptoBulk d + 1
  | .map entries => uptoBulkEntries entries + 1
  | .held _ => 1
def uptoBulkAll {H : Type} : List (DataW H) → Nat
  | [] => 0
  | d :: r => uptoBulk d + uptoBulkAll r
def uptoBulkEntries {H : Type} : List (Lit × DataW H) → Nat
  | [] => 0
  | x :: r => uptoBulkEntry x + uptoBulkEntries r
def uptoBulkEntry {H : Type} : Lit × DataW H → Nat
  | (.string bytes, d) => bytes.length + uptoBulk d + 1
  | (_, d) => uptoBulk d + 1
 end
def uptoSmall : (H : Type) → List (DataW H) → Bool := fun _ ds => decide (uptoBulkAll ds ≤ 1048576)
def OpenSpec.upto (s : _root_.Go.ChangeSpec) : _root_.Go.OpenSpec := { _root_.Go.OpenSpec.ofChange s with cond := some uptoSmall }

/-- 'tackroomlaw.LogCopies', WHERE WHAT IT READS IS OF BULK AT MOST 1048576: true; the input reads as it did. -/
def logCopiesUptoRow : OpenClaim := { program := "ytakdjdfkdbofoaa", sum := "5a48e875d283635b95504f228280adce0b1783ad358f25c4dfcfc45482760fbc", func := "tackroom/tackroomlaw.LogCopies", spec := "logCopies", apart := false, narrowed := true }
def LogCopiesUptoSaid : Prop := logCopiesUptoRow.holds Try.pinned (OpenSpec.upto logCopiesSpec)

/-- 'tackroomlaw.CustomerCopies', WHERE WHAT IT READS IS OF BULK AT MOST 1048576: true; the input reads as it did. -/
def customerCopiesUptoRow : OpenClaim := { program := "ytakdjdfkdbofoaa", sum := "5a48e875d283635b95504f228280adce0b1783ad358f25c4dfcfc45482760fbc", func := "tackroom/tackroomlaw.CustomerCopies", spec := "customerCopies", apart := false, narrowed := true }
def CustomerCopiesUptoSaid : Prop := customerCopiesUptoRow.holds Try.pinned (OpenSpec.upto customerCopiesSpec)

/-- 'tackroomlaw.LockCopies', WHERE WHAT IT READS IS OF BULK AT MOST 1048576: true; the input reads as it did. -/
def lockCopiesUptoRow : OpenClaim := { program := "ytakdjdfkdbofoaa", sum := "5a48e875d283635b95504f228280adce0b1783ad358f25c4dfcfc45482760fbc", func := "tackroom/tackroomlaw.LockCopies", spec := "lockCopies", apart := false, narrowed := true }
def LockCopiesUptoSaid : Prop := lockCopiesUptoRow.holds Try.pinned (OpenSpec.upto lockCopiesSpec)

/-- 'tackroomlaw.SessionCopies', WHERE WHAT IT READS IS OF BULK AT MOST 1048576: true; the input reads as it did. -/
def sessionCopiesUptoRow : OpenClaim := { program := "ytakdjdfkdbofoaa", sum := "5a48e875d283635b95504f228280adce0b1783ad358f25c4dfcfc45482760fbc", func := "tackroom/tackroomlaw.SessionCopies", spec := "sessionCopies", apart := false, narrowed := true }
def SessionCopiesUptoSaid : Prop := sessionCopiesUptoRow.holds Try.pinned (OpenSpec.upto sessionCopiesSpec)

/-- 'tackroomlaw.MachineCopies', WHERE WHAT IT READS IS OF BULK AT MOST 1048576: true; the input reads as it did. -/
def machineCopiesUptoRow : OpenClaim := { program := "ytakdjdfkdbofoaa", sum := "5a48e875d283635b95504f228280adce0b1783ad358f25c4dfcfc45482760fbc", func := "tackroom/tackroomlaw.MachineCopies", spec := "machineCopies", apart := false, narrowed := true }
def MachineCopiesUptoSaid : Prop := machineCopiesUptoRow.holds Try.pinned (OpenSpec.upto machineCopiesSpec)

/-- 'tackroomlaw.ReplicaCopies', WHERE WHAT IT READS IS OF BULK AT MOST 1048576: true; the input reads as it did. -/
def replicaCopiesUptoRow : OpenClaim := { program := "ytakdjdfkdbofoaa", sum := "5a48e875d283635b95504f228280adce0b1783ad358f25c4dfcfc45482760fbc", func := "tackroom/tackroomlaw.ReplicaCopies", spec := "replicaCopies", apart := false, narrowed := true }
def ReplicaCopiesUptoSaid : Prop := replicaCopiesUptoRow.holds Try.pinned (OpenSpec.upto replicaCopiesSpec)

/-- 'tackroomlaw.SessionFresh', WHERE WHAT IT READS IS OF BULK AT MOST 1048576: true; the input reads as it did. -/
def sessionFreshUptoRow : OpenClaim := { program := "ytakdjdfkdbofoaa", sum := "5a48e875d283635b95504f228280adce0b1783ad358f25c4dfcfc45482760fbc", func := "tackroom/tackroomlaw.SessionFresh", spec := "sessionFresh", unfollowed := true, recurses := true, apart := false, narrowed := true }
def SessionFreshUptoSaid : Prop := sessionFreshUptoRow.holds Try.pinned (OpenSpec.upto sessionFreshSpec)

/-- 'tackroomlaw.CustomerStarts', WHERE WHAT IT READS IS OF BULK AT MOST 1048576: true; the input reads as it did. -/
def customerStartsUptoRow : OpenClaim := { program := "ytakdjdfkdbofoaa", sum := "5a48e875d283635b95504f228280adce0b1783ad358f25c4dfcfc45482760fbc", func := "tackroom/tackroomlaw.CustomerStarts", spec := "customerStarts", unfollowed := true, recurses := true, apart := false, narrowed := true }
def CustomerStartsUptoSaid : Prop := customerStartsUptoRow.holds Try.pinned (OpenSpec.upto customerStartsSpec)

/-- 'tackroomlaw.CustomerHears', WHERE WHAT IT READS IS OF BULK AT MOST 1048576: true; the input reads as it did. -/
def customerHearsUptoRow : OpenClaim := { program := "ytakdjdfkdbofoaa", sum := "5a48e875d283635b95504f228280adce0b1783ad358f25c4dfcfc45482760fbc", func := "tackroom/tackroomlaw.CustomerHears", spec := "customerHears", unfollowed := true, recurses := true, apart := false, narrowed := true }
def CustomerHearsUptoSaid : Prop := customerHearsUptoRow.holds Try.pinned (OpenSpec.upto customerHearsSpec)

/-- 'tackroomlaw.SessionLeaves', WHERE WHAT IT READS IS OF BULK AT MOST 1048576: true; the input reads as it did. -/
def sessionLeavesUptoRow : OpenClaim := { program := "ytakdjdfkdbofoaa", sum := "5a48e875d283635b95504f228280adce0b1783ad358f25c4dfcfc45482760fbc", func := "tackroom/tackroomlaw.SessionLeaves", spec := "sessionLeaves", unfollowed := true, recurses := true, apart := false, narrowed := true }
def SessionLeavesUptoSaid : Prop := sessionLeavesUptoRow.holds Try.pinned (OpenSpec.upto sessionLeavesSpec)

/-- 'tackroomlaw.LockGone', WHERE WHAT IT READS IS OF BULK AT MOST 1048576: true; the input reads as it did. -/
def lockGoneUptoRow : OpenClaim := { program := "ytakdjdfkdbofoaa", sum := "5a48e875d283635b95504f228280adce0b1783ad358f25c4dfcfc45482760fbc", func := "tackroom/tackroomlaw.LockGone", spec := "lockGone", unfollowed := true, recurses := true, apart := false, narrowed := true }
def LockGoneUptoSaid : Prop := lockGoneUptoRow.holds Try.pinned (OpenSpec.upto lockGoneSpec)

/-- 'tackroomlaw.SessionReady', WHERE WHAT IT READS IS OF BULK AT MOST 1048576: true; the input reads as it did. -/
def sessionReadyUptoRow : OpenClaim := { program := "ytakdjdfkdbofoaa", sum := "5a48e875d283635b95504f228280adce0b1783ad358f25c4dfcfc45482760fbc", func := "tackroom/tackroomlaw.SessionReady", spec := "sessionReady", unfollowed := true, recurses := true, apart := false, narrowed := true }
def SessionReadyUptoSaid : Prop := sessionReadyUptoRow.holds Try.pinned (OpenSpec.upto sessionReadySpec)

end Rows
end Go.Proofs.Ytakdjdfkdbofoaa
