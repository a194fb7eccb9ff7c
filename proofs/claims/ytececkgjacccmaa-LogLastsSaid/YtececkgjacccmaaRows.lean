/-
  No cell of these rows narrows 'for every input' (looked for: loops, veiled, ifaces, maps, wideKeys, modest, calm, conditions, laid).
  DERIVED. THE GIVEN ROWS OF THIS SEAT. 12 by the template 'for every input the law returns true; each argument reads behind the call as it read before'; 0 by the template 'total and deterministic' (their statements: YtececkgjacccmaaTotals.lean).
  GIVEN WITH THE SEED: the statements are not yours to turn. If you find one false, say at which input.
  Laid BY PROGRAM, IN A SANDBOX (cutbox-rows.mjs): the forced cells as the released guide's own fill.sh prints them over the translation 7cdbd65139631572… (all of the seat's roots in one cut). By AI agents, Wed Nov 11 2026. No macro, syntax, notation, axiom, sorry.
-/
import Derived.Test.YtececkgjacccmaaChecked
import GoSem.Claim
import GoSem.ClaimJoined
import GoSem.ClaimMapViews
import Derived.JoinedTies
import Derived.KernelRfl
namespace Go.Proofs.Ytececkgjacccmaa
/- THE CELL 'sum', in the pinned program and in every row, IS THE sha256 OF THE DUMP (.gsa) THAT YtececkgjacccmaaProg.lean LOADS. Nothing in Lean hashes anything: it is a label: what it is worth is what the hold of that sum in a sandbox is worth. -/
noncomputable def Try.pinned : Pinned := { name := "ytececkgjacccmaa", sum := "7cdbd65139631572230d044d956b6dde98e287da48fd8281a758bc2e1bea2153", checked := Try.checked }
namespace Rows
def none {H : Type} : Left H := { results := [], args := [] }

/-- 'tackroomlaw.Names': WHATEVER THE INPUT: true; the input reads as it did. -/
def namesSpec : ChangeSpec := { name := "names", fn := fun _ => fun
  | [] => { results := [.lit (.bool true)], args := [] }
  | _ => none }
def namesRow : OpenClaim := { program := "ytececkgjacccmaa", sum := "7cdbd65139631572230d044d956b6dde98e287da48fd8281a758bc2e1bea2153", func := "tackroom/tackroomlaw.Names", spec := "names", apart := false }
def NamesSaid : Prop := namesRow.holds Try.pinned (OpenSpec.ofChange namesSpec)

/-- ITS FALSE NEIGHBOUR: 'it returns false'. Refute it at one input. -/
def namesWrong : ChangeSpec := { name := "names", fn := fun _ => fun
  | [] => { results := [.lit (.bool false)], args := [] }
  | _ => none }
def NamesWrongFalsely : Prop := namesRow.holds Try.pinned (OpenSpec.ofChange namesWrong)

/-- 'tackroomlaw.LogLasts': WHATEVER THE INPUT: true; the input reads as it did. -/
def logLastsSpec : ChangeSpec := { name := "logLasts", fn := fun _ => fun
  | [d] => { results := [.lit (.bool true)], args := [d] }
  | _ => none }
def logLastsRow : OpenClaim := { program := "ytececkgjacccmaa", sum := "7cdbd65139631572230d044d956b6dde98e287da48fd8281a758bc2e1bea2153", func := "tackroom/tackroomlaw.LogLasts", spec := "logLasts", apart := false }
def LogLastsSaid : Prop := logLastsRow.holds Try.pinned (OpenSpec.ofChange logLastsSpec)

/-- ITS FALSE NEIGHBOUR: 'it returns false'. Refute it at one input. -/
def logLastsWrong : ChangeSpec := { name := "logLasts", fn := fun _ => fun
  | [d] => { results := [.lit (.bool false)], args := [d] }
  | _ => none }
def LogLastsWrongFalsely : Prop := logLastsRow.holds Try.pinned (OpenSpec.ofChange logLastsWrong)

/-- 'tackroomlaw.CustomerNews': WHATEVER THE INPUT: true; the input reads as it did. -/
def customerNewsSpec : ChangeSpec := { name := "customerNews", fn := fun _ => fun
  | [d] => { results := [.lit (.bool true)], args := [d] }
  | _ => none }
def customerNewsRow : OpenClaim := { program := "ytececkgjacccmaa", sum := "7cdbd65139631572230d044d956b6dde98e287da48fd8281a758bc2e1bea2153", func := "tackroom/tackroomlaw.CustomerNews", spec := "customerNews", apart := false }
def CustomerNewsSaid : Prop := customerNewsRow.holds Try.pinned (OpenSpec.ofChange customerNewsSpec)

/-- ITS FALSE NEIGHBOUR: 'it returns false'. Refute it at one input. -/
def customerNewsWrong : ChangeSpec := { name := "customerNews", fn := fun _ => fun
  | [d] => { results := [.lit (.bool false)], args := [d] }
  | _ => none }
def CustomerNewsWrongFalsely : Prop := customerNewsRow.holds Try.pinned (OpenSpec.ofChange customerNewsWrong)

/-- 'tackroomlaw.CodecSeals': WHATEVER THE INPUT: true; the input reads as it did. -/
def codecSealsSpec : ChangeSpec := { name := "codecSeals", fn := fun _ => fun
  | [d] => { results := [.lit (.bool true)], args := [d] }
  | _ => none }
def codecSealsRow : OpenClaim := { program := "ytececkgjacccmaa", sum := "7cdbd65139631572230d044d956b6dde98e287da48fd8281a758bc2e1bea2153", func := "tackroom/tackroomlaw.CodecSeals", spec := "codecSeals", apart := false }
def CodecSealsSaid : Prop := codecSealsRow.holds Try.pinned (OpenSpec.ofChange codecSealsSpec)

/-- ITS FALSE NEIGHBOUR: 'it returns false'. Refute it at one input. -/
def codecSealsWrong : ChangeSpec := { name := "codecSeals", fn := fun _ => fun
  | [d] => { results := [.lit (.bool false)], args := [d] }
  | _ => none }
def CodecSealsWrongFalsely : Prop := codecSealsRow.holds Try.pinned (OpenSpec.ofChange codecSealsWrong)

/-- 'tackroomlaw.LogCopies': WHATEVER THE INPUT: true; the input reads as it did. -/
def logCopiesSpec : ChangeSpec := { name := "logCopies", fn := fun _ => fun
  | [d] => { results := [.lit (.bool true)], args := [d] }
  | _ => none }
def logCopiesRow : OpenClaim := { program := "ytececkgjacccmaa", sum := "7cdbd65139631572230d044d956b6dde98e287da48fd8281a758bc2e1bea2153", func := "tackroom/tackroomlaw.LogCopies", spec := "logCopies", apart := false }
def LogCopiesSaid : Prop := logCopiesRow.holds Try.pinned (OpenSpec.ofChange logCopiesSpec)

/-- ITS FALSE NEIGHBOUR: 'it returns false'. Refute it at one input. -/
def logCopiesWrong : ChangeSpec := { name := "logCopies", fn := fun _ => fun
  | [d] => { results := [.lit (.bool false)], args := [d] }
  | _ => none }
def LogCopiesWrongFalsely : Prop := logCopiesRow.holds Try.pinned (OpenSpec.ofChange logCopiesWrong)

/-- 'tackroomlaw.CodecNumbers': WHATEVER THE INPUT: true; the input reads as it did. -/
def codecNumbersSpec : ChangeSpec := { name := "codecNumbers", fn := fun _ => fun
  | [d] => { results := [.lit (.bool true)], args := [d] }
  | _ => none }
def codecNumbersRow : OpenClaim := { program := "ytececkgjacccmaa", sum := "7cdbd65139631572230d044d956b6dde98e287da48fd8281a758bc2e1bea2153", func := "tackroom/tackroomlaw.CodecNumbers", spec := "codecNumbers", apart := false }
def CodecNumbersSaid : Prop := codecNumbersRow.holds Try.pinned (OpenSpec.ofChange codecNumbersSpec)

/-- ITS FALSE NEIGHBOUR: 'it returns false'. Refute it at one input. -/
def codecNumbersWrong : ChangeSpec := { name := "codecNumbers", fn := fun _ => fun
  | [d] => { results := [.lit (.bool false)], args := [d] }
  | _ => none }
def CodecNumbersWrongFalsely : Prop := codecNumbersRow.holds Try.pinned (OpenSpec.ofChange codecNumbersWrong)

/-- 'tackroomlaw.CustomerCopies': WHATEVER THE INPUT: true; the input reads as it did. -/
def customerCopiesSpec : ChangeSpec := { name := "customerCopies", fn := fun _ => fun
  | [d] => { results := [.lit (.bool true)], args := [d] }
  | _ => none }
def customerCopiesRow : OpenClaim := { program := "ytececkgjacccmaa", sum := "7cdbd65139631572230d044d956b6dde98e287da48fd8281a758bc2e1bea2153", func := "tackroom/tackroomlaw.CustomerCopies", spec := "customerCopies", apart := false }
def CustomerCopiesSaid : Prop := customerCopiesRow.holds Try.pinned (OpenSpec.ofChange customerCopiesSpec)

/-- ITS FALSE NEIGHBOUR: 'it returns false'. Refute it at one input. -/
def customerCopiesWrong : ChangeSpec := { name := "customerCopies", fn := fun _ => fun
  | [d] => { results := [.lit (.bool false)], args := [d] }
  | _ => none }
def CustomerCopiesWrongFalsely : Prop := customerCopiesRow.holds Try.pinned (OpenSpec.ofChange customerCopiesWrong)

/-- 'tackroomlaw.LockNames': WHATEVER THE INPUT: true; the input reads as it did. -/
def lockNamesSpec : ChangeSpec := { name := "lockNames", fn := fun _ => fun
  | [d] => { results := [.lit (.bool true)], args := [d] }
  | _ => none }
def lockNamesRow : OpenClaim := { program := "ytececkgjacccmaa", sum := "7cdbd65139631572230d044d956b6dde98e287da48fd8281a758bc2e1bea2153", func := "tackroom/tackroomlaw.LockNames", spec := "lockNames", unfollowed := true, recurses := true, apart := false }
def LockNamesSaid : Prop := lockNamesRow.holds Try.pinned (OpenSpec.ofChange lockNamesSpec)

/-- ITS FALSE NEIGHBOUR: 'it returns false'. Refute it at one input. -/
def lockNamesWrong : ChangeSpec := { name := "lockNames", fn := fun _ => fun
  | [d] => { results := [.lit (.bool false)], args := [d] }
  | _ => none }
def LockNamesWrongFalsely : Prop := lockNamesRow.holds Try.pinned (OpenSpec.ofChange lockNamesWrong)

/-- 'tackroomlaw.CodecReads': WHATEVER THE INPUT: true; the input reads as it did. -/
def codecReadsSpec : ChangeSpec := { name := "codecReads", fn := fun _ => fun
  | [d] => { results := [.lit (.bool true)], args := [d] }
  | _ => none }
def codecReadsRow : OpenClaim := { program := "ytececkgjacccmaa", sum := "7cdbd65139631572230d044d956b6dde98e287da48fd8281a758bc2e1bea2153", func := "tackroom/tackroomlaw.CodecReads", spec := "codecReads", apart := false }
def CodecReadsSaid : Prop := codecReadsRow.holds Try.pinned (OpenSpec.ofChange codecReadsSpec)

/-- ITS FALSE NEIGHBOUR: 'it returns false'. Refute it at one input. -/
def codecReadsWrong : ChangeSpec := { name := "codecReads", fn := fun _ => fun
  | [d] => { results := [.lit (.bool false)], args := [d] }
  | _ => none }
def CodecReadsWrongFalsely : Prop := codecReadsRow.holds Try.pinned (OpenSpec.ofChange codecReadsWrong)

/-- 'tackroomlaw.LockCopies': WHATEVER THE INPUT: true; the input reads as it did. -/
def lockCopiesSpec : ChangeSpec := { name := "lockCopies", fn := fun _ => fun
  | [d] => { results := [.lit (.bool true)], args := [d] }
  | _ => none }
def lockCopiesRow : OpenClaim := { program := "ytececkgjacccmaa", sum := "7cdbd65139631572230d044d956b6dde98e287da48fd8281a758bc2e1bea2153", func := "tackroom/tackroomlaw.LockCopies", spec := "lockCopies", apart := false }
def LockCopiesSaid : Prop := lockCopiesRow.holds Try.pinned (OpenSpec.ofChange lockCopiesSpec)

/-- ITS FALSE NEIGHBOUR: 'it returns false'. Refute it at one input. -/
def lockCopiesWrong : ChangeSpec := { name := "lockCopies", fn := fun _ => fun
  | [d] => { results := [.lit (.bool false)], args := [d] }
  | _ => none }
def LockCopiesWrongFalsely : Prop := lockCopiesRow.holds Try.pinned (OpenSpec.ofChange lockCopiesWrong)

/-- 'tackroomlaw.SessionCopies': WHATEVER THE INPUT: true; the input reads as it did. -/
def sessionCopiesSpec : ChangeSpec := { name := "sessionCopies", fn := fun _ => fun
  | [d] => { results := [.lit (.bool true)], args := [d] }
  | _ => none }
def sessionCopiesRow : OpenClaim := { program := "ytececkgjacccmaa", sum := "7cdbd65139631572230d044d956b6dde98e287da48fd8281a758bc2e1bea2153", func := "tackroom/tackroomlaw.SessionCopies", spec := "sessionCopies", apart := false }
def SessionCopiesSaid : Prop := sessionCopiesRow.holds Try.pinned (OpenSpec.ofChange sessionCopiesSpec)

/-- ITS FALSE NEIGHBOUR: 'it returns false'. Refute it at one input. -/
def sessionCopiesWrong : ChangeSpec := { name := "sessionCopies", fn := fun _ => fun
  | [d] => { results := [.lit (.bool false)], args := [d] }
  | _ => none }
def SessionCopiesWrongFalsely : Prop := sessionCopiesRow.holds Try.pinned (OpenSpec.ofChange sessionCopiesWrong)

/-- 'tackroomlaw.CodecTexts': WHATEVER THE INPUT: true; the input reads as it did. -/
def codecTextsSpec : ChangeSpec := { name := "codecTexts", fn := fun _ => fun
  | [d] => { results := [.lit (.bool true)], args := [d] }
  | _ => none }
def codecTextsRow : OpenClaim := { program := "ytececkgjacccmaa", sum := "7cdbd65139631572230d044d956b6dde98e287da48fd8281a758bc2e1bea2153", func := "tackroom/tackroomlaw.CodecTexts", spec := "codecTexts", apart := false }
def CodecTextsSaid : Prop := codecTextsRow.holds Try.pinned (OpenSpec.ofChange codecTextsSpec)

/-- ITS FALSE NEIGHBOUR: 'it returns false'. Refute it at one input. -/
def codecTextsWrong : ChangeSpec := { name := "codecTexts", fn := fun _ => fun
  | [d] => { results := [.lit (.bool false)], args := [d] }
  | _ => none }
def CodecTextsWrongFalsely : Prop := codecTextsRow.holds Try.pinned (OpenSpec.ofChange codecTextsWrong)

/- THE SECOND FORM. 'bulk': how many values and letters a reading holds, each counted each time it is reached (what is shared counts as often as it is met; a slice's spare places count too). A statement '..UptoSaid' is the law's where the arguments, and the package variables that the reading takes, are together of bulk at most 1048576: NARROWER than '..Said'. Prove '..Said' where nothing that the law and all that it calls make is longer than what came in: it says more and counts as full. Else prove '..UptoSaid'. A law counts once. -/
mutual
def uptoBulk {H : Type} : DataW H → Nat
  | .lit (.string bytes) => bytes.length + 1
  | .lit _ => 1
  | .nil => 1
  | .ptr d => uptoBulk d + 1
  | .slice elems spare => uptoBulkAll elems + uptoBulkAll spare + 1
  | .agg parts => uptoBulkAll parts + 1
  | .iface _ d => uptoBulk d + 1
  | .map entries => uptoBulkEntries entries + 1
  | .held _ => 1
def uptoBulkAll {H : Type} : List (DataW H) → Nat
  | [] => 0
  | d :: r => uptoBulk d + uptoBulkAll r
def uptoBulkEntries {H : Type} : List (Lit × DataW H) → Nat
  | [] => 0
  | x :: r => uptoBulkEntry x + uptoBulkEntries r
def uptoBulkEntry {H : Type} : Lit × DataW H → Nat
  | (.string bytes, d) => bytes.length + uptoBulk d + 1
  | (_, d) => uptoBulk d + 1
 end
def uptoSmall : (H : Type) → List (DataW H) → Bool := fun _ ds => decide (uptoBulkAll ds ≤ 1048576)
def OpenSpec.upto (s : _root_.Go.ChangeSpec) : _root_.Go.OpenSpec := { _root_.Go.OpenSpec.ofChange s with cond := some uptoSmall }

/-- 'tackroomlaw.Names', WHERE WHAT IT READS IS OF BULK AT MOST 1048576: true; the input reads as it did. -/
def namesUptoRow : OpenClaim := { program := "ytececkgjacccmaa", sum := "7cdbd65139631572230d044d956b6dde98e287da48fd8281a758bc2e1bea2153", func := "tackroom/tackroomlaw.Names", spec := "names", apart := false, narrowed := true }
def NamesUptoSaid : Prop := namesUptoRow.holds Try.pinned (OpenSpec.upto namesSpec)

/-- 'tackroomlaw.LogLasts', WHERE WHAT IT READS IS OF BULK AT MOST 1048576: true; the input reads as it did. -/
def logLastsUptoRow : OpenClaim := { program := "ytececkgjacccmaa", sum := "7cdbd65139631572230d044d956b6dde98e287da48fd8281a758bc2e1bea2153", func := "tackroom/tackroomlaw.LogLasts", spec := "logLasts", apart := false, narrowed := true }
def LogLastsUptoSaid : Prop := logLastsUptoRow.holds Try.pinned (OpenSpec.upto logLastsSpec)

/-- 'tackroomlaw.CustomerNews', WHERE WHAT IT READS IS OF BULK AT MOST 1048576: true; the input reads as it did. -/
def customerNewsUptoRow : OpenClaim := { program := "ytececkgjacccmaa", sum := "7cdbd65139631572230d044d956b6dde98e287da48fd8281a758bc2e1bea2153", func := "tackroom/tackroomlaw.CustomerNews", spec := "customerNews", apart := false, narrowed := true }
def CustomerNewsUptoSaid : Prop := customerNewsUptoRow.holds Try.pinned (OpenSpec.upto customerNewsSpec)

/-- 'tackroomlaw.CodecSeals', WHERE WHAT IT READS IS OF BULK AT MOST 1048576: true; the input reads as it did. -/
def codecSealsUptoRow : OpenClaim := { program := "ytececkgjacccmaa", sum := "7cdbd65139631572230d044d956b6dde98e287da48fd8281a758bc2e1bea2153", func := "tackroom/tackroomlaw.CodecSeals", spec := "codecSeals", apart := false, narrowed := true }
def CodecSealsUptoSaid : Prop := codecSealsUptoRow.holds Try.pinned (OpenSpec.upto codecSealsSpec)

/-- 'tackroomlaw.LogCopies', WHERE WHAT IT READS IS OF BULK AT MOST 1048576: true; the input reads as it did. -/
def logCopiesUptoRow : OpenClaim := { program := "ytececkgjacccmaa", sum := "7cdbd65139631572230d044d956b6dde98e287da48fd8281a758bc2e1bea2153", func := "tackroom/tackroomlaw.LogCopies", spec := "logCopies", apart := false, narrowed := true }
def LogCopiesUptoSaid : Prop := logCopiesUptoRow.holds Try.pinned (OpenSpec.upto logCopiesSpec)

/-- 'tackroomlaw.CodecNumbers', WHERE WHAT IT READS IS OF BULK AT MOST 1048576: true; the input reads as it did. -/
def codecNumbersUptoRow : OpenClaim := { program := "ytececkgjacccmaa", sum := "7cdbd65139631572230d044d956b6dde98e287da48fd8281a758bc2e1bea2153", func := "tackroom/tackroomlaw.CodecNumbers", spec := "codecNumbers", apart := false, narrowed := true }
def CodecNumbersUptoSaid : Prop := codecNumbersUptoRow.holds Try.pinned (OpenSpec.upto codecNumbersSpec)

/-- 'tackroomlaw.CustomerCopies', WHERE WHAT IT READS IS OF BULK AT MOST 1048576: true; the input reads as it did. -/
def customerCopiesUptoRow : OpenClaim := { program := "ytececkgjacccmaa", sum := "7cdbd65139631572230d044d956b6dde98e287da48fd8281a758bc2e1bea2153", func := "tackroom/tackroomlaw.CustomerCopies", spec := "customerCopies", apart := false, narrowed := true }
def CustomerCopiesUptoSaid : Prop := customerCopiesUptoRow.holds Try.pinned (OpenSpec.upto customerCopiesSpec)

/-- 'tackroomlaw.LockNames', WHERE WHAT IT READS IS OF BULK AT MOST 1048576: true; the input reads as it did. -/
def lockNamesUptoRow : OpenClaim := { program := "ytececkgjacccmaa", sum := "7cdbd65139631572230d044d956b6dde98e287da48fd8281a758bc2e1bea2153", func := "tackroom/tackroomlaw.LockNames", spec := "lockNames", unfollowed := true, recurses := true, apart := false, narrowed := true }
def LockNamesUptoSaid : Prop := lockNamesUptoRow.holds Try.pinned (OpenSpec.upto lockNamesSpec)

/-- 'tackroomlaw.CodecReads', WHERE WHAT IT READS IS OF BULK AT MOST 1048576: true; the input reads as it did. -/
def codecReadsUptoRow : OpenClaim := { program := "ytececkgjacccmaa", sum := "7cdbd65139631572230d044d956b6dde98e287da48fd8281a758bc2e1bea2153", func := "tackroom/tackroomlaw.CodecReads", spec := "codecReads", apart := false, narrowed := true }
def CodecReadsUptoSaid : Prop := codecReadsUptoRow.holds Try.pinned (OpenSpec.upto codecReadsSpec)

/-- 'tackroomlaw.LockCopies', WHERE WHAT IT READS IS OF BULK AT MOST 1048576: true; the input reads as it did. -/
def lockCopiesUptoRow : OpenClaim := { program := "ytececkgjacccmaa", sum := "7cdbd65139631572230d044d956b6dde98e287da48fd8281a758bc2e1bea2153", func := "tackroom/tackroomlaw.LockCopies", spec := "lockCopies", apart := false, narrowed := true }
def LockCopiesUptoSaid : Prop := lockCopiesUptoRow.holds Try.pinned (OpenSpec.upto lockCopiesSpec)

/-- 'tackroomlaw.SessionCopies', WHERE WHAT IT READS IS OF BULK AT MOST 1048576: true; the input reads as it did. -/
def sessionCopiesUptoRow : OpenClaim := { program := "ytececkgjacccmaa", sum := "7cdbd65139631572230d044d956b6dde98e287da48fd8281a758bc2e1bea2153", func := "tackroom/tackroomlaw.SessionCopies", spec := "sessionCopies", apart := false, narrowed := true }
def SessionCopiesUptoSaid : Prop := sessionCopiesUptoRow.holds Try.pinned (OpenSpec.upto sessionCopiesSpec)

/-- 'tackroomlaw.CodecTexts', WHERE WHAT IT READS IS OF BULK AT MOST 1048576: true; the input reads as it did. -/
def codecTextsUptoRow : OpenClaim := { program := "ytececkgjacccmaa", sum := "7cdbd65139631572230d044d956b6dde98e287da48fd8281a758bc2e1bea2153", func := "tackroom/tackroomlaw.CodecTexts", spec := "codecTexts", apart := false, narrowed := true }
def CodecTextsUptoSaid : Prop := codecTextsUptoRow.holds Try.pinned (OpenSpec.upto codecTextsSpec)

end Rows
end Go.Proofs.Ytececkgjacccmaa
