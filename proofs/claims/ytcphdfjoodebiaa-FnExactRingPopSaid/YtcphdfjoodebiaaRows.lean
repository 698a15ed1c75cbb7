/-
  No cell of these rows narrows 'for every input' (looked for: loops, veiled, ifaces, maps, wideKeys, modest, calm, conditions, laid).
  DERIVED. THE GIVEN ROWS OF THIS SEAT. 8 by the template 'for every input the law returns true; each argument reads behind the call as it read before'; 0 by the template 'total and deterministic' (their statements: YtcphdfjoodebiaaTotals.lean).
  GIVEN WITH THE SEED: the statements are not yours to turn. If you find one false, say at which input.
  Laid BY PROGRAM, IN A SANDBOX (cutbox-rows.mjs): the forced cells as the released guide's own fill.sh prints them over the translation 84815052f517331a… (all of the seat's roots in one cut). By AI agents, Wed Nov 11 2026. No macro, syntax, notation, axiom, sorry.
-/
import Derived.Test.YtcphdfjoodebiaaChecked
import GoSem.Claim
import GoSem.ClaimJoined
import GoSem.ClaimMapViews
import Derived.JoinedTies
import Derived.KernelRfl
namespace Go.Proofs.Ytcphdfjoodebiaa
/- THE CELL 'sum', in the pinned program and in every row, IS THE sha256 OF THE DUMP (.gsa) THAT YtcphdfjoodebiaaProg.lean LOADS. Nothing in Lean hashes anything: it is a label: what it is worth is what the hold of that sum in a sandbox is worth. -/
noncomputable def Try.pinned : Pinned := { name := "ytcphdfjoodebiaa", sum := "84815052f517331a2029a4551acdbafdf4e3538b98945308cfd41e5d62a699b7", checked := Try.checked }
namespace Rows
def none {H : Type} : Left H := { results := [], args := [] }

/-- 'laws.FnExactRingNew': WHATEVER THE INPUT: true; the input reads as it did. -/
def fnExactRingNewSpec : ChangeSpec := { name := "fnExactRingNew", fn := fun _ => fun
  | [d] => { results := [.lit (.bool true)], args := [d] }
  | _ => none }
def fnExactRingNewRow : OpenClaim := { program := "ytcphdfjoodebiaa", sum := "84815052f517331a2029a4551acdbafdf4e3538b98945308cfd41e5d62a699b7", func := "loop.example/g00709/laws.FnExactRingNew", spec := "fnExactRingNew", apart := false }
def FnExactRingNewSaid : Prop := fnExactRingNewRow.holds Try.pinned (OpenSpec.ofChange fnExactRingNewSpec)

/-- ITS FALSE NEIGHBOUR: 'it returns false'. Refute it at one input. -/
def fnExactRingNewWrong : ChangeSpec := { name := "fnExactRingNew", fn := fun _ => fun
  | [d] => { results := [.lit (.bool false)], args := [d] }
  | _ => none }
def FnExactRingNewWrongFalsely : Prop := fnExactRingNewRow.holds Try.pinned (OpenSpec.ofChange fnExactRingNewWrong)

/-- 'laws.FnExactRingOk': WHATEVER THE INPUT: true; the input reads as it did. -/
def fnExactRingOkSpec : ChangeSpec := { name := "fnExactRingOk", fn := fun _ => fun
  | [d] => { results := [.lit (.bool true)], args := [d] }
  | _ => none }
def fnExactRingOkRow : OpenClaim := { program := "ytcphdfjoodebiaa", sum := "84815052f517331a2029a4551acdbafdf4e3538b98945308cfd41e5d62a699b7", func := "loop.example/g00709/laws.FnExactRingOk", spec := "fnExactRingOk", apart := false }
def FnExactRingOkSaid : Prop := fnExactRingOkRow.holds Try.pinned (OpenSpec.ofChange fnExactRingOkSpec)

/-- ITS FALSE NEIGHBOUR: 'it returns false'. Refute it at one input. -/
def fnExactRingOkWrong : ChangeSpec := { name := "fnExactRingOk", fn := fun _ => fun
  | [d] => { results := [.lit (.bool false)], args := [d] }
  | _ => none }
def FnExactRingOkWrongFalsely : Prop := fnExactRingOkRow.holds Try.pinned (OpenSpec.ofChange fnExactRingOkWrong)

/-- 'laws.FnExactRingTurn': WHATEVER THE INPUT: true; the input reads as it did. -/
def fnExactRingTurnSpec : ChangeSpec := { name := "fnExactRingTurn", fn := fun _ => fun
  | [d1, d2] => { results := [.lit (.bool true)], args := [d1, d2] }
  | _ => none }
def fnExactRingTurnRow : OpenClaim := { program := "ytcphdfjoodebiaa", sum := "84815052f517331a2029a4551acdbafdf4e3538b98945308cfd41e5d62a699b7", func := "loop.example/g00709/laws.FnExactRingTurn", spec := "fnExactRingTurn", apart := false }
def FnExactRingTurnSaid : Prop := fnExactRingTurnRow.holds Try.pinned (OpenSpec.ofChange fnExactRingTurnSpec)

/-- ITS FALSE NEIGHBOUR: 'it returns false'. Refute it at one input. -/
def fnExactRingTurnWrong : ChangeSpec := { name := "fnExactRingTurn", fn := fun _ => fun
  | [d1, d2] => { results := [.lit (.bool false)], args := [d1, d2] }
  | _ => none }
def FnExactRingTurnWrongFalsely : Prop := fnExactRingTurnRow.holds Try.pinned (OpenSpec.ofChange fnExactRingTurnWrong)

/-- 'laws.FnExactRingList': WHATEVER THE INPUT: true; the input reads as it did. -/
def fnExactRingListSpec : ChangeSpec := { name := "fnExactRingList", fn := fun _ => fun
  | [d] => { results := [.lit (.bool true)], args := [d] }
  | _ => none }
def fnExactRingListRow : OpenClaim := { program := "ytcphdfjoodebiaa", sum := "84815052f517331a2029a4551acdbafdf4e3538b98945308cfd41e5d62a699b7", func := "loop.example/g00709/laws.FnExactRingList", spec := "fnExactRingList", apart := false }
def FnExactRingListSaid : Prop := fnExactRingListRow.holds Try.pinned (OpenSpec.ofChange fnExactRingListSpec)

/-- ITS FALSE NEIGHBOUR: 'it returns false'. Refute it at one input. -/
def fnExactRingListWrong : ChangeSpec := { name := "fnExactRingList", fn := fun _ => fun
  | [d] => { results := [.lit (.bool false)], args := [d] }
  | _ => none }
def FnExactRingListWrongFalsely : Prop := fnExactRingListRow.holds Try.pinned (OpenSpec.ofChange fnExactRingListWrong)

/-- 'laws.FnExactRingPush': WHATEVER THE INPUT: true; the input reads as it did. -/
def fnExactRingPushSpec : ChangeSpec := { name := "fnExactRingPush", fn := fun _ => fun
  | [d1, d2] => { results := [.lit (.bool true)], args := [d1, d2] }
  | _ => none }
def fnExactRingPushRow : OpenClaim := { program := "ytcphdfjoodebiaa", sum := "84815052f517331a2029a4551acdbafdf4e3538b98945308cfd41e5d62a699b7", func := "loop.example/g00709/laws.FnExactRingPush", spec := "fnExactRingPush", apart := false }
def FnExactRingPushSaid : Prop := fnExactRingPushRow.holds Try.pinned (OpenSpec.ofChange fnExactRingPushSpec)

/-- ITS FALSE NEIGHBOUR: 'it returns false'. Refute it at one input. -/
def fnExactRingPushWrong : ChangeSpec := { name := "fnExactRingPush", fn := fun _ => fun
  | [d1, d2] => { results := [.lit (.bool false)], args := [d1, d2] }
  | _ => none }
def FnExactRingPushWrongFalsely : Prop := fnExactRingPushRow.holds Try.pinned (OpenSpec.ofChange fnExactRingPushWrong)

/-- 'laws.FnExactRingPop': WHATEVER THE INPUT: true; the input reads as it did. -/
def fnExactRingPopSpec : ChangeSpec := { name := "fnExactRingPop", fn := fun _ => fun
  | [d] => { results := [.lit (.bool true)], args := [d] }
  | _ => none }
def fnExactRingPopRow : OpenClaim := { program := "ytcphdfjoodebiaa", sum := "84815052f517331a2029a4551acdbafdf4e3538b98945308cfd41e5d62a699b7", func := "loop.example/g00709/laws.FnExactRingPop", spec := "fnExactRingPop", apart := false }
def FnExactRingPopSaid : Prop := fnExactRingPopRow.holds Try.pinned (OpenSpec.ofChange fnExactRingPopSpec)

/-- ITS FALSE NEIGHBOUR: 'it returns false'. Refute it at one input. -/
def fnExactRingPopWrong : ChangeSpec := { name := "fnExactRingPop", fn := fun _ => fun
  | [d] => { results := [.lit (.bool false)], args := [d] }
  | _ => none }
def FnExactRingPopWrongFalsely : Prop := fnExactRingPopRow.holds Try.pinned (OpenSpec.ofChange fnExactRingPopWrong)

/-- 'laws.FnRing': WHATEVER THE INPUT: true; the input reads as it did. -/
def fnRingSpec : ChangeSpec := { name := "fnRing", fn := fun _ => fun
  | [d] => { results := [.lit (.bool true)], args := [d] }
  | _ => none }
def fnRingRow : OpenClaim := { program := "ytcphdfjoodebiaa", sum := "84815052f517331a2029a4551acdbafdf4e3538b98945308cfd41e5d62a699b7", func := "loop.example/g00709/laws.FnRing", spec := "fnRing", apart := false }
def FnRingSaid : Prop := fnRingRow.holds Try.pinned (OpenSpec.ofChange fnRingSpec)

/-- ITS FALSE NEIGHBOUR: 'it returns false'. Refute it at one input. -/
def fnRingWrong : ChangeSpec := { name := "fnRing", fn := fun _ => fun
  | [d] => { results := [.lit (.bool false)], args := [d] }
  | _ => none }
def FnRingWrongFalsely : Prop := fnRingRow.holds Try.pinned (OpenSpec.ofChange fnRingWrong)

/-- 'laws.FnTurns': WHATEVER THE INPUT: true; the input reads as it did. -/
def fnTurnsSpec : ChangeSpec := { name := "fnTurns", fn := fun _ => fun
  | [d] => { results := [.lit (.bool true)], args := [d] }
  | _ => none }
def fnTurnsRow : OpenClaim := { program := "ytcphdfjoodebiaa", sum := "84815052f517331a2029a4551acdbafdf4e3538b98945308cfd41e5d62a699b7", func := "loop.example/g00709/laws.FnTurns", spec := "fnTurns", apart := false }
def FnTurnsSaid : Prop := fnTurnsRow.holds Try.pinned (OpenSpec.ofChange fnTurnsSpec)

/-- ITS FALSE NEIGHBOUR: 'it returns false'. Refute it at one input. -/
def fnTurnsWrong : ChangeSpec := { name := "fnTurns", fn := fun _ => fun
  | [d] => { results := [.lit (.bool false)], args := [d] }
  | _ => none }
def FnTurnsWrongFalsely : Prop := fnTurnsRow.holds Try.pinned (OpenSpec.ofChange fnTurnsWrong)

/- THE SECOND FORM. 'bulk': how many values and letters a reading holds, each counted each time it is reached (what is shared counts as often as it is met; a slice's spare places count too). A statement '..UptoSaid' is the law's where the arguments, and the package variables that the reading takes, are together of bulk at most 1048576: NARROWER than '..Said'. Prove '..Said' where nothing that the law and all that it calls make is longer than what came in: it says more and counts as full. Else prove '..UptoSaid'. A law counts once. -/
mutual
def uptoBulk {H : Type} : DataW H → Nat
  | .lit (.string bytes) => bytes.length + 1
  | .lit _ => 1
  | .nil => 1
  | .ptr d => uptoBulk d + 1
  | .slice elems spare => uptoBulkAll elems + uptoBulkAll spare + 1
  | .agg parts => uptoBulkAll parts + 1
  | .iface _ d => uptoBulk d + 1
  | .map entries => uptoBulkEntries entries + 1
  | .held _ => 1
def uptoBulkAll {H : Type} : List (DataW H) → Nat
  | [] => 0
  | d :: r => uptoBulk d + uptoBulkAll r
def uptoBulkEntries {H : Type} : List (Lit × DataW H) → Nat
  | [] => 0
  | x :: r => uptoBulkEntry x + uptoBulkEntries r
def uptoBulkEntry {H : Type} : Lit × DataW H → Nat
  | (.string bytes, d) => bytes.length + uptoBulk d + 1
  | (_, d) => uptoBulk d + 1
 end
def uptoSmall : (H : Type) → List (DataW H) → Bool := fun _ ds => decide (uptoBulkAll ds ≤ 1048576)
def OpenSpec.upto (s : _root_.Go.ChangeSpec) : _root_.Go.OpenSpec := { _root_.Go.OpenSpec.ofChange s with cond := some uptoSmall }

/-- 'laws.FnExactRingNew', WHERE WHAT IT READS IS OF BULK AT MOST 1048576: true; the input reads as it did. -/
def fnExactRingNewUptoRow : OpenClaim := { program := "ytcphdfjoodebiaa", sum := "84815052f517331a2029a4551acdbafdf4e3538b98945308cfd41e5d62a699b7", func := "loop.example/g00709/laws.FnExactRingNew", spec := "fnExactRingNew", apart := false, narrowed := true }
def FnExactRingNewUptoSaid : Prop := fnExactRingNewUptoRow.holds Try.pinned (OpenSpec.upto fnExactRingNewSpec)

/-- 'laws.FnExactRingOk', WHERE WHAT IT READS IS OF BULK AT MOST 1048576: true; the input reads as it did. -/
def fnExactRingOkUptoRow : OpenClaim := { program := "ytcphdfjoodebiaa", sum := "84815052f517331a2029a4551acdbafdf4e3538b98945308cfd41e5d62a699b7", func := "loop.example/g00709/laws.FnExactRingOk", spec := "fnExactRingOk", apart := false, narrowed := true }
def FnExactRingOkUptoSaid : Prop := fnExactRingOkUptoRow.holds Try.pinned (OpenSpec.upto fnExactRingOkSpec)

/-- 'laws.FnExactRingTurn', WHERE WHAT IT READS IS OF BULK AT MOST 1048576: true; the input reads as it did. -/
def fnExactRingTurnUptoRow : OpenClaim := { program := "ytcphdfjoodebiaa", sum := "84815052f517331a2029a4551acdbafdf4e3538b98945308cfd41e5d62a699b7", func := "loop.example/g00709/laws.FnExactRingTurn", spec := "fnExactRingTurn", apart := false, narrowed := true }
def FnExactRingTurnUptoSaid : Prop := fnExactRingTurnUptoRow.holds Try.pinned (OpenSpec.upto fnExactRingTurnSpec)

/-- 'laws.FnExactRingList', WHERE WHAT IT READS IS OF BULK AT MOST 1048576: true; the input reads as it did. -/
def fnExactRingListUptoRow : OpenClaim := { program := "ytcphdfjoodebiaa", sum := "84815052f517331a2029a4551acdbafdf4e3538b98945308cfd41e5d62a699b7", func := "loop.example/g00709/laws.FnExactRingList", spec := "fnExactRingList", apart := false, narrowed := true }
def FnExactRingListUptoSaid : Prop := fnExactRingListUptoRow.holds Try.pinned (OpenSpec.upto fnExactRingListSpec)

/-- 'laws.FnExactRingPush', WHERE WHAT IT READS IS OF BULK AT MOST 1048576: true; the input reads as it did. -/
def fnExactRingPushUptoRow : OpenClaim := { program := "ytcphdfjoodebiaa", sum := "84815052f517331a2029a4551acdbafdf4e3538b98945308cfd41e5d62a699b7", func := "loop.example/g00709/laws.FnExactRingPush", spec := "fnExactRingPush", apart := false, narrowed := true }
def FnExactRingPushUptoSaid : Prop := fnExactRingPushUptoRow.holds Try.pinned (OpenSpec.upto fnExactRingPushSpec)

/-- 'laws.FnExactRingPop', WHERE WHAT IT READS IS OF BULK AT MOST 1048576: true; the input reads as it did. -/
def fnExactRingPopUptoRow : OpenClaim := { program := "ytcphdfjoodebiaa", sum := "84815052f517331a2029a4551acdbafdf4e3538b98945308cfd41e5d62a699b7", func := "loop.example/g00709/laws.FnExactRingPop", spec := "fnExactRingPop", apart := false, narrowed := true }
def FnExactRingPopUptoSaid : Prop := fnExactRingPopUptoRow.holds Try.pinned (OpenSpec.upto fnExactRingPopSpec)

/-- 'laws.FnRing', WHERE WHAT IT READS IS OF BULK AT MOST 1048576: true; the input reads as it did. -/
def fnRingUptoRow : OpenClaim := { program := "ytcphdfjoodebiaa", sum := "84815052f517331a2029a4551acdbafdf4e3538b98945308cfd41e5d62a699b7", func := "loop.example/g00709/laws.FnRing", spec := "fnRing", apart := false, narrowed := true }
def FnRingUptoSaid : Prop := fnRingUptoRow.holds Try.pinned (OpenSpec.upto fnRingSpec)

/-- 'laws.FnTurns', WHERE WHAT IT READS IS OF BULK AT MOST 1048576: true; the input reads as it did. -/
def fnTurnsUptoRow : OpenClaim := { program := "ytcphdfjoodebiaa", sum := "84815052f517331a2029a4551acdbafdf4e3538b98945308cfd41e5d62a699b7", func := "loop.example/g00709/laws.FnTurns", spec := "fnTurns", apart := false, narrowed := true }
def FnTurnsUptoSaid : Prop := fnTurnsUptoRow.holds Try.pinned (OpenSpec.upto fnTurnsSpec)

end Rows
end Go.Proofs.Ytcphdfjoodebiaa
