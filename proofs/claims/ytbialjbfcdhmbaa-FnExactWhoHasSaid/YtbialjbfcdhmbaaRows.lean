/-
  No cell of these rows narrows 'for every input' (looked for: loops, veiled, ifaces, maps, wideKeys, modest, calm, conditions, laid).
  DERIVED. THE GIVEN ROWS OF THIS SEAT. 13 by the template 'for every input the law returns true; each argument reads behind the call as it read before'; 0 by the template 'total and deterministic' (their statements: YtbialjbfcdhmbaaTotals.lean).
  GIVEN WITH THE SEED: the statements are not yours to turn. If you find one false, say at which input.
  Laid BY PROGRAM, IN A SANDBOX (cutbox-rows.mjs): the forced cells as the released guide's own fill.sh prints them over the translation 89028523ab156148… (all of the seat's roots in one cut). By AI agents, Wed Nov 11 2026. No macro, syntax, notation, axiom, sorry.
-/
import Derived.Test.YtbialjbfcdhmbaaChecked
import GoSem.Claim
import GoSem.ClaimJoined
import GoSem.ClaimMapViews
import Derived.JoinedTies
import Derived.KernelRfl
namespace Go.Proofs.Ytbialjbfcdhmbaa
/- THE CELL 'sum', in the pinned program and in every row, IS THE sha256 OF THE DUMP (.gsa) THAT YtbialjbfcdhmbaaProg.lean LOADS. Nothing in Lean hashes anything: it is a label: what it is worth is what the hold of that sum in a sandbox is worth. -/
noncomputable def Try.pinned : Pinned := { name := "ytbialjbfcdhmbaa", sum := "89028523ab156148a4dbb21e706c2a4627ed6fa93d6eac580067761348dfa3be", checked := Try.checked }
namespace Rows
def none {H : Type} : Left H := { results := [], args := [] }

/-- 'laws.FnExactWaste': WHATEVER THE INPUT: true; the input reads as it did. -/
def fnExactWasteSpec : ChangeSpec := { name := "fnExactWaste", fn := fun _ => fun
  | [d] => { results := [.lit (.bool true)], args := [d] }
  | _ => none }
def fnExactWasteRow : OpenClaim := { program := "ytbialjbfcdhmbaa", sum := "89028523ab156148a4dbb21e706c2a4627ed6fa93d6eac580067761348dfa3be", func := "loop.example/g00709/laws.FnExactWaste", spec := "fnExactWaste", apart := false }
def FnExactWasteSaid : Prop := fnExactWasteRow.holds Try.pinned (OpenSpec.ofChange fnExactWasteSpec)

/-- ITS FALSE NEIGHBOUR: 'it returns false'. Refute it at one input. -/
def fnExactWasteWrong : ChangeSpec := { name := "fnExactWaste", fn := fun _ => fun
  | [d] => { results := [.lit (.bool false)], args := [d] }
  | _ => none }
def FnExactWasteWrongFalsely : Prop := fnExactWasteRow.holds Try.pinned (OpenSpec.ofChange fnExactWasteWrong)

/-- 'laws.FnWaste': WHATEVER THE INPUT: true; the input reads as it did. -/
def fnWasteSpec : ChangeSpec := { name := "fnWaste", fn := fun _ => fun
  | [d] => { results := [.lit (.bool true)], args := [d] }
  | _ => none }
def fnWasteRow : OpenClaim := { program := "ytbialjbfcdhmbaa", sum := "89028523ab156148a4dbb21e706c2a4627ed6fa93d6eac580067761348dfa3be", func := "loop.example/g00709/laws.FnWaste", spec := "fnWaste", apart := false }
def FnWasteSaid : Prop := fnWasteRow.holds Try.pinned (OpenSpec.ofChange fnWasteSpec)

/-- ITS FALSE NEIGHBOUR: 'it returns false'. Refute it at one input. -/
def fnWasteWrong : ChangeSpec := { name := "fnWaste", fn := fun _ => fun
  | [d] => { results := [.lit (.bool false)], args := [d] }
  | _ => none }
def FnWasteWrongFalsely : Prop := fnWasteRow.holds Try.pinned (OpenSpec.ofChange fnWasteWrong)

/-- 'laws.FnExactLongestFree': WHATEVER THE INPUT: true; the input reads as it did. -/
def fnExactLongestFreeSpec : ChangeSpec := { name := "fnExactLongestFree", fn := fun _ => fun
  | [d] => { results := [.lit (.bool true)], args := [d] }
  | _ => none }
def fnExactLongestFreeRow : OpenClaim := { program := "ytbialjbfcdhmbaa", sum := "89028523ab156148a4dbb21e706c2a4627ed6fa93d6eac580067761348dfa3be", func := "loop.example/g00709/laws.FnExactLongestFree", spec := "fnExactLongestFree", unfollowed := true, recurses := true, apart := false }
def FnExactLongestFreeSaid : Prop := fnExactLongestFreeRow.holds Try.pinned (OpenSpec.ofChange fnExactLongestFreeSpec)

/-- ITS FALSE NEIGHBOUR: 'it returns false'. Refute it at one input. -/
def fnExactLongestFreeWrong : ChangeSpec := { name := "fnExactLongestFree", fn := fun _ => fun
  | [d] => { results := [.lit (.bool false)], args := [d] }
  | _ => none }
def FnExactLongestFreeWrongFalsely : Prop := fnExactLongestFreeRow.holds Try.pinned (OpenSpec.ofChange fnExactLongestFreeWrong)

/-- 'laws.FnExactMemText': WHATEVER THE INPUT: true; the input reads as it did. -/
def fnExactMemTextSpec : ChangeSpec := { name := "fnExactMemText", fn := fun _ => fun
  | [d] => { results := [.lit (.bool true)], args := [d] }
  | _ => none }
def fnExactMemTextRow : OpenClaim := { program := "ytbialjbfcdhmbaa", sum := "89028523ab156148a4dbb21e706c2a4627ed6fa93d6eac580067761348dfa3be", func := "loop.example/g00709/laws.FnExactMemText", spec := "fnExactMemText", unfollowed := true, recurses := true, apart := false }
def FnExactMemTextSaid : Prop := fnExactMemTextRow.holds Try.pinned (OpenSpec.ofChange fnExactMemTextSpec)

/-- ITS FALSE NEIGHBOUR: 'it returns false'. Refute it at one input. -/
def fnExactMemTextWrong : ChangeSpec := { name := "fnExactMemText", fn := fun _ => fun
  | [d] => { results := [.lit (.bool false)], args := [d] }
  | _ => none }
def FnExactMemTextWrongFalsely : Prop := fnExactMemTextRow.holds Try.pinned (OpenSpec.ofChange fnExactMemTextWrong)

/-- 'laws.FnExactScatter': WHATEVER THE INPUT: true; the input reads as it did. -/
def fnExactScatterSpec : ChangeSpec := { name := "fnExactScatter", fn := fun _ => fun
  | [d] => { results := [.lit (.bool true)], args := [d] }
  | _ => none }
def fnExactScatterRow : OpenClaim := { program := "ytbialjbfcdhmbaa", sum := "89028523ab156148a4dbb21e706c2a4627ed6fa93d6eac580067761348dfa3be", func := "loop.example/g00709/laws.FnExactScatter", spec := "fnExactScatter", unfollowed := true, recurses := true, apart := false }
def FnExactScatterSaid : Prop := fnExactScatterRow.holds Try.pinned (OpenSpec.ofChange fnExactScatterSpec)

/-- ITS FALSE NEIGHBOUR: 'it returns false'. Refute it at one input. -/
def fnExactScatterWrong : ChangeSpec := { name := "fnExactScatter", fn := fun _ => fun
  | [d] => { results := [.lit (.bool false)], args := [d] }
  | _ => none }
def FnExactScatterWrongFalsely : Prop := fnExactScatterRow.holds Try.pinned (OpenSpec.ofChange fnExactScatterWrong)

/-- 'laws.FnExactWhoHas': WHATEVER THE INPUT: true; the input reads as it did. -/
def fnExactWhoHasSpec : ChangeSpec := { name := "fnExactWhoHas", fn := fun _ => fun
  | [d1, d2] => { results := [.lit (.bool true)], args := [d1, d2] }
  | _ => none }
def fnExactWhoHasRow : OpenClaim := { program := "ytbialjbfcdhmbaa", sum := "89028523ab156148a4dbb21e706c2a4627ed6fa93d6eac580067761348dfa3be", func := "loop.example/g00709/laws.FnExactWhoHas", spec := "fnExactWhoHas", unfollowed := true, recurses := true, apart := false }
def FnExactWhoHasSaid : Prop := fnExactWhoHasRow.holds Try.pinned (OpenSpec.ofChange fnExactWhoHasSpec)

/-- ITS FALSE NEIGHBOUR: 'it returns false'. Refute it at one input. -/
def fnExactWhoHasWrong : ChangeSpec := { name := "fnExactWhoHas", fn := fun _ => fun
  | [d1, d2] => { results := [.lit (.bool false)], args := [d1, d2] }
  | _ => none }
def FnExactWhoHasWrongFalsely : Prop := fnExactWhoHasRow.holds Try.pinned (OpenSpec.ofChange fnExactWhoHasWrong)

/-- 'laws.FnExactUsesOf': WHATEVER THE INPUT: true; the input reads as it did. -/
def fnExactUsesOfSpec : ChangeSpec := { name := "fnExactUsesOf", fn := fun _ => fun
  | [d] => { results := [.lit (.bool true)], args := [d] }
  | _ => none }
def fnExactUsesOfRow : OpenClaim := { program := "ytbialjbfcdhmbaa", sum := "89028523ab156148a4dbb21e706c2a4627ed6fa93d6eac580067761348dfa3be", func := "loop.example/g00709/laws.FnExactUsesOf", spec := "fnExactUsesOf", unfollowed := true, recurses := true, apart := false }
def FnExactUsesOfSaid : Prop := fnExactUsesOfRow.holds Try.pinned (OpenSpec.ofChange fnExactUsesOfSpec)

/-- ITS FALSE NEIGHBOUR: 'it returns false'. Refute it at one input. -/
def fnExactUsesOfWrong : ChangeSpec := { name := "fnExactUsesOf", fn := fun _ => fun
  | [d] => { results := [.lit (.bool false)], args := [d] }
  | _ => none }
def FnExactUsesOfWrongFalsely : Prop := fnExactUsesOfRow.holds Try.pinned (OpenSpec.ofChange fnExactUsesOfWrong)

/-- 'laws.FnExactFits': WHATEVER THE INPUT: true; the input reads as it did. -/
def fnExactFitsSpec : ChangeSpec := { name := "fnExactFits", fn := fun _ => fun
  | [d1, d2] => { results := [.lit (.bool true)], args := [d1, d2] }
  | _ => none }
def fnExactFitsRow : OpenClaim := { program := "ytbialjbfcdhmbaa", sum := "89028523ab156148a4dbb21e706c2a4627ed6fa93d6eac580067761348dfa3be", func := "loop.example/g00709/laws.FnExactFits", spec := "fnExactFits", unfollowed := true, recurses := true, apart := false }
def FnExactFitsSaid : Prop := fnExactFitsRow.holds Try.pinned (OpenSpec.ofChange fnExactFitsSpec)

/-- ITS FALSE NEIGHBOUR: 'it returns false'. Refute it at one input. -/
def fnExactFitsWrong : ChangeSpec := { name := "fnExactFits", fn := fun _ => fun
  | [d1, d2] => { results := [.lit (.bool false)], args := [d1, d2] }
  | _ => none }
def FnExactFitsWrongFalsely : Prop := fnExactFitsRow.holds Try.pinned (OpenSpec.ofChange fnExactFitsWrong)

/-- 'laws.FnMemText': WHATEVER THE INPUT: true; the input reads as it did. -/
def fnMemTextSpec : ChangeSpec := { name := "fnMemText", fn := fun _ => fun
  | [d] => { results := [.lit (.bool true)], args := [d] }
  | _ => none }
def fnMemTextRow : OpenClaim := { program := "ytbialjbfcdhmbaa", sum := "89028523ab156148a4dbb21e706c2a4627ed6fa93d6eac580067761348dfa3be", func := "loop.example/g00709/laws.FnMemText", spec := "fnMemText", unfollowed := true, recurses := true, apart := false }
def FnMemTextSaid : Prop := fnMemTextRow.holds Try.pinned (OpenSpec.ofChange fnMemTextSpec)

/-- ITS FALSE NEIGHBOUR: 'it returns false'. Refute it at one input. -/
def fnMemTextWrong : ChangeSpec := { name := "fnMemText", fn := fun _ => fun
  | [d] => { results := [.lit (.bool false)], args := [d] }
  | _ => none }
def FnMemTextWrongFalsely : Prop := fnMemTextRow.holds Try.pinned (OpenSpec.ofChange fnMemTextWrong)

/-- 'laws.FnScatter': WHATEVER THE INPUT: true; the input reads as it did. -/
def fnScatterSpec : ChangeSpec := { name := "fnScatter", fn := fun _ => fun
  | [d] => { results := [.lit (.bool true)], args := [d] }
  | _ => none }
def fnScatterRow : OpenClaim := { program := "ytbialjbfcdhmbaa", sum := "89028523ab156148a4dbb21e706c2a4627ed6fa93d6eac580067761348dfa3be", func := "loop.example/g00709/laws.FnScatter", spec := "fnScatter", unfollowed := true, recurses := true, apart := false }
def FnScatterSaid : Prop := fnScatterRow.holds Try.pinned (OpenSpec.ofChange fnScatterSpec)

/-- ITS FALSE NEIGHBOUR: 'it returns false'. Refute it at one input. -/
def fnScatterWrong : ChangeSpec := { name := "fnScatter", fn := fun _ => fun
  | [d] => { results := [.lit (.bool false)], args := [d] }
  | _ => none }
def FnScatterWrongFalsely : Prop := fnScatterRow.holds Try.pinned (OpenSpec.ofChange fnScatterWrong)

/-- 'laws.FnUses': WHATEVER THE INPUT: true; the input reads as it did. -/
def fnUsesSpec : ChangeSpec := { name := "fnUses", fn := fun _ => fun
  | [d] => { results := [.lit (.bool true)], args := [d] }
  | _ => none }
def fnUsesRow : OpenClaim := { program := "ytbialjbfcdhmbaa", sum := "89028523ab156148a4dbb21e706c2a4627ed6fa93d6eac580067761348dfa3be", func := "loop.example/g00709/laws.FnUses", spec := "fnUses", unfollowed := true, recurses := true, apart := false }
def FnUsesSaid : Prop := fnUsesRow.holds Try.pinned (OpenSpec.ofChange fnUsesSpec)

/-- ITS FALSE NEIGHBOUR: 'it returns false'. Refute it at one input. -/
def fnUsesWrong : ChangeSpec := { name := "fnUses", fn := fun _ => fun
  | [d] => { results := [.lit (.bool false)], args := [d] }
  | _ => none }
def FnUsesWrongFalsely : Prop := fnUsesRow.holds Try.pinned (OpenSpec.ofChange fnUsesWrong)

/-- 'laws.FnLongestFree': WHATEVER THE INPUT: true; the input reads as it did. -/
def fnLongestFreeSpec : ChangeSpec := { name := "fnLongestFree", fn := fun _ => fun
  | [d] => { results := [.lit (.bool true)], args := [d] }
  | _ => none }
def fnLongestFreeRow : OpenClaim := { program := "ytbialjbfcdhmbaa", sum := "89028523ab156148a4dbb21e706c2a4627ed6fa93d6eac580067761348dfa3be", func := "loop.example/g00709/laws.FnLongestFree", spec := "fnLongestFree", unfollowed := true, recurses := true, apart := false }
def FnLongestFreeSaid : Prop := fnLongestFreeRow.holds Try.pinned (OpenSpec.ofChange fnLongestFreeSpec)

/-- ITS FALSE NEIGHBOUR: 'it returns false'. Refute it at one input. -/
def fnLongestFreeWrong : ChangeSpec := { name := "fnLongestFree", fn := fun _ => fun
  | [d] => { results := [.lit (.bool false)], args := [d] }
  | _ => none }
def FnLongestFreeWrongFalsely : Prop := fnLongestFreeRow.holds Try.pinned (OpenSpec.ofChange fnLongestFreeWrong)

/-- 'laws.FnAudit': WHATEVER THE INPUT: true; the input reads as it did. -/
def fnAuditSpec : ChangeSpec := { name := "fnAudit", fn := fun _ => fun
  | [d] => { results := [.lit (.bool true)], args := [d] }
  | _ => none }
def fnAuditRow : OpenClaim := { program := "ytbialjbfcdhmbaa", sum := "89028523ab156148a4dbb21e706c2a4627ed6fa93d6eac580067761348dfa3be", func := "loop.example/g00709/laws.FnAudit", spec := "fnAudit", unfollowed := true, recurses := true, apart := false }
def FnAuditSaid : Prop := fnAuditRow.holds Try.pinned (OpenSpec.ofChange fnAuditSpec)

/-- ITS FALSE NEIGHBOUR: 'it returns false'. Refute it at one input. -/
def fnAuditWrong : ChangeSpec := { name := "fnAudit", fn := fun _ => fun
  | [d] => { results := [.lit (.bool false)], args := [d] }
  | _ => none }
def FnAuditWrongFalsely : Prop := fnAuditRow.holds Try.pinned (OpenSpec.ofChange fnAuditWrong)

/- THE SECOND FORM. 'bulk': how many values and letters a reading holds, each counted each time it is reached (what is shared counts as often as it is met; a slice's spare places count too). A statement '..UptoSaid' is the law's where the arguments, and the package variables that the reading takes, are together of bulk at most 1048576: NARROWER than '..Said'. Prove '..Said' where nothing that the law and all that it calls make is longer than what came in: it says more and counts as full. Else prove '..UptoSaid'. A law counts once. -/
mutual
def uptoBulk {H : Type} : DataW H → Nat
  | .lit (.string bytes) => bytes.length + 1
  | .lit _ => 1
  | .nil => 1
  | .ptr d => uptoBulk d + 1
  | .slice elems spare => uptoBulkAll elems + uptoBulkAll spare + 1
  | .agg parts => uptoBulkAll parts + 1
  | .iface _ d => uptoBulk d + 1
  | .map entries => uptoBulkEntries entries + 1
  | .held _ => 1
def uptoBulkAll {H : Type} : List (DataW H) → Nat
  | [] => 0
  | d :: r => uptoBulk d + uptoBulkAll r
def uptoBulkEntries {H : Type} : List (Lit × DataW H) → Nat
  | [] => 0
  | x :: r => uptoBulkEntry x + uptoBulkEntries r
def uptoBulkEntry {H : Type} : Lit × DataW H → Nat
  | (.string bytes, d) => bytes.length + uptoBulk d + 1
  | (_, d) => uptoBulk d + 1
 end
def uptoSmall : (H : Type) → List (DataW H) → Bool := fun _ ds => decide (uptoBulkAll ds ≤ 1048576)
def OpenSpec.upto (s : _root_.Go.ChangeSpec) : _root_.Go.OpenSpec := { _root_.Go.OpenSpec.ofChange s with cond := some uptoSmall }

/-- 'laws.FnExactWaste', WHERE WHAT IT READS IS OF BULK AT MOST 1048576: true; the input reads as it did. -/
def fnExactWasteUptoRow : OpenClaim := { program := "ytbialjbfcdhmbaa", sum := "89028523ab156148a4dbb21e706c2a4627ed6fa93d6eac580067761348dfa3be", func := "loop.example/g00709/laws.FnExactWaste", spec := "fnExactWaste", apart := false, narrowed := true }
def FnExactWasteUptoSaid : Prop := fnExactWasteUptoRow.holds Try.pinned (OpenSpec.upto fnExactWasteSpec)

/-- 'laws.FnWaste', WHERE WHAT IT READS IS OF BULK AT MOST 1048576: true; the input reads as it did. -/
def fnWasteUptoRow : OpenClaim := { program := "ytbialjbfcdhmbaa", sum := "89028523ab156148a4dbb21e706c2a4627ed6fa93d6eac580067761348dfa3be", func := "loop.example/g00709/laws.FnWaste", spec := "fnWaste", apart := false, narrowed := true }
def FnWasteUptoSaid : Prop := fnWasteUptoRow.holds Try.pinned (OpenSpec.upto fnWasteSpec)

/-- 'laws.FnExactLongestFree', WHERE WHAT IT READS IS OF BULK AT MOST 1048576: true; the input reads as it did. -/
def fnExactLongestFreeUptoRow : OpenClaim := { program := "ytbialjbfcdhmbaa", sum := "89028523ab156148a4dbb21e706c2a4627ed6fa93d6eac580067761348dfa3be", func := "loop.example/g00709/laws.FnExactLongestFree", spec := "fnExactLongestFree", unfollowed := true, recurses := true, apart := false, narrowed := true }
def FnExactLongestFreeUptoSaid : Prop := fnExactLongestFreeUptoRow.holds Try.pinned (OpenSpec.upto fnExactLongestFreeSpec)

/-- 'laws.FnExactMemText', WHERE WHAT IT READS IS OF BULK AT MOST 1048576: true; the input reads as it did. -/
def fnExactMemTextUptoRow : OpenClaim := { program := "ytbialjbfcdhmbaa", sum := "89028523ab156148a4dbb21e706c2a4627ed6fa93d6eac580067761348dfa3be", func := "loop.example/g00709/laws.FnExactMemText", spec := "fnExactMemText", unfollowed := true, recurses := true, apart := false, narrowed := true }
def FnExactMemTextUptoSaid : Prop := fnExactMemTextUptoRow.holds Try.pinned (OpenSpec.upto fnExactMemTextSpec)

/-- 'laws.FnExactScatter', WHERE WHAT IT READS IS OF BULK AT MOST 1048576: true; the input reads as it did. -/
def fnExactScatterUptoRow : OpenClaim := { program := "ytbialjbfcdhmbaa", sum := "89028523ab156148a4dbb21e706c2a4627ed6fa93d6eac580067761348dfa3be", func := "loop.example/g00709/laws.FnExactScatter", spec := "fnExactScatter", unfollowed := true, recurses := true, apart := false, narrowed := true }
def FnExactScatterUptoSaid : Prop := fnExactScatterUptoRow.holds Try.pinned (OpenSpec.upto fnExactScatterSpec)

/-- 'laws.FnExactWhoHas', WHERE WHAT IT READS IS OF BULK AT MOST 1048576: true; the input reads as it did. -/
def fnExactWhoHasUptoRow : OpenClaim := { program := "ytbialjbfcdhmbaa", sum := "89028523ab156148a4dbb21e706c2a4627ed6fa93d6eac580067761348dfa3be", func := "loop.example/g00709/laws.FnExactWhoHas", spec := "fnExactWhoHas", unfollowed := true, recurses := true, apart := false, narrowed := true }
def FnExactWhoHasUptoSaid : Prop := fnExactWhoHasUptoRow.holds Try.pinned (OpenSpec.upto fnExactWhoHasSpec)

/-- 'laws.FnExactUsesOf', WHERE WHAT IT READS IS OF BULK AT MOST 1048576: true; the input reads as it did. -/
def fnExactUsesOfUptoRow : OpenClaim := { program := "ytbialjbfcdhmbaa", sum := "89028523ab156148a4dbb21e706c2a4627ed6fa93d6eac580067761348dfa3be", func := "loop.example/g00709/laws.FnExactUsesOf", spec := "fnExactUsesOf", unfollowed := true, recurses := true, apart := false, narrowed := true }
def FnExactUsesOfUptoSaid : Prop := fnExactUsesOfUptoRow.holds Try.pinned (OpenSpec.upto fnExactUsesOfSpec)

/-- 'laws.FnExactFits', WHERE WHAT IT READS IS OF BULK AT MOST 1048576: true; the input reads as it did. -/
def fnExactFitsUptoRow : OpenClaim := { program := "ytbialjbfcdhmbaa", sum := "89028523ab156148a4dbb21e706c2a4627ed6fa93d6eac580067761348dfa3be", func := "loop.example/g00709/laws.FnExactFits", spec := "fnExactFits", unfollowed := true, recurses := true, apart := false, narrowed := true }
def FnExactFitsUptoSaid : Prop := fnExactFitsUptoRow.holds Try.pinned (OpenSpec.upto fnExactFitsSpec)

/-- 'laws.FnMemText', WHERE WHAT IT READS IS OF BULK AT MOST 1048576: true; the input reads as it did. -/
def fnMemTextUptoRow : OpenClaim := { program := "ytbialjbfcdhmbaa", sum := "89028523ab156148a4dbb21e706c2a4627ed6fa93d6eac580067761348dfa3be", func := "loop.example/g00709/laws.FnMemText", spec := "fnMemText", unfollowed := true, recurses := true, apart := false, narrowed := true }
def FnMemTextUptoSaid : Prop := fnMemTextUptoRow.holds Try.pinned (OpenSpec.upto fnMemTextSpec)

/-- 'laws.FnScatter', WHERE WHAT IT READS IS OF BULK AT MOST 1048576: true; the input reads as it did. -/
def fnScatterUptoRow : OpenClaim := { program := "ytbialjbfcdhmbaa", sum := "89028523ab156148a4dbb21e706c2a4627ed6fa93d6eac580067761348dfa3be", func := "loop.example/g00709/laws.FnScatter", spec := "fnScatter", unfollowed := true, recurses := true, apart := false, narrowed := true }
def FnScatterUptoSaid : Prop := fnScatterUptoRow.holds Try.pinned (OpenSpec.upto fnScatterSpec)

/-- 'laws.FnUses', WHERE WHAT IT READS IS OF BULK AT MOST 1048576: true; the input reads as it did. -/
def fnUsesUptoRow : OpenClaim := { program := "ytbialjbfcdhmbaa", sum := "89028523ab156148a4dbb21e706c2a4627ed6fa93d6eac580067761348dfa3be", func := "loop.example/g00709/laws.FnUses", spec := "fnUses", unfollowed := true, recurses := true, apart := false, narrowed := true }
def FnUsesUptoSaid : Prop := fnUsesUptoRow.holds Try.pinned (OpenSpec.upto fnUsesSpec)

/-- 'laws.FnLongestFree', WHERE WHAT IT READS IS OF BULK AT MOST 1048576: true; the input reads as it did. -/
def fnLongestFreeUptoRow : OpenClaim := { program := "ytbialjbfcdhmbaa", sum := "89028523ab156148a4dbb21e706c2a4627ed6fa93d6eac580067761348dfa3be", func := "loop.example/g00709/laws.FnLongestFree", spec := "fnLongestFree", unfollowed := true, recurses := true, apart := false, narrowed := true }
def FnLongestFreeUptoSaid : Prop := fnLongestFreeUptoRow.holds Try.pinned (OpenSpec.upto fnLongestFreeSpec)

/-- 'laws.FnAudit', WHERE WHAT IT READS IS OF BULK AT MOST 1048576: true; the input reads as it did. -/
def fnAuditUptoRow : OpenClaim := { program := "ytbialjbfcdhmbaa", sum := "89028523ab156148a4dbb21e706c2a4627ed6fa93d6eac580067761348dfa3be", func := "loop.example/g00709/laws.FnAudit", spec := "fnAudit", unfollowed := true, recurses := true, apart := false, narrowed := true }
def FnAuditUptoSaid : Prop := fnAuditUptoRow.holds Try.pinned (OpenSpec.upto fnAuditSpec)

end Rows
end Go.Proofs.Ytbialjbfcdhmbaa
