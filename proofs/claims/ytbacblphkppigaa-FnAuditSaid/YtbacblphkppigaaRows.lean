/-
  No cell of these rows narrows 'for every input' (looked for: loops, veiled, ifaces, maps, wideKeys, modest, calm, conditions, laid).
  DERIVED. THE GIVEN ROWS OF THIS SEAT. 10 by the template 'for every input the law returns true; each argument reads behind the call as it read before'; 0 by the template 'total and deterministic' (their statements: YtbacblphkppigaaTotals.lean).
  GIVEN WITH THE SEED: the statements are not yours to turn. If you find one false, say at which input.
  Laid BY PROGRAM, IN A SANDBOX (cutbox-rows.mjs): the forced cells as the released guide's own fill.sh prints them over the translation 66cbf45fc3465251… (all of the seat's roots in one cut). By AI agents, Wed Nov 11 2026. No macro, syntax, notation, axiom, sorry.
-/
import Derived.Test.YtbacblphkppigaaChecked
import GoSem.Claim
import GoSem.ClaimJoined
import GoSem.ClaimMapViews
import Derived.JoinedTies
import Derived.KernelRfl
namespace Go.Proofs.Ytbacblphkppigaa
/- THE CELL 'sum', in the pinned program and in every row, IS THE sha256 OF THE DUMP (.gsa) THAT YtbacblphkppigaaProg.lean LOADS. Nothing in Lean hashes anything: it is a label: what it is worth is what the hold of that sum in a sandbox is worth. -/
noncomputable def Try.pinned : Pinned := { name := "ytbacblphkppigaa", sum := "66cbf45fc3465251af74d435def182c20d0893c3e1636aeaee59a3b70ad0f49e", checked := Try.checked }
namespace Rows
def none {H : Type} : Left H := { results := [], args := [] }

/-- 'laws.FnSema': WHATEVER THE INPUT: true; the input reads as it did. -/
def fnSemaSpec : ChangeSpec := { name := "fnSema", fn := fun _ => fun
  | [d] => { results := [.lit (.bool true)], args := [d] }
  | _ => none }
def fnSemaRow : OpenClaim := { program := "ytbacblphkppigaa", sum := "66cbf45fc3465251af74d435def182c20d0893c3e1636aeaee59a3b70ad0f49e", func := "loop.example/g00709/laws.FnSema", spec := "fnSema", apart := false }
def FnSemaSaid : Prop := fnSemaRow.holds Try.pinned (OpenSpec.ofChange fnSemaSpec)

/-- ITS FALSE NEIGHBOUR: 'it returns false'. Refute it at one input. -/
def fnSemaWrong : ChangeSpec := { name := "fnSema", fn := fun _ => fun
  | [d] => { results := [.lit (.bool false)], args := [d] }
  | _ => none }
def FnSemaWrongFalsely : Prop := fnSemaRow.holds Try.pinned (OpenSpec.ofChange fnSemaWrong)

/-- 'laws.FnRing': WHATEVER THE INPUT: true; the input reads as it did. -/
def fnRingSpec : ChangeSpec := { name := "fnRing", fn := fun _ => fun
  | [d] => { results := [.lit (.bool true)], args := [d] }
  | _ => none }
def fnRingRow : OpenClaim := { program := "ytbacblphkppigaa", sum := "66cbf45fc3465251af74d435def182c20d0893c3e1636aeaee59a3b70ad0f49e", func := "loop.example/g00709/laws.FnRing", spec := "fnRing", apart := false }
def FnRingSaid : Prop := fnRingRow.holds Try.pinned (OpenSpec.ofChange fnRingSpec)

/-- ITS FALSE NEIGHBOUR: 'it returns false'. Refute it at one input. -/
def fnRingWrong : ChangeSpec := { name := "fnRing", fn := fun _ => fun
  | [d] => { results := [.lit (.bool false)], args := [d] }
  | _ => none }
def FnRingWrongFalsely : Prop := fnRingRow.holds Try.pinned (OpenSpec.ofChange fnRingWrong)

/-- 'laws.FnRecordTold': WHATEVER THE INPUT: true; the input reads as it did. -/
def fnRecordToldSpec : ChangeSpec := { name := "fnRecordTold", fn := fun _ => fun
  | [d] => { results := [.lit (.bool true)], args := [d] }
  | _ => none }
def fnRecordToldRow : OpenClaim := { program := "ytbacblphkppigaa", sum := "66cbf45fc3465251af74d435def182c20d0893c3e1636aeaee59a3b70ad0f49e", func := "loop.example/g00709/laws.FnRecordTold", spec := "fnRecordTold", unfollowed := true, recurses := true, apart := false }
def FnRecordToldSaid : Prop := fnRecordToldRow.holds Try.pinned (OpenSpec.ofChange fnRecordToldSpec)

/-- ITS FALSE NEIGHBOUR: 'it returns false'. Refute it at one input. -/
def fnRecordToldWrong : ChangeSpec := { name := "fnRecordTold", fn := fun _ => fun
  | [d] => { results := [.lit (.bool false)], args := [d] }
  | _ => none }
def FnRecordToldWrongFalsely : Prop := fnRecordToldRow.holds Try.pinned (OpenSpec.ofChange fnRecordToldWrong)

/-- 'laws.FnExactLogOf': WHATEVER THE INPUT: true; the input reads as it did. -/
def fnExactLogOfSpec : ChangeSpec := { name := "fnExactLogOf", fn := fun _ => fun
  | [d] => { results := [.lit (.bool true)], args := [d] }
  | _ => none }
def fnExactLogOfRow : OpenClaim := { program := "ytbacblphkppigaa", sum := "66cbf45fc3465251af74d435def182c20d0893c3e1636aeaee59a3b70ad0f49e", func := "loop.example/g00709/laws.FnExactLogOf", spec := "fnExactLogOf", unfollowed := true, recurses := true, apart := false }
def FnExactLogOfSaid : Prop := fnExactLogOfRow.holds Try.pinned (OpenSpec.ofChange fnExactLogOfSpec)

/-- ITS FALSE NEIGHBOUR: 'it returns false'. Refute it at one input. -/
def fnExactLogOfWrong : ChangeSpec := { name := "fnExactLogOf", fn := fun _ => fun
  | [d] => { results := [.lit (.bool false)], args := [d] }
  | _ => none }
def FnExactLogOfWrongFalsely : Prop := fnExactLogOfRow.holds Try.pinned (OpenSpec.ofChange fnExactLogOfWrong)

/-- 'laws.FnExactLogRead': WHATEVER THE INPUT: true; the input reads as it did. -/
def fnExactLogReadSpec : ChangeSpec := { name := "fnExactLogRead", fn := fun _ => fun
  | [d] => { results := [.lit (.bool true)], args := [d] }
  | _ => none }
def fnExactLogReadRow : OpenClaim := { program := "ytbacblphkppigaa", sum := "66cbf45fc3465251af74d435def182c20d0893c3e1636aeaee59a3b70ad0f49e", func := "loop.example/g00709/laws.FnExactLogRead", spec := "fnExactLogRead", unfollowed := true, recurses := true, apart := false }
def FnExactLogReadSaid : Prop := fnExactLogReadRow.holds Try.pinned (OpenSpec.ofChange fnExactLogReadSpec)

/-- ITS FALSE NEIGHBOUR: 'it returns false'. Refute it at one input. -/
def fnExactLogReadWrong : ChangeSpec := { name := "fnExactLogRead", fn := fun _ => fun
  | [d] => { results := [.lit (.bool false)], args := [d] }
  | _ => none }
def FnExactLogReadWrongFalsely : Prop := fnExactLogReadRow.holds Try.pinned (OpenSpec.ofChange fnExactLogReadWrong)

/-- 'laws.FnMemText': WHATEVER THE INPUT: true; the input reads as it did. -/
def fnMemTextSpec : ChangeSpec := { name := "fnMemText", fn := fun _ => fun
  | [d] => { results := [.lit (.bool true)], args := [d] }
  | _ => none }
def fnMemTextRow : OpenClaim := { program := "ytbacblphkppigaa", sum := "66cbf45fc3465251af74d435def182c20d0893c3e1636aeaee59a3b70ad0f49e", func := "loop.example/g00709/laws.FnMemText", spec := "fnMemText", unfollowed := true, recurses := true, apart := false }
def FnMemTextSaid : Prop := fnMemTextRow.holds Try.pinned (OpenSpec.ofChange fnMemTextSpec)

/-- ITS FALSE NEIGHBOUR: 'it returns false'. Refute it at one input. -/
def fnMemTextWrong : ChangeSpec := { name := "fnMemText", fn := fun _ => fun
  | [d] => { results := [.lit (.bool false)], args := [d] }
  | _ => none }
def FnMemTextWrongFalsely : Prop := fnMemTextRow.holds Try.pinned (OpenSpec.ofChange fnMemTextWrong)

/-- 'laws.FnScatter': WHATEVER THE INPUT: true; the input reads as it did. -/
def fnScatterSpec : ChangeSpec := { name := "fnScatter", fn := fun _ => fun
  | [d] => { results := [.lit (.bool true)], args := [d] }
  | _ => none }
def fnScatterRow : OpenClaim := { program := "ytbacblphkppigaa", sum := "66cbf45fc3465251af74d435def182c20d0893c3e1636aeaee59a3b70ad0f49e", func := "loop.example/g00709/laws.FnScatter", spec := "fnScatter", unfollowed := true, recurses := true, apart := false }
def FnScatterSaid : Prop := fnScatterRow.holds Try.pinned (OpenSpec.ofChange fnScatterSpec)

/-- ITS FALSE NEIGHBOUR: 'it returns false'. Refute it at one input. -/
def fnScatterWrong : ChangeSpec := { name := "fnScatter", fn := fun _ => fun
  | [d] => { results := [.lit (.bool false)], args := [d] }
  | _ => none }
def FnScatterWrongFalsely : Prop := fnScatterRow.holds Try.pinned (OpenSpec.ofChange fnScatterWrong)

/-- 'laws.FnUses': WHATEVER THE INPUT: true; the input reads as it did. -/
def fnUsesSpec : ChangeSpec := { name := "fnUses", fn := fun _ => fun
  | [d] => { results := [.lit (.bool true)], args := [d] }
  | _ => none }
def fnUsesRow : OpenClaim := { program := "ytbacblphkppigaa", sum := "66cbf45fc3465251af74d435def182c20d0893c3e1636aeaee59a3b70ad0f49e", func := "loop.example/g00709/laws.FnUses", spec := "fnUses", unfollowed := true, recurses := true, apart := false }
def FnUsesSaid : Prop := fnUsesRow.holds Try.pinned (OpenSpec.ofChange fnUsesSpec)

/-- ITS FALSE NEIGHBOUR: 'it returns false'. Refute it at one input. -/
def fnUsesWrong : ChangeSpec := { name := "fnUses", fn := fun _ => fun
  | [d] => { results := [.lit (.bool false)], args := [d] }
  | _ => none }
def FnUsesWrongFalsely : Prop := fnUsesRow.holds Try.pinned (OpenSpec.ofChange fnUsesWrong)

/-- 'laws.FnLongestFree': WHATEVER THE INPUT: true; the input reads as it did. -/
def fnLongestFreeSpec : ChangeSpec := { name := "fnLongestFree", fn := fun _ => fun
  | [d] => { results := [.lit (.bool true)], args := [d] }
  | _ => none }
def fnLongestFreeRow : OpenClaim := { program := "ytbacblphkppigaa", sum := "66cbf45fc3465251af74d435def182c20d0893c3e1636aeaee59a3b70ad0f49e", func := "loop.example/g00709/laws.FnLongestFree", spec := "fnLongestFree", unfollowed := true, recurses := true, apart := false }
def FnLongestFreeSaid : Prop := fnLongestFreeRow.holds Try.pinned (OpenSpec.ofChange fnLongestFreeSpec)

/-- ITS FALSE NEIGHBOUR: 'it returns false'. Refute it at one input. -/
def fnLongestFreeWrong : ChangeSpec := { name := "fnLongestFree", fn := fun _ => fun
  | [d] => { results := [.lit (.bool false)], args := [d] }
  | _ => none }
def FnLongestFreeWrongFalsely : Prop := fnLongestFreeRow.holds Try.pinned (OpenSpec.ofChange fnLongestFreeWrong)

/-- 'laws.FnAudit': WHATEVER THE INPUT: true; the input reads as it did. -/
def fnAuditSpec : ChangeSpec := { name := "fnAudit", fn := fun _ => fun
  | [d] => { results := [.lit (.bool true)], args := [d] }
  | _ => none }
def fnAuditRow : OpenClaim := { program := "ytbacblphkppigaa", sum := "66cbf45fc3465251af74d435def182c20d0893c3e1636aeaee59a3b70ad0f49e", func := "loop.example/g00709/laws.FnAudit", spec := "fnAudit", unfollowed := true, recurses := true, apart := false }
def FnAuditSaid : Prop := fnAuditRow.holds Try.pinned (OpenSpec.ofChange fnAuditSpec)

/-- ITS FALSE NEIGHBOUR: 'it returns false'. Refute it at one input. -/
def fnAuditWrong : ChangeSpec := { name := "fnAudit", fn := fun _ => fun
  | [d] => { results := [.lit (.bool false)], args := [d] }
  | _ => none }
def FnAuditWrongFalsely : Prop := fnAuditRow.holds Try.pinned (OpenSpec.ofChange fnAuditWrong)

/- THE SECOND FORM. 'bulk': how many values and letters a reading holds, each counted each time it is reached (what is shared counts as often as it is met; a slice's spare places count too). A statement '..UptoSaid' is the law's where the arguments, and the package variables that the reading takes, are together of bulk at most 1048576: NARROWER than '..Said'. Prove '..Said' where nothing that the law and all that it calls make is longer than what came in: it says more and counts as full. Else prove '..UptoSaid'. A law counts once. -/
mutual
def uptoBulk {H : Type} : DataW H → Nat
  | .lit (.string bytes) => bytes.length + 1
  | .lit _ => 1
  | .nil => 1
  | .ptr d => uptoBulk d + 1
  | .slice elems spare => uptoBulkAll elems + uptoBulkAll spare + 1
  | .agg parts => uptoBulkAll parts + 1
  | .iface _ d => uptoBulk d + 1
  | .map entries => uptoBulkEntries entries + 1
  | .held _ => 1
def uptoBulkAll {H : Type} : List (DataW H) → Nat
  | [] => 0
  | d :: r => uptoBulk d + uptoBulkAll r
def uptoBulkEntries {H : Type} : List (Lit × DataW H) → Nat
  | [] => 0
  | x :: r => uptoBulkEntry x + uptoBulkEntries r
def uptoBulkEntry {H : Type} : Lit × DataW H → Nat
  | (.string bytes, d) => bytes.length + uptoBulk d + 1
  | (_, d) => uptoBulk d + 1
 end
def uptoSmall : (H : Type) → List (DataW H) → Bool := fun _ ds => decide (uptoBulkAll ds ≤ 1048576)
def OpenSpec.upto (s : _root_.Go.ChangeSpec) : _root_.Go.OpenSpec := { _root_.Go.OpenSpec.ofChange s with cond := some uptoSmall }

/-- 'laws.FnSema', WHERE WHAT IT READS IS OF BULK AT MOST 1048576: true; the input reads as it did. -/
def fnSemaUptoRow : OpenClaim := { program := "ytbacblphkppigaa", sum := "66cbf45fc3465251af74d435def182c20d0893c3e1636aeaee59a3b70ad0f49e", func := "loop.example/g00709/laws.FnSema", spec := "fnSema", apart := false, narrowed := true }
def FnSemaUptoSaid : Prop := fnSemaUptoRow.holds Try.pinned (OpenSpec.upto fnSemaSpec)

/-- 'laws.FnRing', WHERE WHAT IT READS IS OF BULK AT MOST 1048576: true; the input reads as it did. -/
def fnRingUptoRow : OpenClaim := { program := "ytbacblphkppigaa", sum := "66cbf45fc3465251af74d435def182c20d0893c3e1636aeaee59a3b70ad0f49e", func := "loop.example/g00709/laws.FnRing", spec := "fnRing", apart := false, narrowed := true }
def FnRingUptoSaid : Prop := fnRingUptoRow.holds Try.pinned (OpenSpec.upto fnRingSpec)

/-- 'laws.FnRecordTold', WHERE WHAT IT READS IS OF BULK AT MOST 1048576: true; the input reads as it did. -/
def fnRecordToldUptoRow : OpenClaim := { program := "ytbacblphkppigaa", sum := "66cbf45fc3465251af74d435def182c20d0893c3e1636aeaee59a3b70ad0f49e", func := "loop.example/g00709/laws.FnRecordTold", spec := "fnRecordTold", unfollowed := true, recurses := true, apart := false, narrowed := true }
def FnRecordToldUptoSaid : Prop := fnRecordToldUptoRow.holds Try.pinned (OpenSpec.upto fnRecordToldSpec)

/-- 'laws.FnExactLogOf', WHERE WHAT IT READS IS OF BULK AT MOST 1048576: true; the input reads as it did. -/
def fnExactLogOfUptoRow : OpenClaim := { program := "ytbacblphkppigaa", sum := "66cbf45fc3465251af74d435def182c20d0893c3e1636aeaee59a3b70ad0f49e", func := "loop.example/g00709/laws.FnExactLogOf", spec := "fnExactLogOf", unfollowed := true, recurses := true, apart := false, narrowed := true }
def FnExactLogOfUptoSaid : Prop := fnExactLogOfUptoRow.holds Try.pinned (OpenSpec.upto fnExactLogOfSpec)

/-- 'laws.FnExactLogRead', WHERE WHAT IT READS IS OF BULK AT MOST 1048576: true; the input reads as it did. -/
def fnExactLogReadUptoRow : OpenClaim := { program := "ytbacblphkppigaa", sum := "66cbf45fc3465251af74d435def182c20d0893c3e1636aeaee59a3b70ad0f49e", func := "loop.example/g00709/laws.FnExactLogRead", spec := "fnExactLogRead", unfollowed := true, recurses := true, apart := false, narrowed := true }
def FnExactLogReadUptoSaid : Prop := fnExactLogReadUptoRow.holds Try.pinned (OpenSpec.upto fnExactLogReadSpec)

/-- 'laws.FnMemText', WHERE WHAT IT READS IS OF BULK AT MOST 1048576: true; the input reads as it did. -/
def fnMemTextUptoRow : OpenClaim := { program := "ytbacblphkppigaa", sum := "66cbf45fc3465251af74d435def182c20d0893c3e1636aeaee59a3b70ad0f49e", func := "loop.example/g00709/laws.FnMemText", spec := "fnMemText", unfollowed := true, recurses := true, apart := false, narrowed := true }
def FnMemTextUptoSaid : Prop := fnMemTextUptoRow.holds Try.pinned (OpenSpec.upto fnMemTextSpec)

/-- 'laws.FnScatter', WHERE WHAT IT READS IS OF BULK AT MOST 1048576: true; the input reads as it did. -/
def fnScatterUptoRow : OpenClaim := { program := "ytbacblphkppigaa", sum := "66cbf45fc3465251af74d435def182c20d0893c3e1636aeaee59a3b70ad0f49e", func := "loop.example/g00709/laws.FnScatter", spec := "fnScatter", unfollowed := true, recurses := true, apart := false, narrowed := true }
def FnScatterUptoSaid : Prop := fnScatterUptoRow.holds Try.pinned (OpenSpec.upto fnScatterSpec)

/-- 'laws.FnUses', WHERE WHAT IT READS IS OF BULK AT MOST 1048576: true; the input reads as it did. -/
def fnUsesUptoRow : OpenClaim := { program := "ytbacblphkppigaa", sum := "66cbf45fc3465251af74d435def182c20d0893c3e1636aeaee59a3b70ad0f49e", func := "loop.example/g00709/laws.FnUses", spec := "fnUses", unfollowed := true, recurses := true, apart := false, narrowed := true }
def FnUsesUptoSaid : Prop := fnUsesUptoRow.holds Try.pinned (OpenSpec.upto fnUsesSpec)

/-- 'laws.FnLongestFree', WHERE WHAT IT READS IS OF BULK AT MOST 1048576: true; the input reads as it did. -/
def fnLongestFreeUptoRow : OpenClaim := { program := "ytbacblphkppigaa", sum := "66cbf45fc3465251af74d435def182c20d0893c3e1636aeaee59a3b70ad0f49e", func := "loop.example/g00709/laws.FnLongestFree", spec := "fnLongestFree", unfollowed := true, recurses := true, apart := false, narrowed := true }
def FnLongestFreeUptoSaid : Prop := fnLongestFreeUptoRow.holds Try.pinned (OpenSpec.upto fnLongestFreeSpec)

/-- 'laws.FnAudit', WHERE WHAT IT READS IS OF BULK AT MOST 1048576: true; the input reads as it did. -/
def fnAuditUptoRow : OpenClaim := { program := "ytbacblphkppigaa", sum := "66cbf45fc3465251af74d435def182c20d0893c3e1636aeaee59a3b70ad0f49e", func := "loop.example/g00709/laws.FnAudit", spec := "fnAudit", unfollowed := true, recurses := true, apart := false, narrowed := true }
def FnAuditUptoSaid : Prop := fnAuditUptoRow.holds Try.pinned (OpenSpec.upto fnAuditSpec)

end Rows
end Go.Proofs.Ytbacblphkppigaa
