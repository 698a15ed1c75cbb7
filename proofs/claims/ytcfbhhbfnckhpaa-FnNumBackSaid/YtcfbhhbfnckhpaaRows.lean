/-
  No cell of these rows narrows 'for every input' (looked for: loops, veiled, ifaces, maps, wideKeys, modest, calm, conditions, laid).
  DERIVED. THE GIVEN ROWS OF THIS SEAT. 8 by the template 'for every input the law returns true; each argument reads behind the call as it read before'; 0 by the template 'total and deterministic' (their statements: YtcfbhhbfnckhpaaTotals.lean).
  GIVEN WITH THE SEED: the statements are not yours to turn. If you find one false, say at which input.
  Laid BY PROGRAM, IN A SANDBOX (cutbox-rows.mjs): the forced cells as the released guide's own fill.sh prints them over the translation 4752c6538c2e9baa… (all of the seat's roots in one cut). By AI agents, Wed Nov 11 2026. No macro, syntax, notation, axiom, sorry.
-/
import Derived.Test.YtcfbhhbfnckhpaaChecked
import GoSem.Claim
import GoSem.ClaimJoined
import GoSem.ClaimMapViews
import Derived.JoinedTies
import Derived.KernelRfl
namespace Go.Proofs.Ytcfbhhbfnckhpaa
/- THE CELL 'sum', in the pinned program and in every row, IS THE sha256 OF THE DUMP (.gsa) THAT YtcfbhhbfnckhpaaProg.lean LOADS. Nothing in Lean hashes anything: it is a label: what it is worth is what the hold of that sum in a sandbox is worth. -/
noncomputable def Try.pinned : Pinned := { name := "ytcfbhhbfnckhpaa", sum := "4752c6538c2e9baa99b09066c602baa51d087cbb7d8c37967317a63c1e8e6fe5", checked := Try.checked }
namespace Rows
def none {H : Type} : Left H := { results := [], args := [] }

/-- 'laws.FnExactNumBytes': WHATEVER THE INPUT: true; the input reads as it did. -/
def fnExactNumBytesSpec : ChangeSpec := { name := "fnExactNumBytes", fn := fun _ => fun
  | [d] => { results := [.lit (.bool true)], args := [d] }
  | _ => none }
def fnExactNumBytesRow : OpenClaim := { program := "ytcfbhhbfnckhpaa", sum := "4752c6538c2e9baa99b09066c602baa51d087cbb7d8c37967317a63c1e8e6fe5", func := "loop.example/g00709/laws.FnExactNumBytes", spec := "fnExactNumBytes", apart := false }
def FnExactNumBytesSaid : Prop := fnExactNumBytesRow.holds Try.pinned (OpenSpec.ofChange fnExactNumBytesSpec)

/-- ITS FALSE NEIGHBOUR: 'it returns false'. Refute it at one input. -/
def fnExactNumBytesWrong : ChangeSpec := { name := "fnExactNumBytes", fn := fun _ => fun
  | [d] => { results := [.lit (.bool false)], args := [d] }
  | _ => none }
def FnExactNumBytesWrongFalsely : Prop := fnExactNumBytesRow.holds Try.pinned (OpenSpec.ofChange fnExactNumBytesWrong)

/-- 'laws.FnExactNumRead': WHATEVER THE INPUT: true; the input reads as it did. -/
def fnExactNumReadSpec : ChangeSpec := { name := "fnExactNumRead", fn := fun _ => fun
  | [d1, d2] => { results := [.lit (.bool true)], args := [d1, d2] }
  | _ => none }
def fnExactNumReadRow : OpenClaim := { program := "ytcfbhhbfnckhpaa", sum := "4752c6538c2e9baa99b09066c602baa51d087cbb7d8c37967317a63c1e8e6fe5", func := "loop.example/g00709/laws.FnExactNumRead", spec := "fnExactNumRead", apart := false }
def FnExactNumReadSaid : Prop := fnExactNumReadRow.holds Try.pinned (OpenSpec.ofChange fnExactNumReadSpec)

/-- ITS FALSE NEIGHBOUR: 'it returns false'. Refute it at one input. -/
def fnExactNumReadWrong : ChangeSpec := { name := "fnExactNumRead", fn := fun _ => fun
  | [d1, d2] => { results := [.lit (.bool false)], args := [d1, d2] }
  | _ => none }
def FnExactNumReadWrongFalsely : Prop := fnExactNumReadRow.holds Try.pinned (OpenSpec.ofChange fnExactNumReadWrong)

/-- 'laws.FnNumBack': WHATEVER THE INPUT: true; the input reads as it did. -/
def fnNumBackSpec : ChangeSpec := { name := "fnNumBack", fn := fun _ => fun
  | [d] => { results := [.lit (.bool true)], args := [d] }
  | _ => none }
def fnNumBackRow : OpenClaim := { program := "ytcfbhhbfnckhpaa", sum := "4752c6538c2e9baa99b09066c602baa51d087cbb7d8c37967317a63c1e8e6fe5", func := "loop.example/g00709/laws.FnNumBack", spec := "fnNumBack", apart := false }
def FnNumBackSaid : Prop := fnNumBackRow.holds Try.pinned (OpenSpec.ofChange fnNumBackSpec)

/-- ITS FALSE NEIGHBOUR: 'it returns false'. Refute it at one input. -/
def fnNumBackWrong : ChangeSpec := { name := "fnNumBack", fn := fun _ => fun
  | [d] => { results := [.lit (.bool false)], args := [d] }
  | _ => none }
def FnNumBackWrongFalsely : Prop := fnNumBackRow.holds Try.pinned (OpenSpec.ofChange fnNumBackWrong)

/-- 'laws.FnExactEventBytes': WHATEVER THE INPUT: true; the input reads as it did. -/
def fnExactEventBytesSpec : ChangeSpec := { name := "fnExactEventBytes", fn := fun _ => fun
  | [d] => { results := [.lit (.bool true)], args := [d] }
  | _ => none }
def fnExactEventBytesRow : OpenClaim := { program := "ytcfbhhbfnckhpaa", sum := "4752c6538c2e9baa99b09066c602baa51d087cbb7d8c37967317a63c1e8e6fe5", func := "loop.example/g00709/laws.FnExactEventBytes", spec := "fnExactEventBytes", unfollowed := true, recurses := true, apart := false }
def FnExactEventBytesSaid : Prop := fnExactEventBytesRow.holds Try.pinned (OpenSpec.ofChange fnExactEventBytesSpec)

/-- ITS FALSE NEIGHBOUR: 'it returns false'. Refute it at one input. -/
def fnExactEventBytesWrong : ChangeSpec := { name := "fnExactEventBytes", fn := fun _ => fun
  | [d] => { results := [.lit (.bool false)], args := [d] }
  | _ => none }
def FnExactEventBytesWrongFalsely : Prop := fnExactEventBytesRow.holds Try.pinned (OpenSpec.ofChange fnExactEventBytesWrong)

/-- 'laws.FnExactEventRead': WHATEVER THE INPUT: true; the input reads as it did. -/
def fnExactEventReadSpec : ChangeSpec := { name := "fnExactEventRead", fn := fun _ => fun
  | [d] => { results := [.lit (.bool true)], args := [d] }
  | _ => none }
def fnExactEventReadRow : OpenClaim := { program := "ytcfbhhbfnckhpaa", sum := "4752c6538c2e9baa99b09066c602baa51d087cbb7d8c37967317a63c1e8e6fe5", func := "loop.example/g00709/laws.FnExactEventRead", spec := "fnExactEventRead", unfollowed := true, recurses := true, apart := false }
def FnExactEventReadSaid : Prop := fnExactEventReadRow.holds Try.pinned (OpenSpec.ofChange fnExactEventReadSpec)

/-- ITS FALSE NEIGHBOUR: 'it returns false'. Refute it at one input. -/
def fnExactEventReadWrong : ChangeSpec := { name := "fnExactEventRead", fn := fun _ => fun
  | [d] => { results := [.lit (.bool false)], args := [d] }
  | _ => none }
def FnExactEventReadWrongFalsely : Prop := fnExactEventReadRow.holds Try.pinned (OpenSpec.ofChange fnExactEventReadWrong)

/-- 'laws.FnExactLogOf': WHATEVER THE INPUT: true; the input reads as it did. -/
def fnExactLogOfSpec : ChangeSpec := { name := "fnExactLogOf", fn := fun _ => fun
  | [d] => { results := [.lit (.bool true)], args := [d] }
  | _ => none }
def fnExactLogOfRow : OpenClaim := { program := "ytcfbhhbfnckhpaa", sum := "4752c6538c2e9baa99b09066c602baa51d087cbb7d8c37967317a63c1e8e6fe5", func := "loop.example/g00709/laws.FnExactLogOf", spec := "fnExactLogOf", unfollowed := true, recurses := true, apart := false }
def FnExactLogOfSaid : Prop := fnExactLogOfRow.holds Try.pinned (OpenSpec.ofChange fnExactLogOfSpec)

/-- ITS FALSE NEIGHBOUR: 'it returns false'. Refute it at one input. -/
def fnExactLogOfWrong : ChangeSpec := { name := "fnExactLogOf", fn := fun _ => fun
  | [d] => { results := [.lit (.bool false)], args := [d] }
  | _ => none }
def FnExactLogOfWrongFalsely : Prop := fnExactLogOfRow.holds Try.pinned (OpenSpec.ofChange fnExactLogOfWrong)

/-- 'laws.FnExactLogRead': WHATEVER THE INPUT: true; the input reads as it did. -/
def fnExactLogReadSpec : ChangeSpec := { name := "fnExactLogRead", fn := fun _ => fun
  | [d] => { results := [.lit (.bool true)], args := [d] }
  | _ => none }
def fnExactLogReadRow : OpenClaim := { program := "ytcfbhhbfnckhpaa", sum := "4752c6538c2e9baa99b09066c602baa51d087cbb7d8c37967317a63c1e8e6fe5", func := "loop.example/g00709/laws.FnExactLogRead", spec := "fnExactLogRead", unfollowed := true, recurses := true, apart := false }
def FnExactLogReadSaid : Prop := fnExactLogReadRow.holds Try.pinned (OpenSpec.ofChange fnExactLogReadSpec)

/-- ITS FALSE NEIGHBOUR: 'it returns false'. Refute it at one input. -/
def fnExactLogReadWrong : ChangeSpec := { name := "fnExactLogRead", fn := fun _ => fun
  | [d] => { results := [.lit (.bool false)], args := [d] }
  | _ => none }
def FnExactLogReadWrongFalsely : Prop := fnExactLogReadRow.holds Try.pinned (OpenSpec.ofChange fnExactLogReadWrong)

/-- 'laws.FnRecordTold': WHATEVER THE INPUT: true; the input reads as it did. -/
def fnRecordToldSpec : ChangeSpec := { name := "fnRecordTold", fn := fun _ => fun
  | [d] => { results := [.lit (.bool true)], args := [d] }
  | _ => none }
def fnRecordToldRow : OpenClaim := { program := "ytcfbhhbfnckhpaa", sum := "4752c6538c2e9baa99b09066c602baa51d087cbb7d8c37967317a63c1e8e6fe5", func := "loop.example/g00709/laws.FnRecordTold", spec := "fnRecordTold", unfollowed := true, recurses := true, apart := false }
def FnRecordToldSaid : Prop := fnRecordToldRow.holds Try.pinned (OpenSpec.ofChange fnRecordToldSpec)

/-- ITS FALSE NEIGHBOUR: 'it returns false'. Refute it at one input. -/
def fnRecordToldWrong : ChangeSpec := { name := "fnRecordTold", fn := fun _ => fun
  | [d] => { results := [.lit (.bool false)], args := [d] }
  | _ => none }
def FnRecordToldWrongFalsely : Prop := fnRecordToldRow.holds Try.pinned (OpenSpec.ofChange fnRecordToldWrong)

/- THE SECOND FORM. 'bulk': how many values and letters a reading holds, each counted each time it is reached (what is shared counts as often as it is met; a slice's spare places count too). A statement '..UptoSaid' is the law's where the arguments, and the package variables that the reading takes, are together of bulk at most 1048576: NARROWER than '..Said'. Prove '..Said' where nothing that the law and all that it calls make is longer than what came in: it says more and counts as full. Else prove '..UptoSaid'. A law counts once. -/
mutual
def uptoBulk {H : Type} : DataW H → Nat
  | .lit (.string bytes) => bytes.length + 1
  | .lit _ => 1
  | .nil => 1
  | .ptr d => uptoBulk d + 1
  | .slice elems spare => uptoBulkAll elems + uptoBulkAll spare + 1
  | .agg parts => uptoBulkAll parts + 1
  | .iface _ d => uptoBulk d + 1
  | .map entries => uptoBulkEntries entries + 1
  | .held _ => 1
def uptoBulkAll {H : Type} : List (DataW H) → Nat
  | [] => 0
  | d :: r => uptoBulk d + uptoBulkAll r
def uptoBulkEntries {H : Type} : List (Lit × DataW H) → Nat
  | [] => 0
  | x :: r => uptoBulkEntry x + uptoBulkEntries r
def uptoBulkEntry {H : Type} : Lit × DataW H → Nat
  | (.string bytes, d) => bytes.length + uptoBulk d + 1
  | (_, d) => uptoBulk d + 1
 end
def uptoSmall : (H : Type) → List (DataW H) → Bool := fun _ ds => decide (uptoBulkAll ds ≤ 1048576)
def OpenSpec.upto (s : _root_.Go.ChangeSpec) : _root_.Go.OpenSpec := { _root_.Go.OpenSpec.ofChange s with cond := some uptoSmall }

/-- 'laws.FnExactNumBytes', WHERE WHAT IT READS IS OF BULK AT MOST 1048576: true; the input reads as it did. -/
def fnExactNumBytesUptoRow : OpenClaim := { program := "ytcfbhhbfnckhpaa", sum := "4752c6538c2e9baa99b09066c602baa51d087cbb7d8c37967317a63c1e8e6fe5", func := "loop.example/g00709/laws.FnExactNumBytes", spec := "fnExactNumBytes", apart := false, narrowed := true }
def FnExactNumBytesUptoSaid : Prop := fnExactNumBytesUptoRow.holds Try.pinned (OpenSpec.upto fnExactNumBytesSpec)

/-- 'laws.FnExactNumRead', WHERE WHAT IT READS IS OF BULK AT MOST 1048576: true; the input reads as it did. -/
def fnExactNumReadUptoRow : OpenClaim := { program := "ytcfbhhbfnckhpaa", sum := "4752c6538c2e9baa99b09066c602baa51d087cbb7d8c37967317a63c1e8e6fe5", func := "loop.example/g00709/laws.FnExactNumRead", spec := "fnExactNumRead", apart := false, narrowed := true }
def FnExactNumReadUptoSaid : Prop := fnExactNumReadUptoRow.holds Try.pinned (OpenSpec.upto fnExactNumReadSpec)

/-- 'laws.FnNumBack', WHERE WHAT IT READS IS OF BULK AT MOST 1048576: true; the input reads as it did. -/
def fnNumBackUptoRow : OpenClaim := { program := "ytcfbhhbfnckhpaa", sum := "4752c6538c2e9baa99b09066c602baa51d087cbb7d8c37967317a63c1e8e6fe5", func := "loop.example/g00709/laws.FnNumBack", spec := "fnNumBack", apart := false, narrowed := true }
def FnNumBackUptoSaid : Prop := fnNumBackUptoRow.holds Try.pinned (OpenSpec.upto fnNumBackSpec)

/-- 'laws.FnExactEventBytes', WHERE WHAT IT READS IS OF BULK AT MOST 1048576: true; the input reads as it did. -/
def fnExactEventBytesUptoRow : OpenClaim := { program := "ytcfbhhbfnckhpaa", sum := "4752c6538c2e9baa99b09066c602baa51d087cbb7d8c37967317a63c1e8e6fe5", func := "loop.example/g00709/laws.FnExactEventBytes", spec := "fnExactEventBytes", unfollowed := true, recurses := true, apart := false, narrowed := true }
def FnExactEventBytesUptoSaid : Prop := fnExactEventBytesUptoRow.holds Try.pinned (OpenSpec.upto fnExactEventBytesSpec)

/-- 'laws.FnExactEventRead', WHERE WHAT IT READS IS OF BULK AT MOST 1048576: true; the input reads as it did. -/
def fnExactEventReadUptoRow : OpenClaim := { program := "ytcfbhhbfnckhpaa", sum := "4752c6538c2e9baa99b09066c602baa51d087cbb7d8c37967317a63c1e8e6fe5", func := "loop.example/g00709/laws.FnExactEventRead", spec := "fnExactEventRead", unfollowed := true, recurses := true, apart := false, narrowed := true }
def FnExactEventReadUptoSaid : Prop := fnExactEventReadUptoRow.holds Try.pinned (OpenSpec.upto fnExactEventReadSpec)

/-- 'laws.FnExactLogOf', WHERE WHAT IT READS IS OF BULK AT MOST 1048576: true; the input reads as it did. -/
def fnExactLogOfUptoRow : OpenClaim := { program := "ytcfbhhbfnckhpaa", sum := "4752c6538c2e9baa99b09066c602baa51d087cbb7d8c37967317a63c1e8e6fe5", func := "loop.example/g00709/laws.FnExactLogOf", spec := "fnExactLogOf", unfollowed := true, recurses := true, apart := false, narrowed := true }
def FnExactLogOfUptoSaid : Prop := fnExactLogOfUptoRow.holds Try.pinned (OpenSpec.upto fnExactLogOfSpec)

/-- 'laws.FnExactLogRead', WHERE WHAT IT READS IS OF BULK AT MOST 1048576: true; the input reads as it did. -/
def fnExactLogReadUptoRow : OpenClaim := { program := "ytcfbhhbfnckhpaa", sum := "4752c6538c2e9baa99b09066c602baa51d087cbb7d8c37967317a63c1e8e6fe5", func := "loop.example/g00709/laws.FnExactLogRead", spec := "fnExactLogRead", unfollowed := true, recurses := true, apart := false, narrowed := true }
def FnExactLogReadUptoSaid : Prop := fnExactLogReadUptoRow.holds Try.pinned (OpenSpec.upto fnExactLogReadSpec)

/-- 'laws.FnRecordTold', WHERE WHAT IT READS IS OF BULK AT MOST 1048576: true; the input reads as it did. -/
def fnRecordToldUptoRow : OpenClaim := { program := "ytcfbhhbfnckhpaa", sum := "4752c6538c2e9baa99b09066c602baa51d087cbb7d8c37967317a63c1e8e6fe5", func := "loop.example/g00709/laws.FnRecordTold", spec := "fnRecordTold", unfollowed := true, recurses := true, apart := false, narrowed := true }
def FnRecordToldUptoSaid : Prop := fnRecordToldUptoRow.holds Try.pinned (OpenSpec.upto fnRecordToldSpec)

end Rows
end Go.Proofs.Ytcfbhhbfnckhpaa
