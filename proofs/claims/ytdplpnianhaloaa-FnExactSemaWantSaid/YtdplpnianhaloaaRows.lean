/-
  No cell of these rows narrows 'for every input' (looked for: loops, veiled, ifaces, maps, wideKeys, modest, calm, conditions, laid).
  DERIVED. THE GIVEN ROWS OF THIS SEAT. 10 by the template 'for every input the law returns true; each argument reads behind the call as it read before'; 0 by the template 'total and deterministic' (their statements: YtdplpnianhaloaaTotals.lean).
  GIVEN WITH THE SEED: the statements are not yours to turn. If you find one false, say at which input.
  Laid BY PROGRAM, IN A SANDBOX (cutbox-rows.mjs): the forced cells as the released guide's own fill.sh prints them over the translation e02350e23b73e7e1… (all of the seat's roots in one cut). By AI agents, Wed Nov 11 2026. No macro, syntax, notation, axiom, sorry.
-/
import Derived.Test.YtdplpnianhaloaaChecked
import GoSem.Claim
import GoSem.ClaimJoined
import GoSem.ClaimMapViews
import Derived.JoinedTies
import Derived.KernelRfl
namespace Go.Proofs.Ytdplpnianhaloaa
/- THE CELL 'sum', in the pinned program and in every row, IS THE sha256 OF THE DUMP (.gsa) THAT YtdplpnianhaloaaProg.lean LOADS. Nothing in Lean hashes anything: it is a label: what it is worth is what the hold of that sum in a sandbox is worth. -/
noncomputable def Try.pinned : Pinned := { name := "ytdplpnianhaloaa", sum := "e02350e23b73e7e11dc4fecbf330a031a7b0b3950fb8d4ceb87e5e7a246d2e3a", checked := Try.checked }
namespace Rows
def none {H : Type} : Left H := { results := [], args := [] }

/-- 'laws.FnExactSemaOk': WHATEVER THE INPUT: true; the input reads as it did. -/
def fnExactSemaOkSpec : ChangeSpec := { name := "fnExactSemaOk", fn := fun _ => fun
  | [d] => { results := [.lit (.bool true)], args := [d] }
  | _ => none }
def fnExactSemaOkRow : OpenClaim := { program := "ytdplpnianhaloaa", sum := "e02350e23b73e7e11dc4fecbf330a031a7b0b3950fb8d4ceb87e5e7a246d2e3a", func := "loop.example/g00709/laws.FnExactSemaOk", spec := "fnExactSemaOk", apart := false }
def FnExactSemaOkSaid : Prop := fnExactSemaOkRow.holds Try.pinned (OpenSpec.ofChange fnExactSemaOkSpec)

/-- ITS FALSE NEIGHBOUR: 'it returns false'. Refute it at one input. -/
def fnExactSemaOkWrong : ChangeSpec := { name := "fnExactSemaOk", fn := fun _ => fun
  | [d] => { results := [.lit (.bool false)], args := [d] }
  | _ => none }
def FnExactSemaOkWrongFalsely : Prop := fnExactSemaOkRow.holds Try.pinned (OpenSpec.ofChange fnExactSemaOkWrong)

/-- 'laws.FnExactSemaLeft': WHATEVER THE INPUT: true; the input reads as it did. -/
def fnExactSemaLeftSpec : ChangeSpec := { name := "fnExactSemaLeft", fn := fun _ => fun
  | [d] => { results := [.lit (.bool true)], args := [d] }
  | _ => none }
def fnExactSemaLeftRow : OpenClaim := { program := "ytdplpnianhaloaa", sum := "e02350e23b73e7e11dc4fecbf330a031a7b0b3950fb8d4ceb87e5e7a246d2e3a", func := "loop.example/g00709/laws.FnExactSemaLeft", spec := "fnExactSemaLeft", apart := false }
def FnExactSemaLeftSaid : Prop := fnExactSemaLeftRow.holds Try.pinned (OpenSpec.ofChange fnExactSemaLeftSpec)

/-- ITS FALSE NEIGHBOUR: 'it returns false'. Refute it at one input. -/
def fnExactSemaLeftWrong : ChangeSpec := { name := "fnExactSemaLeft", fn := fun _ => fun
  | [d] => { results := [.lit (.bool false)], args := [d] }
  | _ => none }
def FnExactSemaLeftWrongFalsely : Prop := fnExactSemaLeftRow.holds Try.pinned (OpenSpec.ofChange fnExactSemaLeftWrong)

/-- 'laws.FnExactSemaPack': WHATEVER THE INPUT: true; the input reads as it did. -/
def fnExactSemaPackSpec : ChangeSpec := { name := "fnExactSemaPack", fn := fun _ => fun
  | [d] => { results := [.lit (.bool true)], args := [d] }
  | _ => none }
def fnExactSemaPackRow : OpenClaim := { program := "ytdplpnianhaloaa", sum := "e02350e23b73e7e11dc4fecbf330a031a7b0b3950fb8d4ceb87e5e7a246d2e3a", func := "loop.example/g00709/laws.FnExactSemaPack", spec := "fnExactSemaPack", apart := false }
def FnExactSemaPackSaid : Prop := fnExactSemaPackRow.holds Try.pinned (OpenSpec.ofChange fnExactSemaPackSpec)

/-- ITS FALSE NEIGHBOUR: 'it returns false'. Refute it at one input. -/
def fnExactSemaPackWrong : ChangeSpec := { name := "fnExactSemaPack", fn := fun _ => fun
  | [d] => { results := [.lit (.bool false)], args := [d] }
  | _ => none }
def FnExactSemaPackWrongFalsely : Prop := fnExactSemaPackRow.holds Try.pinned (OpenSpec.ofChange fnExactSemaPackWrong)

/-- 'laws.FnExactSemaRead': WHATEVER THE INPUT: true; the input reads as it did. -/
def fnExactSemaReadSpec : ChangeSpec := { name := "fnExactSemaRead", fn := fun _ => fun
  | [d] => { results := [.lit (.bool true)], args := [d] }
  | _ => none }
def fnExactSemaReadRow : OpenClaim := { program := "ytdplpnianhaloaa", sum := "e02350e23b73e7e11dc4fecbf330a031a7b0b3950fb8d4ceb87e5e7a246d2e3a", func := "loop.example/g00709/laws.FnExactSemaRead", spec := "fnExactSemaRead", apart := false }
def FnExactSemaReadSaid : Prop := fnExactSemaReadRow.holds Try.pinned (OpenSpec.ofChange fnExactSemaReadSpec)

/-- ITS FALSE NEIGHBOUR: 'it returns false'. Refute it at one input. -/
def fnExactSemaReadWrong : ChangeSpec := { name := "fnExactSemaRead", fn := fun _ => fun
  | [d] => { results := [.lit (.bool false)], args := [d] }
  | _ => none }
def FnExactSemaReadWrongFalsely : Prop := fnExactSemaReadRow.holds Try.pinned (OpenSpec.ofChange fnExactSemaReadWrong)

/-- 'laws.FnExactSemaPost': WHATEVER THE INPUT: true; the input reads as it did. -/
def fnExactSemaPostSpec : ChangeSpec := { name := "fnExactSemaPost", fn := fun _ => fun
  | [d1, d2] => { results := [.lit (.bool true)], args := [d1, d2] }
  | _ => none }
def fnExactSemaPostRow : OpenClaim := { program := "ytdplpnianhaloaa", sum := "e02350e23b73e7e11dc4fecbf330a031a7b0b3950fb8d4ceb87e5e7a246d2e3a", func := "loop.example/g00709/laws.FnExactSemaPost", spec := "fnExactSemaPost", apart := false }
def FnExactSemaPostSaid : Prop := fnExactSemaPostRow.holds Try.pinned (OpenSpec.ofChange fnExactSemaPostSpec)

/-- ITS FALSE NEIGHBOUR: 'it returns false'. Refute it at one input. -/
def fnExactSemaPostWrong : ChangeSpec := { name := "fnExactSemaPost", fn := fun _ => fun
  | [d1, d2] => { results := [.lit (.bool false)], args := [d1, d2] }
  | _ => none }
def FnExactSemaPostWrongFalsely : Prop := fnExactSemaPostRow.holds Try.pinned (OpenSpec.ofChange fnExactSemaPostWrong)

/-- 'laws.FnExactSemaServe': WHATEVER THE INPUT: true; the input reads as it did. -/
def fnExactSemaServeSpec : ChangeSpec := { name := "fnExactSemaServe", fn := fun _ => fun
  | [d1, d2] => { results := [.lit (.bool true)], args := [d1, d2] }
  | _ => none }
def fnExactSemaServeRow : OpenClaim := { program := "ytdplpnianhaloaa", sum := "e02350e23b73e7e11dc4fecbf330a031a7b0b3950fb8d4ceb87e5e7a246d2e3a", func := "loop.example/g00709/laws.FnExactSemaServe", spec := "fnExactSemaServe", apart := false }
def FnExactSemaServeSaid : Prop := fnExactSemaServeRow.holds Try.pinned (OpenSpec.ofChange fnExactSemaServeSpec)

/-- ITS FALSE NEIGHBOUR: 'it returns false'. Refute it at one input. -/
def fnExactSemaServeWrong : ChangeSpec := { name := "fnExactSemaServe", fn := fun _ => fun
  | [d1, d2] => { results := [.lit (.bool false)], args := [d1, d2] }
  | _ => none }
def FnExactSemaServeWrongFalsely : Prop := fnExactSemaServeRow.holds Try.pinned (OpenSpec.ofChange fnExactSemaServeWrong)

/-- 'laws.FnExactSemaWant': WHATEVER THE INPUT: true; the input reads as it did. -/
def fnExactSemaWantSpec : ChangeSpec := { name := "fnExactSemaWant", fn := fun _ => fun
  | [d1, d2, d3] => { results := [.lit (.bool true)], args := [d1, d2, d3] }
  | _ => none }
def fnExactSemaWantRow : OpenClaim := { program := "ytdplpnianhaloaa", sum := "e02350e23b73e7e11dc4fecbf330a031a7b0b3950fb8d4ceb87e5e7a246d2e3a", func := "loop.example/g00709/laws.FnExactSemaWant", spec := "fnExactSemaWant", apart := false }
def FnExactSemaWantSaid : Prop := fnExactSemaWantRow.holds Try.pinned (OpenSpec.ofChange fnExactSemaWantSpec)

/-- ITS FALSE NEIGHBOUR: 'it returns false'. Refute it at one input. -/
def fnExactSemaWantWrong : ChangeSpec := { name := "fnExactSemaWant", fn := fun _ => fun
  | [d1, d2, d3] => { results := [.lit (.bool false)], args := [d1, d2, d3] }
  | _ => none }
def FnExactSemaWantWrongFalsely : Prop := fnExactSemaWantRow.holds Try.pinned (OpenSpec.ofChange fnExactSemaWantWrong)

/-- 'laws.FnSema': WHATEVER THE INPUT: true; the input reads as it did. -/
def fnSemaSpec : ChangeSpec := { name := "fnSema", fn := fun _ => fun
  | [d] => { results := [.lit (.bool true)], args := [d] }
  | _ => none }
def fnSemaRow : OpenClaim := { program := "ytdplpnianhaloaa", sum := "e02350e23b73e7e11dc4fecbf330a031a7b0b3950fb8d4ceb87e5e7a246d2e3a", func := "loop.example/g00709/laws.FnSema", spec := "fnSema", apart := false }
def FnSemaSaid : Prop := fnSemaRow.holds Try.pinned (OpenSpec.ofChange fnSemaSpec)

/-- ITS FALSE NEIGHBOUR: 'it returns false'. Refute it at one input. -/
def fnSemaWrong : ChangeSpec := { name := "fnSema", fn := fun _ => fun
  | [d] => { results := [.lit (.bool false)], args := [d] }
  | _ => none }
def FnSemaWrongFalsely : Prop := fnSemaRow.holds Try.pinned (OpenSpec.ofChange fnSemaWrong)

/-- 'laws.FnSemaPost': WHATEVER THE INPUT: true; the input reads as it did. -/
def fnSemaPostSpec : ChangeSpec := { name := "fnSemaPost", fn := fun _ => fun
  | [d] => { results := [.lit (.bool true)], args := [d] }
  | _ => none }
def fnSemaPostRow : OpenClaim := { program := "ytdplpnianhaloaa", sum := "e02350e23b73e7e11dc4fecbf330a031a7b0b3950fb8d4ceb87e5e7a246d2e3a", func := "loop.example/g00709/laws.FnSemaPost", spec := "fnSemaPost", apart := false }
def FnSemaPostSaid : Prop := fnSemaPostRow.holds Try.pinned (OpenSpec.ofChange fnSemaPostSpec)

/-- ITS FALSE NEIGHBOUR: 'it returns false'. Refute it at one input. -/
def fnSemaPostWrong : ChangeSpec := { name := "fnSemaPost", fn := fun _ => fun
  | [d] => { results := [.lit (.bool false)], args := [d] }
  | _ => none }
def FnSemaPostWrongFalsely : Prop := fnSemaPostRow.holds Try.pinned (OpenSpec.ofChange fnSemaPostWrong)

/-- 'laws.FnSemaBack': WHATEVER THE INPUT: true; the input reads as it did. -/
def fnSemaBackSpec : ChangeSpec := { name := "fnSemaBack", fn := fun _ => fun
  | [d] => { results := [.lit (.bool true)], args := [d] }
  | _ => none }
def fnSemaBackRow : OpenClaim := { program := "ytdplpnianhaloaa", sum := "e02350e23b73e7e11dc4fecbf330a031a7b0b3950fb8d4ceb87e5e7a246d2e3a", func := "loop.example/g00709/laws.FnSemaBack", spec := "fnSemaBack", apart := false }
def FnSemaBackSaid : Prop := fnSemaBackRow.holds Try.pinned (OpenSpec.ofChange fnSemaBackSpec)

/-- ITS FALSE NEIGHBOUR: 'it returns false'. Refute it at one input. -/
def fnSemaBackWrong : ChangeSpec := { name := "fnSemaBack", fn := fun _ => fun
  | [d] => { results := [.lit (.bool false)], args := [d] }
  | _ => none }
def FnSemaBackWrongFalsely : Prop := fnSemaBackRow.holds Try.pinned (OpenSpec.ofChange fnSemaBackWrong)

/- THE SECOND FORM. 'bulk': how many values and letters a reading holds, each counted each time it is reached (what is shared counts as often as it is met; a slice's spare places count too). A statement '..UptoSaid' is the law's where the arguments, and the package variables that the reading takes, are together of bulk at most 1048576: NARROWER than '..Said'. Prove '..Said' where nothing that the law and all that it calls make is longer than what came in: it says more and counts as full. Else prove '..UptoSaid'. A law counts once. -/
mutual
def uptoBulk {H : Type} : DataW H → Nat
  | .lit (.string bytes) => bytes.length + 1
  | .lit _ => 1
  | .nil => 1
  | .ptr d => uptoBulk d + 1
  | .slice elems spare => uptoBulkAll elems + uptoBulkAll spare + 1
  | .agg parts => uptoBulkAll parts + 1
  | .iface _ d => uptoBulk d + 1
  | .map entries => uptoBulkEntries entries + 1
  | .held _ => 1
def uptoBulkAll {H : Type} : List (DataW H) → Nat
  | [] => 0
  | d :: r => uptoBulk d + uptoBulkAll r
def uptoBulkEntries {H : Type} : List (Lit × DataW H) → Nat
  | [] => 0
  | x :: r => uptoBulkEntry x + uptoBulkEntries r
def uptoBulkEntry {H : Type} : Lit × DataW H → Nat
  | (.string bytes, d) => bytes.length + uptoBulk d + 1
  | (_, d) => uptoBulk d + 1
 end
def uptoSmall : (H : Type) → List (DataW H) → Bool := fun _ ds => decide (uptoBulkAll ds ≤ 1048576)
def OpenSpec.upto (s : _root_.Go.ChangeSpec) : _root_.Go.OpenSpec := { _root_.Go.OpenSpec.ofChange s with cond := some uptoSmall }

/-- 'laws.FnExactSemaOk', WHERE WHAT IT READS IS OF BULK AT MOST 1048576: true; the input reads as it did. -/
def fnExactSemaOkUptoRow : OpenClaim := { program := "ytdplpnianhaloaa", sum := "e02350e23b73e7e11dc4fecbf330a031a7b0b3950fb8d4ceb87e5e7a246d2e3a", func := "loop.example/g00709/laws.FnExactSemaOk", spec := "fnExactSemaOk", apart := false, narrowed := true }
def FnExactSemaOkUptoSaid : Prop := fnExactSemaOkUptoRow.holds Try.pinned (OpenSpec.upto fnExactSemaOkSpec)

/-- 'laws.FnExactSemaLeft', WHERE WHAT IT READS IS OF BULK AT MOST 1048576: true; the input reads as it did. -/
def fnExactSemaLeftUptoRow : OpenClaim := { program := "ytdplpnianhaloaa", sum := "e02350e23b73e7e11dc4fecbf330a031a7b0b3950fb8d4ceb87e5e7a246d2e3a", func := "loop.example/g00709/laws.FnExactSemaLeft", spec := "fnExactSemaLeft", apart := false, narrowed := true }
def FnExactSemaLeftUptoSaid : Prop := fnExactSemaLeftUptoRow.holds Try.pinned (OpenSpec.upto fnExactSemaLeftSpec)

/-- 'laws.FnExactSemaPack', WHERE WHAT IT READS IS OF BULK AT MOST 1048576: true; the input reads as it did. -/
def fnExactSemaPackUptoRow : OpenClaim := { program := "ytdplpnianhaloaa", sum := "e02350e23b73e7e11dc4fecbf330a031a7b0b3950fb8d4ceb87e5e7a246d2e3a", func := "loop.example/g00709/laws.FnExactSemaPack", spec := "fnExactSemaPack", apart := false, narrowed := true }
def FnExactSemaPackUptoSaid : Prop := fnExactSemaPackUptoRow.holds Try.pinned (OpenSpec.upto fnExactSemaPackSpec)

/-- 'laws.FnExactSemaRead', WHERE WHAT IT READS IS OF BULK AT MOST 1048576: true; the input reads as it did. -/
def fnExactSemaReadUptoRow : OpenClaim := { program := "ytdplpnianhaloaa", sum := "e02350e23b73e7e11dc4fecbf330a031a7b0b3950fb8d4ceb87e5e7a246d2e3a", func := "loop.example/g00709/laws.FnExactSemaRead", spec := "fnExactSemaRead", apart := false, narrowed := true }
def FnExactSemaReadUptoSaid : Prop := fnExactSemaReadUptoRow.holds Try.pinned (OpenSpec.upto fnExactSemaReadSpec)

/-- 'laws.FnExactSemaPost', WHERE WHAT IT READS IS OF BULK AT MOST 1048576: true; the input reads as it did. -/
def fnExactSemaPostUptoRow : OpenClaim := { program := "ytdplpnianhaloaa", sum := "e02350e23b73e7e11dc4fecbf330a031a7b0b3950fb8d4ceb87e5e7a246d2e3a", func := "loop.example/g00709/laws.FnExactSemaPost", spec := "fnExactSemaPost", apart := false, narrowed := true }
def FnExactSemaPostUptoSaid : Prop := fnExactSemaPostUptoRow.holds Try.pinned (OpenSpec.upto fnExactSemaPostSpec)

/-- 'laws.FnExactSemaServe', WHERE WHAT IT READS IS OF BULK AT MOST 1048576: true; the input reads as it did. -/
def fnExactSemaServeUptoRow : OpenClaim := { program := "ytdplpnianhaloaa", sum := "e02350e23b73e7e11dc4fecbf330a031a7b0b3950fb8d4ceb87e5e7a246d2e3a", func := "loop.example/g00709/laws.FnExactSemaServe", spec := "fnExactSemaServe", apart := false, narrowed := true }
def FnExactSemaServeUptoSaid : Prop := fnExactSemaServeUptoRow.holds Try.pinned (OpenSpec.upto fnExactSemaServeSpec)

/-- 'laws.FnExactSemaWant', WHERE WHAT IT READS IS OF BULK AT MOST 1048576: true; the input reads as it did. -/
def fnExactSemaWantUptoRow : OpenClaim := { program := "ytdplpnianhaloaa", sum := "e02350e23b73e7e11dc4fecbf330a031a7b0b3950fb8d4ceb87e5e7a246d2e3a", func := "loop.example/g00709/laws.FnExactSemaWant", spec := "fnExactSemaWant", apart := false, narrowed := true }
def FnExactSemaWantUptoSaid : Prop := fnExactSemaWantUptoRow.holds Try.pinned (OpenSpec.upto fnExactSemaWantSpec)

/-- 'laws.FnSema', WHERE WHAT IT READS IS OF BULK AT MOST 1048576: true; the input reads as it did. -/
def fnSemaUptoRow : OpenClaim := { program := "ytdplpnianhaloaa", sum := "e02350e23b73e7e11dc4fecbf330a031a7b0b3950fb8d4ceb87e5e7a246d2e3a", func := "loop.example/g00709/laws.FnSema", spec := "fnSema", apart := false, narrowed := true }
def FnSemaUptoSaid : Prop := fnSemaUptoRow.holds Try.pinned (OpenSpec.upto fnSemaSpec)

/-- 'laws.FnSemaPost', WHERE WHAT IT READS IS OF BULK AT MOST 1048576: true; the input reads as it did. -/
def fnSemaPostUptoRow : OpenClaim := { program := "ytdplpnianhaloaa", sum := "e02350e23b73e7e11dc4fecbf330a031a7b0b3950fb8d4ceb87e5e7a246d2e3a", func := "loop.example/g00709/laws.FnSemaPost", spec := "fnSemaPost", apart := false, narrowed := true }
def FnSemaPostUptoSaid : Prop := fnSemaPostUptoRow.holds Try.pinned (OpenSpec.upto fnSemaPostSpec)

/-- 'laws.FnSemaBack', WHERE WHAT IT READS IS OF BULK AT MOST 1048576: true; the input reads as it did. -/
def fnSemaBackUptoRow : OpenClaim := { program := "ytdplpnianhaloaa", sum := "e02350e23b73e7e11dc4fecbf330a031a7b0b3950fb8d4ceb87e5e7a246d2e3a", func := "loop.example/g00709/laws.FnSemaBack", spec := "fnSemaBack", apart := false, narrowed := true }
def FnSemaBackUptoSaid : Prop := fnSemaBackUptoRow.holds Try.pinned (OpenSpec.upto fnSemaBackSpec)

end Rows
end Go.Proofs.Ytdplpnianhaloaa
