/- What is known of a program's own tables all through a call: here nothing. -/
import Derived.WalkKit
namespace Go.BH
def GK (ln : Nat → Option (List Value)) : Prop := True
theorem GK.mono {a b : Nat → Option (List Value)} (h : GK a) (k : ∀ i cs, a i = some cs → b i = some cs) : GK b := trivial
theorem GK.ex : ∃ ln, GK ln := ⟨fun _ => none, trivial⟩
end Go.BH
