/- What is known of a program's own tables all through a call: strconv's powers of ten lie in block 2. -/
import Derived.WalkKit
import Derived.Lib.ItoaMem
namespace Go.BH
def GK (ln : Nat → Option (List Value)) : Prop := ln 2 = some (Lib.pow10Tab.map fun z => Value.int .u64 z)
theorem GK.mono {a b : Nat → Option (List Value)} (h : GK a) (k : ∀ i cs, a i = some cs → b i = some cs) : GK b := k _ _ h
theorem GK.ex : ∃ ln, GK ln := ⟨fun _ => some _, rfl⟩
end Go.BH
