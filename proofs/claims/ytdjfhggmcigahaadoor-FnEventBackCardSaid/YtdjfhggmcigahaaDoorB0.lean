/- What is known of a program's own tables all through a call: strconv's powers of ten lie in block 2; its errors in blocks 0 and 1; bytealg's bound in block 3. -/
import Derived.WalkKit
import Derived.Lib.ItoaMem
namespace Go.BH
def IfV (v : Value) : Prop := v = .nilIface ∨ ∃ t p, v = .iface t p
def GK (ln : Nat → Option (List Value)) : Prop := ln 2 = some (Lib.pow10Tab.map fun z => Value.int .u64 z) ∧ (∃ v, ln 0 = some [v] ∧ IfV v) ∧ (∃ v, ln 1 = some [v] ∧ IfV v) ∧ ∃ m, ln 3 = some [.int .i64 m]
theorem GK.mono {a b : Nat → Option (List Value)} (h : GK a) (k : ∀ i cs, a i = some cs → b i = some cs) : GK b := by
  obtain ⟨h1, ⟨v, h2, h3⟩, ⟨u, h4, h5⟩, m, h6⟩ := h
  exact ⟨k _ _ h1, ⟨v, k _ _ h2, h3⟩, ⟨u, k _ _ h4, h5⟩, m, k _ _ h6⟩
theorem GK.ex : ∃ ln, GK ln := ⟨fun b => if b = 2 then some (Lib.pow10Tab.map fun z => Value.int .u64 z) else if b = 3 then some [.int .i64 0] else some [.nilIface], rfl, ⟨_, rfl, .inl rfl⟩, ⟨_, rfl, .inl rfl⟩, 0, rfl⟩
end Go.BH
