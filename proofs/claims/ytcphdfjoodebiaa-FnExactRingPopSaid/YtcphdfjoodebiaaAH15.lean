/- The plain picture of a call's memory, 15: make, parts of slices, comparison with nil. -/
import Derived.Test.YtcphdfjoodebiaaAH14
import Derived.Laws.MakeOwn
import Derived.Laws.Cover3
set_option linter.unusedVariables false
set_option linter.unusedSimpArgs false
namespace Go.AH
open Go.RowKit
/-- n elements, all zero. -/
def zer (zc : Array Value) (s n : Nat) : List AV := vals (madeCells zc (n * s)).toList
section
variable {P : Program} {base : Nat} {E : En} {σ : St} {o : Oper} {kp : Id → Bool}
theorem OS.makeSlice {t e : TypeId} {lx cx : Operand} {info : TypeInfo} {z : Value} {k k' : IntKind} {n : Nat} (ho : o.op = .makeSlice t lx cx) (ht : P.underlying t = some (.slice e)) (hs : P.info? e = some info) (hz : info.zero = some z) (hl : σ.ev lx = .v (.int k n)) (hc : σ.ev cx = .v (.int k' n)) (hn : n < 9223372036854775808) (hb : info.bytes * n ≤ 281474976710656) :
    OS P base E kp o σ (.sl (.g σ.H.g.length) 0 n info.size) ⟨σ.T, σ.H.push (.own (zer z.cells info.size n))⟩ := fun μ a w hi => by
  have h1 := hi.ev lx
  have h2 := hi.ev cx
  rw [hl] at h1
  rw [hc] at h2
  have hal := hi.alloc (VRs.vals (madeCells z.cells (n * info.size)).toList) (vals_noL _) #[] e
  have hrun := run_make (P := P) w t e info z ht hs hz k k' (n : Int) (n : Int) (by omega) (Int.le_refl _) (by rw [← Int.natCast_mul]; exact Int.ofNat_le.2 hb) (by omega)
  simp only [Int.toNat_natCast] at hrun
  refine ⟨.slice (some ⟨w.heap.size, 0, none⟩) n n, _, _, ?_, ?_, hal, smk_push hi _ _⟩
  · simp only [execOp, ho, h1.val, h2.val, Sem.run_bind, hrun, Result.andThen_ok, Sem.run_pure, Array.append_empty]
  · refine .sl (o := 0) (place_same _ _ _) (Nat.le_refl _) ?_
    simp [size_madeCells]
/-- 's == nil': unknown where s is empty. -/
theorem OX.eqNil {t e t' : TypeId} {x : Operand} {i : Id} {j n s : Nat} {K : AV → St → Prop} (ho : o.op = .binOp .eql t x (.const (.slice none 0 0)) t') (ht : P.underlying t = some (.slice e)) (hx : σ.ev x = .sl i j n s) (hK : ∀ b : Bool, (b = true → n = 0) → K (.v (.bool b)) σ) : OX P base E kp o σ K := fun μ a w hi K' Q hk => by
  have hv := hi.ev x
  rw [hx] at hv
  have key : ∀ (b : Option Addr) (c : Nat), a.eval x = .slice b n c → (b.isNone = true → n = 0) → o.wp P a w K' Q := fun b c hc hb => by
    have hr : (execOp a.eval o).run P w = .ok (.value (.bool b.isNone)) w := by
      have he := run_equal_slice_nil (P := P) w t e b n c ht
      have hy : a.eval (.const (.slice none 0 0)) = .slice none 0 0 := rfl
      simp only [execOp, ho, hc, hy]
      simp [eqGuard, binOp, he]
    simp only [Oper.wp, hr, Oper.upon]
    exact hk _ σ _ μ w (hK b.isNone hb) (.v _) hi (.refl _ _ _)
  generalize hc : a.eval x = c at hv
  cases hv with
  | sl h1 h2 h3 => exact key _ _ hc (fun h => by cases h)
  | sl0 q => exact key _ _ hc (fun _ => rfl)
  | nl => exact key _ _ hc (fun _ => rfl)
end
end Go.AH
