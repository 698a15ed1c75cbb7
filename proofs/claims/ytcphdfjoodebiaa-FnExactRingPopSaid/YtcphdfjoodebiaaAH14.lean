/- The plain picture of a call's memory, 14: calls over no blocks of the machine's. -/
import Derived.Test.YtcphdfjoodebiaaAH13
set_option linter.unusedVariables false
set_option linter.unusedSimpArgs false
namespace Go.AH
open Go.RowKit
theorem back_nil (σ : St) : back σ [] [] [] = σ := by
  obtain ⟨T, ⟨g, l⟩⟩ := σ
  simp [back, Hp.upds]
section
variable {P : Program} {base : Nat} {E : En} {σ : St} {o : Oper} {kp : Id → Bool}
/-- A function that takes and gives plain values alone. -/
theorem OX.call0 {f : FuncId} {fn : Func} {cc : Code} {args : List Operand} {tys : Array TypeId} {R : AV → St → Prop} {as : List AV} {v : AV} (hft : FT P f as [] (fun r g => r = v ∧ g = [])) (ho : o.op = .call ⟨.value (.func f), args.toArray, tys⟩) (hf : P.funcs[f]? = some fn) (hname : (fn.name == "runtime.NumGoroutine") = false) (hbody : fn.body = some cc)
    (hargs : args.map σ.ev = as) (hren : AV.rens (named [] σ.H.g.length) as = as) (hv : v.ren (named [] σ.H.g.length) = v) (hnl : AV.noLs as = true) (hkp : ∀ j, kp j = true → (σ.H.get j).alive = true) (hR : R v σ) : OX P base E kp o σ R :=
  OX.call [] as [] ho hf hname hbody hft (by rw [hren]; exact hargs) hnl .nil (by intro n m i _ h; simp at h) (by rintro r g' ⟨_, rfl⟩ n h; exact h) (.inl (fun n => ⟨_, rfl⟩)) (fun j hj => ⟨hkp j hj, fun n h => by simp at h⟩) (by rintro r g' ⟨rfl, rfl⟩; rw [hv, back_nil]; exact hR)
end
end Go.AH
