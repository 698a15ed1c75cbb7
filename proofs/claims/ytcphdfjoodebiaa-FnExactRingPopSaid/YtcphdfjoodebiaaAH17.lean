/- The plain picture of a call's memory, 17: a call that writes one block of plain values. -/
import Derived.Test.YtcphdfjoodebiaaAH16
set_option linter.unusedVariables false
set_option linter.unusedSimpArgs false
namespace Go.AH
open Go.RowKit
/-- The function, called with these arguments over one block of plain values that it may write, returns r and leaves d there. -/
def FW (P : Program) (f : FuncId) (args : List AV) (c : List Value) (r : AV) (d : List Value) : Prop :=
  knownB P f = true ∧ FT P f args [.own (vals c)] (fun r' g' => r' = r ∧ g' = [.own (vals d)])
section
variable {P : Program} {base : Nat} {E : En} {σ : St} {o : Oper} {kp : Id → Bool}
theorem OX.callW (i : Id) {f : FuncId} {args : List Operand} {tys : Array TypeId} {R : AV → St → Prop} {argsC : List AV} {c d : List Value} {r : AV} (hft : FW P f argsC c r d) (ho : o.op = .call ⟨.value (.func f), args.toArray, tys⟩)
    (hargs : args.map σ.ev = AV.rens (named [i] σ.H.g.length) argsC) (hnl : AV.noLs argsC = true) (hown : σ.H.get i = .own (vals c)) (hlets : E.lets i) (hkp : ∀ j, kp j = true → (σ.H.get j).alive = true ∧ j ≠ i) (hR : R (r.ren (named [i] σ.H.g.length)) ⟨σ.T, σ.H.put i (vals d)⟩) : OX P base E kp o σ R := by
  obtain ⟨hk, hft⟩ := hft
  obtain ⟨fn, cc, hf, hname, hbody⟩ := knownB_spec hk
  refine OX.call [i] argsC [.own (vals c)] ho hf hname hbody hft hargs hnl (.own (by rw [rens_vals]; exact hown) (noLs_vals _) hlets .nil) ?_ ?_ ?_ ?_ ?_
  · intro n m j hnm hn hm _
    cases n with
    | zero => cases m with
      | zero => exact absurd rfl hnm
      | succ m => simp at hm
    | succ n => simp at hn
  · rintro r' g' ⟨_, rfl⟩ n h
    cases n with
    | zero => rfl
    | succ n => simp [gM, Blk.isOwn] at h
  · refine .inr ?_
    rintro r' g' ⟨_, rfl⟩ n x hx
    cases n with
    | zero =>
      simp only [List.getElem?_cons_zero, Option.getD_some, Blk.cells, vals, List.mem_map] at hx
      obtain ⟨v, _, rfl⟩ := hx
      rfl
    | succ n => simp [Blk.cells] at hx
  · refine fun j hj => ⟨(hkp j hj).1, fun n hn => ?_⟩
    cases n with
    | zero => simp at hn; exact absurd hn.symm (hkp j hj).2
    | succ n => simp at hn
  · rintro r' g' ⟨rfl, rfl⟩
    have : back σ [i] [.own (vals c)] [.own (vals d)] = ⟨σ.T, σ.H.put i (vals d)⟩ := by
      simp [back, Hp.upds, rens_vals]
    rw [this]
    exact hR
end
end Go.AH
