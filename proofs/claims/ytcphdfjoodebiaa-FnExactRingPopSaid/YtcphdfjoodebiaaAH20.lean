/- The plain picture of a call's memory, 20: drawn regions in which two operations may come next. -/
import Derived.Test.YtcphdfjoodebiaaAH19
set_option linter.unusedVariables false
set_option linter.unusedSimpArgs false
namespace Go.AH
open Go.RowKit
def takesOk (ops : Array Oper) : List Nat → Nat → Array Bool → Bool
  | [], _, _ => true
  | i :: r, fuel + 1, listed => (Region.noSelect ops && Region.free .any ops listed i && (Region.ready .any ops listed).contains i) && takesOk ops r fuel (listed.setIfInBounds i true)
  | _ :: _, 0, _ => false
def takesEnd : List Nat → Nat → Array Bool → Nat × Array Bool
  | [], f, l => (f, l)
  | i :: r, f + 1, l => takesEnd r f (l.setIfInBounds i true)
  | _ :: _, 0, l => (0, l)
def vct (P : Program) (kp : Id → Bool) (ops : Array Oper) : List Nat → (St → Prop) → St → Prop
  | [], K, σ => K σ
  | i :: r, K, σ => match ops[i]? with
    | none => False
    | some o => gv ops o σ (vstT P kp o (vct P kp ops r K)) (vstN o (vct P kp ops r K))
section
variable {P : Program} {base : Nat} {E : En} {σ : St} {o : Oper} {kp : Id → Bool}
theorem okDs_get {n : Nat} : ∀ (l : List Oper), okDs n l = true → ∀ o ∈ l, okD n o.dst = true
  | [], _, o, ho => by cases ho
  | x :: xs, h, o, ho => by
    simp only [okDs, Bool.and_eq_true] at h
    rcases List.mem_cons.1 ho with rfl | ho
    · exact h.1
    · exact okDs_get xs h.2 o ho
theorem vct_sound {ops : Array Oper} {K : St → Prop} (hds : okDs E.n ops.toList = true) : ∀ (s : List Nat) (fuel : Nat) (listed : Array Bool) (σ : St), takesOk ops s fuel listed = true → vct P kp ops s (fun σ' => OD P base E ops kp K (takesEnd s fuel listed).1 (takesEnd s fuel listed).2 σ') σ → OD P base E ops kp K fuel listed σ
  | [], _, _, _, _, h => h
  | i :: r, 0, _, _, hs, _ => by simp [takesOk] at hs
  | i :: r, fuel + 1, listed, σ, hs, h => by
    simp only [takesOk, Bool.and_eq_true] at hs
    obtain ⟨⟨⟨h1, h2⟩, h3⟩, h4⟩ := hs
    simp only [vct] at h
    cases ho : ops[i]? with
    | none => rw [ho] at h; exact h.elim
    | some o =>
      rw [ho] at h
      simp only at h
      have hd : okD E.n o.dst = true := okDs_get _ hds o (by rw [← Array.getElem?_toList] at ho; exact List.mem_of_getElem? ho)
      obtain ⟨σ', hσ, ⟨hw, h⟩ | ⟨hw, h⟩⟩ := gv_cases (base := base) (E := E) h
      · obtain ⟨v, hk, hp⟩ := pv_sound (base := base) (E := E) h
        exact fun μ a w hi => OD.take i ho h1 h2 h3 hw hd hp (vct_sound hds r fuel _ _ h4 hk) μ a w (hσ μ a w hi)
      · exact fun μ a w hi => OD.no i ho h1 h2 h3 hw hd (vct_sound hds r fuel _ _ h4 h) μ a w (hσ μ a w hi)
/-- Those that only reckon are taken first; the others are shown one by one. -/
theorem CT.drwT {id : Nat} {ops : Array Oper} {Q : Exit → St → Prop} (hm : P.follows .mixedOrders = true) (s : List Nat) (kp : Id → Bool) (hd : okDs E.n ops.toList = true) (hs : takesOk ops s ops.size (Array.replicate ops.size false) = true)
    (h : vct P kp ops s (fun σ' => OD P base E ops kp (Q .normal) (takesEnd s ops.size (Array.replicate ops.size false)).1 (takesEnd s ops.size (Array.replicate ops.size false)).2 σ') σ) : CT P base E (.region id ops true) Q σ :=
  .draw hm kp (vct_sound hd s _ _ _ hs h)
theorem OD.two {ops : Array Oper} {K : St → Prop} {fuel : Nat} {listed : Array Bool} (f i j : Nat) {oi oj : Oper} (hf : fuel = f + 1) (hr : Region.ready .any ops listed = [i, j]) (hi : ops[i]? = some oi) (hj : ops[j]? = some oj) (gi : oi.guard = none) (gj : oj.guard = none) (hdi : okD E.n oi.dst = true) (hdj : okD E.n oj.dst = true)
    (h : OX P base E kp oi σ (fun v σ' => OD P base E ops kp K f (listed.setIfInBounds i true) (σ'.put oi.dst v)))
    (h' : OX P base E kp oj σ (fun v σ' => OD P base E ops kp K f (listed.setIfInBounds j true) (σ'.put oj.dst v))) : OD P base E ops kp K fuel listed σ := by
  subst hf
  exact .next2 i j hr hi hj (by unfold wantsB; rw [gi]) (by unfold wantsB; rw [gj]) hdi hdj h h'
theorem OD.sched {ops : Array Oper} {K : St → Prop} {fuel : Nat} {listed : Array Bool} (s : List (Bool × Nat)) (hd : okDs E.n ops.toList = true) (hs : schedOk ops s fuel listed = true) (h : vcd P base E kp ops s K σ) : OD P base E ops kp K fuel listed σ := vcd_sound hd s fuel listed σ hs h
end
end Go.AH
