/- Words for the rows: what an argument that can be read as data reads as, in the words of the print's kinds. For every type of whole numbers, bools, strings, slices and structs of such. No condition. -/
import Derived.Test.YtcphdfjoodebiaaWNEv
import Derived.Deep.Slices
import Derived.ChangeArms
import Derived.ChangeSame
import Derived.ChangeShapes
import Derived.WideShapes
import Derived.SizedLaws
set_option linter.unusedVariables false
set_option linter.unusedSimpArgs false
namespace Go.Proofs.Ytcphdfjoodebiaa.RK
open Go.RowKit Go.ChangeShapes Go.WideShapes Go.Deep Go.Proofs.YtcphdfjoodebiaaW.PrintWords
/-- Whatever reads as data of type t is of kind d, and meets ok. -/
def Tells {α : Type} (P : Program) (t : TypeId) (d : Kd α) (ok : α → Prop) : Prop :=
  d.sz = P.cellsOf t ∧ ∀ {H : Type} {enc : TypeId × Value → H} {w : World} {sp : Nat → Bool} {fuel : Nat} {cs : List Value} {y : DataW H × List MemPlace}, DataW.trod enc P w 0 sp true fuel t cs = some y → ∃ x, d.K w x cs ∧ ok x
section
variable {P : Program} {t : TypeId}
theorem Tells.int {k : IntKind} (ht : P.underlying t = some (.int k)) (hc : P.cellsOf t = 1) : Tells P t (Kd.int k) (fun x => (Lit.int k x).wf = true) :=
  ⟨hc.symm, fun h => by
    obtain ⟨n, rfl, _, hw⟩ := DataW.trod_int ht h
    exact ⟨n, rfl, hw⟩⟩
theorem Tells.bool (ht : P.underlying t = some .bool) (hc : P.cellsOf t = 1) : Tells P t Kd.bool (fun _ => True) :=
  ⟨hc.symm, fun h => by
    obtain ⟨n, rfl, _⟩ := DataW.trod_bool ht h
    exact ⟨n, rfl, trivial⟩⟩
theorem Tells.iso {α β : Type} {d : Kd α} {ok : α → Prop} (h : Tells P t d ok) (f : β → α) (g : α → β) (hfg : ∀ a, f (g a) = a) : Tells P t (Kd.iso d f) (fun x => ok (f x)) :=
  ⟨h.1, fun hh => by
    obtain ⟨x, hx, hk⟩ := h.2 hh
    exact ⟨g x, by show d.K _ (f (g x)) _; rw [hfg]; exact hx, by show ok (f (g x)); rw [hfg]; exact hk⟩⟩
theorem choose_list {α : Type} {Q : Nat → α → Prop} : ∀ n : Nat, (∀ i, i < n → ∃ x, Q i x) → ∃ xs : List α, xs.length = n ∧ ∀ i x, xs[i]? = some x → Q i x
  | 0, _ => ⟨[], rfl, fun i x h => by simp at h⟩
  | n + 1, h => by
    obtain ⟨xs, hl, hx⟩ := choose_list n (fun i hi => h i (by omega))
    obtain ⟨x, hq⟩ := h n (by omega)
    refine ⟨xs ++ [x], by simp [hl], fun i y hy => ?_⟩
    rw [List.getElem?_append] at hy
    split at hy
    · exact hx i y hy
    · rename_i hlt
      have : i = n := by
        by_cases e : i - xs.length = 0
        · omega
        · rw [List.getElem?_eq_none (by simp; omega)] at hy
          cases hy
      subst this
      rw [show i - xs.length = 0 by omega] at hy
      simp at hy
      subst hy
      exact hq
theorem Tells.row {α : Type} {e : TypeId} {d : Kd α} {ok : α → Prop} (ht : P.underlying t = some (.slice e)) (h : Tells P e d ok) {H : Type} {enc : TypeId × Value → H} {w : World} {sp : Nat → Bool} {fuel : Nat} {cs : List Value} {y : DataW H × List MemPlace}
    (hy : DataW.trod enc P w 0 sp true fuel t cs = some y) : ∃ (A : Option Addr) (c : Nat) (xs : List α), cs = [.slice A xs.length c] ∧ xs.length ≤ c ∧ xs.length ≤ maxLen ∧ d.C w A xs.length xs ∧ ∀ x ∈ xs, ok x := by
  rcases open_slice ht hy with ⟨rfl, _⟩ | ⟨a, len, cap, m, n, D, Pl, rfl, _, hl, hm, hmm, _, hx⟩
  · exact ⟨none, 0, [], rfl, Nat.le_refl _, by simp [maxLen], ⟨rfl, by simp, fun hn => absurd hn (by simp)⟩, fun x hx => by cases hx⟩
  · have hlm : len ≤ m := by
      rw [hmm]
      split
      · exact hl
      · exact Nat.le_refl _
    obtain ⟨xs, hxl, hq⟩ := choose_list (Q := fun i x => ok x ∧ ∃ c : List Value, c.length = d.sz ∧ d.K w x c ∧ ∀ j u, c[j]? = some u → w.cell? (a.add (i * d.sz + j)) = some u) len (fun i hi => by
      obtain ⟨cs', hc, htr⟩ := hx i (by omega)
      obtain ⟨x, hk, ho⟩ := h.2 htr
      refine ⟨x, ho, cs', d.K_len hk, hk, fun j u hu => ?_⟩
      obtain ⟨_, hcl, hat⟩ := World.cells?_some hc
      have hj : j < cs'.length := by
        rcases Nat.lt_or_ge j cs'.length with g | g
        · exact g
        · rw [List.getElem?_eq_none g] at hu; cases hu
      have := hat j (by omega)
      rw [← hu, ← this, Go.Deep.add_add, h.1])
    refine ⟨some a, cap, xs, by rw [hxl], by omega, by omega, ⟨rfl, by simp only [maxLen] at hm; omega, fun hn => ⟨a, rfl, fun j p hj => ?_⟩⟩, fun x hx => ?_⟩
    · obtain ⟨_, c, h1, h2, h3⟩ := hq j p hj
      exact ⟨c, h1, h2, h3⟩
    · obtain ⟨j, hj⟩ := List.mem_iff_getElem?.1 hx
      exact (hq j x hj).1
theorem Tells.slice {α : Type} {e : TypeId} {d : Kd α} {ok : α → Prop} (ht : P.underlying t = some (.slice e)) (hc : P.cellsOf t = 1) (h : Tells P e d ok) : Tells P t (Kd.slice e d) (fun xs => xs.length ≤ maxLen ∧ ∀ x ∈ xs, ok x) :=
  ⟨hc.symm, fun hy => by
    obtain ⟨A, c, xs, h1, h2, h3, h4, h5⟩ := Tells.row ht h hy
    exact ⟨xs, ⟨A, c, h1, h2, h4⟩, h3, h5⟩⟩
/-- Fields one behind the other, from offset o on. -/
structure TellsF {α : Type} (P : Program) (fs : List Field) (o : Nat) (d : Kd α) (ok : α → Prop) : Prop where
  out : ∀ {H : Type} {enc : TypeId × Value → H} {w : World} {sp : Nat → Bool} {fuel : Nat} {cs : List Value},
    (∀ f ∈ fs, ∃ y, DataW.trod enc P w 0 sp true fuel f.type ((cs.drop f.offset).take (P.cellsOf f.type)) = some y) → ∃ x, d.K w x ((cs.drop o).take d.sz) ∧ ok x
theorem TellsF.one {α : Type} {f : Field} {o : Nat} {d : Kd α} {ok : α → Prop} (ho : f.offset = o) (h : Tells P f.type d ok) : TellsF P [f] o d ok := ⟨fun hf => by
  subst ho
  obtain ⟨y, hy⟩ := hf f (List.mem_singleton.2 rfl)
  rw [h.1]
  exact h.2 hy⟩
theorem TellsF.cons {α β : Type} {f : Field} {fs : List Field} {o o' : Nat} {a : Kd α} {b : Kd β} {ok : α → Prop} {okb : β → Prop} (ho : f.offset = o) (ho' : o + a.sz = o') (h : Tells P f.type a ok) (k : TellsF P fs o' b okb) : TellsF P (f :: fs) o (Kd.pair a b) (fun x => ok x.1 ∧ okb x.2) := ⟨fun {H enc w sp fuel cs} hf => by
  subst ho
  subst ho'
  obtain ⟨y, hy⟩ := hf f List.mem_cons_self
  obtain ⟨x, hx, hox⟩ := h.2 hy
  obtain ⟨z, hz, hoz⟩ := k.out (fun g hg => hf g (List.mem_cons_of_mem _ hg))
  refine ⟨(x, z), ⟨_, _, ?_, hx, hz⟩, hox, hoz⟩
  show (cs.drop f.offset).take (a.sz + b.sz) = _
  rw [List.take_add, ← h.1, List.drop_drop]⟩
theorem Tells.struct {α : Type} {fs : Array Field} {d : Kd α} {ok : α → Prop} (ht : P.underlying t = some (.struct fs)) (hc : d.sz = P.cellsOf t) (h : TellsF P fs.toList 0 d ok) : Tells P t d ok :=
  ⟨hc, fun {H enc w sp fuel cs y} hy => by
    obtain ⟨xs, n, _, _, hl, hlen, hg⟩ := DataW.trod_struct ht hy
    obtain ⟨x, hx, ho⟩ := h.out (enc := enc) (w := w) (sp := sp) (fuel := n) (cs := cs) (fun f hf => by
      obtain ⟨i, hi⟩ := List.mem_iff_getElem?.1 hf
      have hi' : fs[i]? = some f := by simpa using hi
      have hlt : i < fs.size := (Array.getElem?_eq_some_iff.1 hi').1
      have := hg i f hi'
      rw [List.getElem?_eq_getElem (by omega)] at this
      exact ⟨_, this⟩)
    refine ⟨x, ?_, ho⟩
    rw [List.drop_zero, List.take_of_length_le (by omega)] at hx
    exact hx⟩
end
end Go.Proofs.Ytcphdfjoodebiaa.RK
