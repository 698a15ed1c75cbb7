/- The plain picture of a call's memory, 7: literals, slices. -/
import Derived.Test.YtcphdfjoodebiaaAH6
set_option linter.unusedVariables false
set_option linter.unusedSimpArgs false
namespace Go.AH
open Go.RowKit
theorem VRs.set {μ : Id → Option Pl} : ∀ {x : List AV} {c : List Value}, VRs μ x c → ∀ (j : Nat) {y : AV} {d : Value}, VR μ y d → VRs μ (x.set j y) (c.set j d)
  | _, _, .nil, _, _, _, _ => .nil
  | _, _, .cons _ m, 0, _, _, h => .cons h m
  | _, _, .cons k m, j + 1, _, _, h => .cons k (VRs.set m j h)
section
variable {P : Program} {base : Nat} {E : En} {σ : St} {o : Oper} {kp : Id → Bool}
theorem OP.lenS {x : Operand} {t e : TypeId} {i : Id} {k n s : Nat} (ho : o.op = .call ⟨.builtin .len, #[x], #[t]⟩) (ht : P.underlying t = some (.slice e)) (hx : σ.ev x = .sl i k n s) : OP P base E kp o σ (.v (goInt n)) := fun μ a w hi => by
  have hv := hi.ev x
  rw [hx] at hv
  refine ⟨goInt n, .v _, fun w' _ => ?_⟩
  generalize hc : a.eval x = c at hv
  cases hv <;> simp [execOp, ho, resolve, invoke, builtin, Builtin.len_, hc, run_underlying ht]
theorem OP.lenV {x : Operand} {t e : TypeId} {b : Option Addr} {n c : Nat} (ho : o.op = .call ⟨.builtin .len, #[x], #[t]⟩) (ht : P.underlying t = some (.slice e)) (hx : σ.ev x = .v (.slice b n c)) : OP P base E kp o σ (.v (goInt n)) := fun μ a w hi => by
  have hv := hi.ev x
  rw [hx] at hv
  refine ⟨goInt n, .v _, fun w' _ => ?_⟩
  simp [execOp, ho, resolve, invoke, builtin, Builtin.len_, hv.val, run_underlying ht]
theorem OP.lenE {x : Operand} {t e : TypeId} (ho : o.op = .call ⟨.builtin .len, #[x], #[t]⟩) (ht : P.underlying t = some (.slice e)) (hx : σ.ev x = .e0) : OP P base E kp o σ (.v (goInt 0)) := fun μ a w hi => by
  have hv := hi.ev x
  rw [hx] at hv
  refine ⟨goInt 0, .v _, fun w' _ => ?_⟩
  generalize hc : a.eval x = c at hv
  cases hv <;> simp [execOp, ho, resolve, invoke, builtin, Builtin.len_, hc, run_underlying ht]
theorem OP.lenStr {x : Operand} {t : TypeId} {z : ByteArray} (ho : o.op = .call ⟨.builtin .len, #[x], #[t]⟩) (ht : P.underlying t = some .string) (hx : σ.ev x = .v (.string z)) : OP P base E kp o σ (.v (goInt z.size)) := fun μ a w hi => by
  have hv := hi.ev x
  rw [hx] at hv
  refine ⟨goInt z.size, .v _, fun w' _ => ?_⟩
  simp [execOp, ho, resolve, invoke, builtin, Builtin.len_, hv.val, run_underlying ht]
theorem OP.max {x y : Operand} {ts : Array TypeId} {k k' : IntKind} {a b : Int} (ho : o.op = .call ⟨.builtin .max, #[x, y], ts⟩) (hx : σ.ev x = .v (.int k a)) (hy : σ.ev y = .v (.int k' b)) : OP P base E kp o σ (.v (.int k (if b > a then b else a))) := fun μ c w hi => by
  have h1 := hi.ev x
  have h2 := hi.ev y
  rw [hx] at h1
  rw [hy] at h2
  refine ⟨_, .v _, fun w' _ => ?_⟩
  simp [execOp, ho, resolve, invoke, builtin, Builtin.max_, Builtin.max2, h1.val, h2.val]
theorem OP.min {x y : Operand} {ts : Array TypeId} {k k' : IntKind} {a b : Int} (ho : o.op = .call ⟨.builtin .min, #[x, y], ts⟩) (hx : σ.ev x = .v (.int k a)) (hy : σ.ev y = .v (.int k' b)) : OP P base E kp o σ (.v (.int k (if b < a then b else a))) := fun μ c w hi => by
  have h1 := hi.ev x
  have h2 := hi.ev y
  rw [hx] at h1
  rw [hy] at h2
  refine ⟨_, .v _, fun w' _ => ?_⟩
  simp [execOp, ho, resolve, invoke, builtin, Builtin.min_, Builtin.min2, h1.val, h2.val]
/-! ### literals -/
theorem fill_one {μ : Id → Option Pl} : ∀ (xs : List AV) (vs : List Value) (cs : List AV) (cells : Array Value) (off m : Nat), VRs μ xs vs → VRs μ cs cells.toList → VRs μ (upd cs (off + m) xs) (((vs.zipIdx m).foldl (fun cs (p : Value × Nat) => cs.setIfInBounds (off + p.2) p.1) cells).toList)
  | [], _, cs, cells, off, m, .nil, h => by simpa [upd] using h
  | x :: xs, v :: vs, cs, cells, off, m, .cons hx k, h => by
    simp only [upd, List.zipIdx_cons, List.foldl_cons]
    rw [Nat.add_assoc]
    refine fill_one xs vs _ _ off (m + 1) k ?_
    rw [Array.toList_setIfInBounds]
    exact h.set _ hx
/-- All are cells, and no variable of the call's own is named. -/
def onesB : List AV → Bool
  | [] => true
  | x :: xs => x.one && x.noL && onesB xs
theorem onesB_iff {l : List AV} : onesB l = true ↔ ∀ y ∈ l, y.one = true ∧ y.noL = true := by
  induction l with
  | nil => simp [onesB]
  | cons x xs ih => simp [onesB, ih, and_assoc]
def fillA (place : Nat → Option (Nat × Nat)) (cs : List AV) : List (Nat × AV) → Option (List AV)
  | [] => some cs
  | (i, x) :: r =>
    match place i with
    | none => none
    | some (off, size) => if (Nat.beq x.cells.length size && Nat.ble (off + size) cs.length && onesB x.cells) = true then fillA place (upd cs off x.cells) r else none
theorem fill_ok {μ : Id → Option Pl} {place : Nat → Option (Nat × Nat)} {ρ : Operand → Value} {ev : Operand → AV} (hev : ∀ x, VR μ (ev x) (ρ x)) : ∀ (ps : List (Nat × Operand)) (cs ds : List AV) (cells : Array Value), VRs μ cs cells.toList → fillA place cs (ps.map fun p => (p.1, ev p.2)) = some ds →
    ∃ out, Instr.fill place cells (ps.map fun p => (p.1, ρ p.2)) = some out ∧ VRs μ ds out.toList ∧ ds.length = cs.length
  | [], cs, ds, cells, h, hf => by
    cases hf
    exact ⟨cells, rfl, h, rfl⟩
  | (i, x) :: r, cs, ds, cells, h, hf => by
    simp only [List.map_cons, fillA] at hf
    simp only [List.map_cons, Instr.fill]
    cases hp : place i with
    | none => rw [hp] at hf; cases hf
    | some q =>
      obtain ⟨off, size⟩ := q
      rw [hp] at hf
      simp only at hf ⊢
      cases hb : (Nat.beq (ev x).cells.length size && Nat.ble (off + size) cs.length && onesB (ev x).cells) with
      | false => rw [hb] at hf; cases hf
      | true =>
        rw [hb] at hf
        simp only [Bool.and_eq_true] at hb
        obtain ⟨⟨h1, h2⟩, h3⟩ := hb
        have h1 := Nat.eq_of_beq_eq_true h1
        have h2 := Nat.le_of_ble_eq_true h2
        have hv := (hev x).cells_ (fun y hy => (onesB_iff.1 h3 y hy).1)
        have hl := hv.length
        have hl2 := h.length
        simp only [Array.length_toList] at hl hl2
        have hne : ¬ ((ρ x).cells.size ≠ size || decide (off + (ρ x).cells.size > cells.size)) = true := by
          simp only [Bool.or_eq_true, decide_eq_true_eq, not_or, Decidable.not_not]
          omega
        have hstep := fill_one _ _ cs cells off 0 hv h
        simp only [Nat.add_zero] at hstep
        obtain ⟨out, ho, hr, hlen⟩ := fill_ok hev r _ ds _ hstep hf
        refine ⟨out, ?_, hr, by rw [hlen, upd_length]⟩
        rw [if_neg (by simpa using hne), ← Array.foldl_toList, Array.toList_zipIdx]
        exact ho
theorem OP.build {t : TypeId} {parts : List (Nat × Operand)} {fs : Array Field} {info : TypeInfo} {z : Value} {pl : Array (Nat × Nat)} {ds : List AV} (ho : o.op = .build t parts.toArray) (ht : P.underlying t = some (.struct fs)) (hs : P.info? t = some info) (hz : info.zero = some z) (hpl : ∀ w, (fs.mapM fun f => do pure (f.offset, ← sizeOf f.type) : Sem (Array (Nat × Nat))).run P w = .ok pl w)
    (hf : fillA (pl[·]?) (vals z.cells.toList) (parts.map fun p => (p.1, σ.ev p.2)) = some ds) : OP P base E kp o σ (.agg ds) := fun μ a w hi => by
  obtain ⟨out, hout, hr, _⟩ := fill_ok (ρ := a.eval) (fun x => hi.ev x) parts _ ds z.cells (VRs.vals _) hf
  have : VR μ (.agg ds) (.agg out) := by
    have := VR.agg hr
    simpa using this
  refine ⟨.agg out, this, fun w' _ => ?_⟩
  simp only [execOp, ho, Instr.build, Sem.run_bind, run_zeroValue' hs hz, run_underlying ht, Result.andThen_ok, hpl w', List.map_toArray, hout]
  rfl
/-- A slice literal: a new block. -/
theorem OS.buildSlice {t e : TypeId} {n : Nat} {parts : List (Nat × Operand)} {info : TypeInfo} {z : Value} {ds : List AV} (ho : o.op = .buildSlice t n parts.toArray) (ht : P.underlying t = some (.slice e)) (hs : P.info? e = some info) (hz : info.zero = some z) (hn : n * info.size ≤ 16777216) (h0 : n * info.size ≠ 0) (hzl : z.cells.size = info.size)
    (hf : fillA (fun i => some (i * info.size, info.size)) (vals ((List.range (n * info.size)).map (z.cells[· % z.cells.size]!))) (parts.map fun p => (p.1, σ.ev p.2)) = some ds) (hd : ∀ y ∈ ds, y.noL = true) :
    OS P base E kp o σ (.sl (.g σ.H.g.length) 0 n info.size) ⟨σ.T, σ.H.push (.own ds)⟩ := fun μ a w hi => by
  obtain ⟨out, hout, hr, hlen⟩ := fill_ok (ρ := a.eval) (fun x => hi.ev x) parts _ ds ((Array.range (n * info.size)).map (z.cells[· % z.cells.size]!)) (by simpa using VRs.vals (μ := μ) ((List.range (n * info.size)).map (z.cells[· % z.cells.size]!))) hf
  have hal := hi.alloc hr hd #[] e
  have hsz : out.toList.length = n * info.size := by
    have := hr.length
    rw [hlen] at this
    simpa [vals] using this
  refine ⟨.slice (some ⟨w.heap.size, 0, none⟩) n n, _, _, ?_, ?_, hal, smk_push hi _ _⟩
  · simp only [execOp, ho, Instr.buildSlice, Sem.run_bind, run_underlying ht, run_sizeOf' hs, Result.andThen_ok, if_neg (show ¬ n * info.size > 2 ^ 24 by omega), if_neg h0, run_zeroValue' hs hz, Sem.run_pure, List.map_toArray, hout, newRow, run_newObj_alloc, Array.append_empty]
  · refine .sl (o := 0) (place_same _ _ _) (Nat.le_refl _) ?_
    simp [hsz]
/-- An empty one. -/
theorem OS.buildSlice0 {t e : TypeId} {info : TypeInfo} (ho : o.op = .buildSlice t 0 #[]) (ht : P.underlying t = some (.slice e)) (hs : P.info? e = some info) :
    OS P base E kp o σ .e0 σ := fun μ a w hi => by
  have hal := hi.alloc (cs := []) (l := []) .nil (by simp) #[] e
  refine ⟨.slice (some ⟨w.heap.size, 0, none⟩) 0 0, w.alloc (.cells #[] e), μ, ?_, .e0 _, ?_, fun i hk p hp => ⟨hp, Below.heap_alloc _ _ _ (hi.heap.old i p hp)⟩⟩
  · simp [execOp, ho, Instr.buildSlice, run_underlying ht, run_sizeOf' hs, newRow, Instr.fill]
    congr 2
    apply Array.ext <;> simp
  · exact { hi with
      heap := hi.heap.world (by simp) (fun i _ p hp => Below.heap_alloc _ _ _ (hi.heap.old i p hp))
      le := by have := hi.le; simp; omega
      kept := hi.kept.trans (Kept.alloc _ _ _) }
end
end Go.AH
