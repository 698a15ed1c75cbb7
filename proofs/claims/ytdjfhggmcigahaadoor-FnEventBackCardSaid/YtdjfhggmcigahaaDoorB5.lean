/- The picture by value, 5: what reads and writes it. -/
import Derived.Test.YtdjfhggmcigahaaDoorB4
set_option linter.unusedVariables false
set_option linter.unusedSimpArgs false
namespace Go.BH
open Go.RowKit
/-- One cell's worth. -/
def AV.one : AV → Bool
  | .v x => x.oneCell'
  | .any => false
  | .agg _ => false
  | .tup _ => false
  | _ => true
theorem VR.one {μ : Mu} {x : AV} {c : Value} (h : VR μ x c) (ho : x.one = true) : c.oneCell' = true := by
  cases h <;> simp_all [AV.one, Value.oneCell']
def AV.cells : AV → List AV
  | .agg cs => cs
  | x => [x]
theorem cells_one {c : Value} (h : c.oneCell' = true) : c.cells = #[c] := by
  cases c <;> simp_all [Value.oneCell', Value.cells]
def ones (l : List AV) : Bool := l.all AV.one
theorem ones_iff {l : List AV} : ones l = true ↔ ∀ y ∈ l, y.one = true := by simp [ones]
/-- The cells of a value that is one cell, or an aggregate of such. -/
theorem VR.cells_ {μ : Mu} {x : AV} {c : Value} (h : VR μ x c) (ho : ∀ y ∈ x.cells, y.one = true) : VRs μ x.cells c.cells.toList := by
  cases h with
  | agg k => simpa [AV.cells, Value.cells] using k
  | any => exact absurd (ho _ (List.mem_singleton.2 rfl)) (by simp [AV.one])
  | tup => exact absurd (ho _ (List.mem_singleton.2 rfl)) (by simp [AV.one])
  | v =>
    have := ho _ (List.mem_singleton.2 rfl)
    rw [cells_one (by simpa [AV.one] using this)]
    exact .cons (.v _) .nil
  | ptr k => exact .cons (.ptr k) .nil
  | sl k hc he => exact .cons (.sl k hc he) .nil
  | sl0 a => exact .cons (.sl0 a) .nil
  | e0 a => exact .cons (.e0 a) .nil
  | ifs t x => exact .cons (.ifs t x) .nil
  | fz h1 h2 h3 h4 => exact .cons (.fz h1 h2 h3 h4) .nil
  | fz0 a c => exact .cons (.fz0 a c) .nil
  | pfz h k => exact .cons (.pfz h k) .nil
  | fn m => exact .cons (.fn m) .nil
theorem VRs.ones {μ : Mu} : ∀ {x : List AV} {c : List Value}, VRs μ x c → (∀ y ∈ x, y.one = true) → ∀ d ∈ c, d.oneCell' = true
  | _, _, .nil, _ => fun d hd => by cases hd
  | _, _, .cons k m, ho => fun d hd => by
    rcases List.mem_cons.1 hd with rfl | hd
    · exact k.one (ho _ List.mem_cons_self)
    · exact VRs.ones m (fun y hy => ho y (List.mem_cons_of_mem _ hy)) d hd
def aggD : TypeDesc → Bool
  | .struct _ | .array _ _ => true
  | _ => false
theorem run_isAgg' {P : Program} {t : TypeId} {d : TypeDesc} (h : P.underlying t = some d) (w : World) : (isAgg t).run P w = .ok (aggD d) w := by
  simp only [isAgg, Sem.run_bind, run_underlying h, Result.andThen_ok]
  cases d <;> rfl
theorem run_typeInfo' {P : Program} {t : TypeId} {i : TypeInfo} (h : P.info? t = some i) (w : World) : (typeInfo t).run P w = .ok i w := by
  simp [typeInfo, program, Sem.run, h]
theorem run_sizeOf' {P : Program} {t : TypeId} {i : TypeInfo} (h : P.info? t = some i) (w : World) : (sizeOf t).run P w = .ok i.size w := by
  simp only [sizeOf, Sem.run_bind, run_typeInfo' h, Result.andThen_ok, Sem.run_pure]
theorem addr_add (b o n : Nat) : (⟨b, o, none⟩ : Addr).add n = ⟨b, o + n, none⟩ := by
  unfold Addr.add
  split
  · rename_i h
    rw [h, Nat.add_zero]
  · rfl
theorem ne_of_get {α : Type} {l : List α} {k : Nat} {x : α} (h : l[k]? = some x) : l ≠ [] := fun e => by rw [e] at h; cases h
section
variable {P : Program} {E : En} {σ : St} {o : Oper} {kp : Nat → Bool}
theorem cell_block {w w' : World} {k o : Nat} (h : w'.heap[k]? = w.heap[k]?) : w.cell? ⟨k, o, none⟩ = w'.cell? ⟨k, o, none⟩ := by
  simp [World.cell?, h]
/-- A read. -/
theorem OP.load1 {t : TypeId} {p : Operand} {d : TypeDesc} {i : Nat} {k : Nat} {cs : List AV} {x : AV} (ho : o.op = .load t p) (ht : P.underlying t = some d) (ha : aggD d = false) (hp : σ.ev p = .ptr i k) (hg : hget σ.H i = some cs) (hx : cs[k]? = some x) (hk : kp i = true) : OP P E kp o σ x := fun μ a w hi => by
  have hv := hi.ev p
  rw [hp] at hv
  obtain ⟨b, hb⟩ := hi.heap.there i cs hg (ne_of_get hx)
  obtain ⟨c0, t0, g1, g2, g3, g4⟩ := hi.heap.own i cs hg b hb
  obtain ⟨y, hy, hxy⟩ := g4 k x hx
  refine ⟨y, hxy, fun w' hw' => ?_⟩
  generalize hc : a.eval p = c at hv
  cases hv with
  | ptr hm =>
    rename_i d'
    obtain rfl : b = d' := Option.some.inj (hb.symm.trans hm)
    have hy' : w'.cell? ⟨b.block, b.base + k, none⟩ = some y := (cell_block (hw'.own i hk b hb)).symm.trans (cell_of g1 hy)
    simp only [execOp, ho, hc, Instr.loadAt, Instr.sureAddr, loadVar, Sem.run_bind, Sem.run_pure, Result.andThen_ok, run_isAgg' ht, ha, Bool.false_eq_true, if_false, run_load, hy']
/-- The cells of a block of the world, as a list. -/
theorem seg_cells {w : World} {b k n : Nat} {c : Array Value} {t : TypeId} {r : Nat × Nat} (h : w.heap[b]? = some (.cells c t r)) (hk : k + n ≤ c.size) : ((c.toList.drop k).take n).length = n ∧ ∀ (j : Nat) (v : Value), ((c.toList.drop k).take n)[j]? = some v → w.cell? ⟨b, k + j, none⟩ = some v := by
  refine ⟨by simp; omega, fun j v hj => ?_⟩
  obtain ⟨h1, h2⟩ := take_get hj
  exact cell_of h (by simpa using h1)
theorem rel_cells {μ : Mu} {cs : List AV} {c : Array Value} {b0 : Nat} (h : ∀ (j : Nat) (x : AV), cs[j]? = some x → ∃ y, c[b0 + j]? = some y ∧ VR μ x y) (hs : b0 + cs.length ≤ c.size) : VRs μ cs ((c.toList.drop b0).take cs.length) :=
  VRs.of (by simp; omega) (fun j x hj => by
    obtain ⟨y, hy, hv⟩ := h j x hj
    have : j < cs.length := by
      rcases Nat.lt_or_ge j cs.length with g | g
      · exact g
      · rw [List.getElem?_eq_none g] at hj; cases hj
    exact ⟨y, by rw [List.getElem?_take_of_lt this, List.getElem?_drop]; simpa using hy, hv⟩)
theorem take_drop_take {α : Type} (l : List α) (k n m : Nat) (h : k + n ≤ m) : ((l.take m).drop k).take n = (l.drop k).take n := by
  rw [List.drop_take, List.take_take, Nat.min_eq_left (by omega)]
theorem OP.loadN {t : TypeId} {p : Operand} {d : TypeDesc} {info : TypeInfo} {i : Nat} {k : Nat} {cs : List AV} (ho : o.op = .load t p) (ht : P.underlying t = some d) (ha : aggD d = true) (hs : P.info? t = some info) (hp : σ.ev p = .ptr i k) (hg : hget σ.H i = some cs) (h0 : info.size ≠ 0) (hx : k + info.size ≤ cs.length) (hk : kp i = true) :
    OP P E kp o σ (.agg ((cs.drop k).take info.size)) := fun μ a w hi => by
  have hv := hi.ev p
  rw [hp] at hv
  obtain ⟨b, hb⟩ := hi.heap.there i cs hg (fun e => by rw [e] at hx; simp at hx; omega)
  obtain ⟨c0, t0, g1, g2, g3, g4⟩ := hi.heap.own i cs hg b hb
  have hrel := (rel_cells g4 (by omega)).seg k info.size
  rw [take_drop_take _ _ _ _ hx, List.drop_drop] at hrel
  obtain ⟨hll, hcell⟩ := seg_cells (w := w) (k := b.base + k) (n := info.size) g1 (by omega)
  refine ⟨.agg ((c0.toList.drop (b.base + k)).take info.size).toArray, .agg hrel, fun w' hw' => ?_⟩
  generalize hc : a.eval p = c at hv
  cases hv with
  | ptr hm =>
    rename_i d'
    obtain rfl : b = d' := Option.some.inj (hb.symm.trans hm)
    have hld := run_loadCells_list (P := P) w' ⟨b.block, b.base + k, none⟩ ((c0.toList.drop (b.base + k)).take info.size) (fun j v hj => by rw [addr_add, ← cell_block (hw'.own i hk b hb)]; exact hcell j v hj)
    rw [hll] at hld
    simp only [execOp, ho, hc, Instr.loadAt, Instr.sureAddr, loadVar, Sem.run_bind, Sem.run_pure, Result.andThen_ok, run_isAgg' ht, ha, if_true, run_sizeOf' hs, hld]
/-- A read of frozen memory. -/
theorem OP.loadF1 {t : TypeId} {p : Operand} {d : TypeDesc} {l : Bool} {xs : List AV} {x : AV} (ho : o.op = .load t p) (ht : P.underlying t = some d) (ha : aggD d = false) (hp : σ.ev p = .pfz l xs) (hx : xs[0]? = some x) : OP P E kp o σ x := fun μ a w hi => by
  have hv := hi.ev p
  rw [hp] at hv
  generalize hc : a.eval p = c at hv
  cases hv with
  | @pfz _ off b cs _ hr hk =>
    obtain ⟨c0, t0, r0, g1, g2⟩ := hi.heap.rd _ _ _ hr
    subst g2
    obtain ⟨y, hy, hxy⟩ := hk.get 0 x hx
    obtain ⟨hy1, _⟩ := take_get hy
    refine ⟨y, hxy, fun w' hw' => ?_⟩
    have hy' : w'.cell? ⟨b, off, none⟩ = some y := (cell_block (hw'.rd _ _ _ hr)).symm.trans (cell_of g1 (by simpa using hy1))
    simp only [execOp, ho, hc, Instr.loadAt, Instr.sureAddr, loadVar, Sem.run_bind, Sem.run_pure, Result.andThen_ok, run_isAgg' ht, ha, Bool.false_eq_true, if_false, run_load, hy']
theorem OP.loadFN {t : TypeId} {p : Operand} {d : TypeDesc} {info : TypeInfo} {l : Bool} {xs : List AV} (ho : o.op = .load t p) (ht : P.underlying t = some d) (ha : aggD d = true) (hs : P.info? t = some info) (hp : σ.ev p = .pfz l xs) (h0 : info.size ≠ 0) (hx : info.size ≤ xs.length) :
    OP P E kp o σ (.agg (xs.take info.size)) := fun μ a w hi => by
  have hv := hi.ev p
  rw [hp] at hv
  generalize hc : a.eval p = c at hv
  cases hv with
  | @pfz _ off b cs _ hr hk =>
    obtain ⟨c0, t0, r0, g1, g2⟩ := hi.heap.rd _ _ _ hr
    subst g2
    have hlen := hk.length
    have hrel := hk.take info.size
    rw [List.take_take, Nat.min_eq_left hx] at hrel
    obtain ⟨hll, hcell⟩ := seg_cells (w := w) (k := off) (n := info.size) g1 (by simp at hlen; have := List.length_drop (i := off) (l := c0.toList); simp at this; omega)
    refine ⟨.agg ((c0.toList.drop off).take info.size).toArray, .agg hrel, fun w' hw' => ?_⟩
    have hld := run_loadCells_list (P := P) w' ⟨b, off, none⟩ ((c0.toList.drop off).take info.size) (fun j v hj => by rw [addr_add, ← cell_block (hw'.rd _ _ _ hr)]; exact hcell j v hj)
    rw [hll] at hld
    simp only [execOp, ho, hc, Instr.loadAt, Instr.sureAddr, loadVar, Sem.run_bind, Sem.run_pure, Result.andThen_ok, run_isAgg' ht, ha, if_true, run_sizeOf' hs, hld]
/-- xs from place k on. -/
def upd (cs : List AV) (k : Nat) : List AV → List AV
  | [] => cs
  | x :: xs => upd (cs.set k x) (k + 1) xs
theorem upd_length (xs : List AV) : ∀ (cs : List AV) (k : Nat), (upd cs k xs).length = cs.length := by
  induction xs with
  | nil => intro cs k; rfl
  | cons x xs ih => intro cs k; simp [upd, ih]
theorem hput_put : ∀ (H : Hp) (i : Nat) (cs ds : List AV), hput (hput H i cs) i ds = hput H i ds
  | [], _, _, _ => rfl
  | (k, es) :: r, i, cs, ds => by
    by_cases e : k = i
    · subst e; simp [hput]
    · simp only [hput, beq_ne e, Bool.false_eq_true, if_false]
      rw [hput_put r]
theorem hput_same : ∀ {H : Hp} {i : Nat} {cs : List AV}, hget H i = some cs → hput H i cs = H
  | [], _, _, h => rfl
  | (k, es) :: r, i, cs, h => by
    by_cases e : k = i
    · subst e
      simp only [hget, Nat.beq_refl, if_true, Option.some.injEq] at h
      subst h
      simp [hput]
    · simp only [hget, beq_ne e, Bool.false_eq_true, if_false] at h
      simp only [hput, beq_ne e, Bool.false_eq_true, if_false]
      rw [hput_same h]
theorem hput_none : ∀ {H : Hp} {i : Nat} {cs : List AV}, hget H i = none → hput H i cs = H
  | [], i, cs, h => rfl
  | (k, es) :: r, i, cs, h => by
    by_cases e : k = i
    · subst e; simp [hget] at h
    · simp only [hget, beq_ne e, Bool.false_eq_true, if_false] at h
      simp only [hput, beq_ne e, Bool.false_eq_true, if_false]
      rw [hput_none h]
theorem hput_alive {H : Hp} {i j : Nat} {cs ds : List AV} (h : hget (hput H i cs) j = some ds) : ∃ es, hget H j = some es := by
  by_cases e : i = j
  · subst e
    cases hg : hget H i with
    | some es => exact ⟨es, rfl⟩
    | none => rw [hput_none hg, hg] at h; cases h
  · rw [hget_hput_ne e] at h; exact ⟨ds, h⟩
theorem INV.write {μ : Mu} {a : Act} {w : World} {i : Nat} {cs : List AV} (h : INV E μ σ a w) (hi : hget σ.H i = some cs) {k : Nat} (hk : k < cs.length) {b : Pl} (hb : μ.pl i = some b) {x : AV} {c : Value} (hx : VR μ x c) :
    INV E μ ⟨σ.T, hput σ.H i (cs.set k x), σ.nx⟩ a (w.setCell ⟨b.block, b.base + k, none⟩ c) := by
  refine ⟨h.tmps, h.size, h.defers, h.heap.write hi hk hb hx, h.fresh, fun j ds hj => ?_, ?_, fun j ds p hj hp => ?_, h.fzn, h.fzo, h.lno⟩
  · obtain ⟨es, hj'⟩ := hput_alive hj
    exact h.low j es hj'
  · refine ⟨h.kept.os, h.kept.tape, h.kept.output, by simpa [World.setCell] using h.kept.size, fun m hm hmm => ?_⟩
    rw [Below.heap_setCell]
    · exact h.kept.block m hm hmm
    · rintro rfl
      rcases h.may i cs b hi hb with g | g
      · simp only at hm; omega
      · exact hmm g
  · obtain ⟨es, hj'⟩ := hput_alive hj
    exact h.may j es p hj' hp
theorem INV.writes {μ : Mu} {a : Act} {i : Nat} {b : Pl} (hb : μ.pl i = some b) : ∀ (xs : List AV) (vs : List Value) (σ : St) (w : World) (cs : List AV) (k j : Nat), INV E μ σ a w → hget σ.H i = some cs → k + j + xs.length ≤ cs.length → VRs μ xs vs → (∀ y ∈ xs, y.one = true) →
    ∃ w', (storeCells ⟨b.block, b.base + k, none⟩ vs j).run P w = .ok () w' ∧ INV E μ ⟨σ.T, hput σ.H i (upd cs (k + j) xs), σ.nx⟩ a w' ∧ ∀ m, m ≠ b.block → w'.heap[m]? = w.heap[m]? := by
  intro xs
  induction xs with
  | nil =>
    intro vs σ w cs k j hi hg hlen hv _
    cases hv
    refine ⟨w, rfl, ?_, fun _ _ => rfl⟩
    rw [show upd cs (k + j) [] = cs from rfl, hput_same hg]
    exact hi
  | cons x xs ih =>
    intro vs σ w cs k j hi hg hlen hv hone
    cases hv with
    | cons hx hxs =>
      rename_i c cs'
      have h1 := hone x List.mem_cons_self
      simp only [List.length_cons] at hlen
      have hkj : k + j < cs.length := by omega
      obtain ⟨c0, t0, g1, g2, g3, g4⟩ := hi.heap.own i cs hg b hb
      have hw := hi.write hg hkj hb hx
      have hg' : hget (hput σ.H i (cs.set (k + j) x)) i = some (cs.set (k + j) x) := hget_hput_same (by rw [hg]; simp)
      obtain ⟨w', hr, hi', hk'⟩ := ih cs' ⟨σ.T, hput σ.H i (cs.set (k + j) x), σ.nx⟩ _ (cs.set (k + j) x) k (j + 1) hw hg' (by simp; omega) hxs (fun y hy => hone y (List.mem_cons_of_mem _ hy))
      refine ⟨w', ?_, ?_, fun m hm => (hk' m hm).trans (Below.heap_setCell _ _ _ _ hm)⟩
      · have hcell : w.cell? ⟨b.block, b.base + k + j, none⟩ = some c0[b.base + k + j] := cell_of g1 (by rw [Array.getElem?_eq_getElem (by omega)])
        have hfro : w.frozen? ⟨b.block, b.base + k + j, none⟩ = false := by simp [World.frozen?, g1]
        have hst : (store ((⟨b.block, b.base + k, none⟩ : Addr).add j) c).run P w = .ok () (w.setCell ⟨b.block, b.base + (k + j), none⟩ c) := by
          rw [addr_add, ← Nat.add_assoc, run_store P w _ c _ (hx.one h1), hcell]
          simp [hfro]
        simp only [storeCells, Sem.run_bind, hst, Result.andThen_ok]
        exact hr
      · simp only [hput_put] at hi'
        exact hi'
/-- A write. -/
theorem OS0.store {t : TypeId} {p x : Operand} {info : TypeInfo} {i : Nat} {k : Nat} {cs : List AV} (ho : o.op = .store t p x) (hs : P.info? t = some info) (h0 : info.size ≠ 0) (hp : σ.ev p = .ptr i k) (hg : hget σ.H i = some cs) (hlen : (σ.ev x).cells.length = info.size) (hk : k + info.size ≤ cs.length) (hone : ∀ y ∈ (σ.ev x).cells, y.one = true) (hkp : ∀ j, kp j = true → (hget σ.H j).isSome = true ∧ j ≠ i) :
    OS0 P E kp o σ ⟨σ.T, hput σ.H i (upd cs k (σ.ev x).cells), σ.nx⟩ := fun μ a w hi => by
  have hv := hi.ev p
  rw [hp] at hv
  have hc := (hi.ev x).cells_ hone
  obtain ⟨b, hb⟩ := hi.heap.there i cs hg (fun e => by rw [e] at hk; simp at hk; omega)
  obtain ⟨w', hr, hi', hrest⟩ := INV.writes (P := P) hb (σ.ev x).cells _ σ w cs k 0 hi hg (by omega) hc hone
  refine ⟨w', μ, ?_, hi', .refl _, fun j hj q hq => hrest _ (fun e => ?_), fun l q qs hq => hrest _ (fun e => ?_)⟩
  · generalize hcp : a.eval p = c at hv
    cases hv with
    | ptr hm =>
      rename_i d'
      obtain rfl : b = d' := Option.some.inj (hb.symm.trans hm)
      have hsz : ¬ (a.eval x).cells.size ≠ info.size := by
        have := hc.length
        simp only [Array.length_toList] at this
        simp [this, hlen]
      simp only [execOp, ho, hcp, Instr.storeAt, Instr.sureAddr, storeVar, Sem.run_bind, Sem.run_pure, Result.andThen_ok, run_sizeOf' hs, if_neg hsz, hr]
  · obtain ⟨h1, h2⟩ := hkp j hj
    obtain ⟨ds, hds⟩ := Option.isSome_iff_exists.1 h1
    exact hi.heap.apart i j cs ds (Ne.symm h2) hg hds b q hb hq e.symm
  · subst e
    rw [hi.heap.far i cs b hg hb l] at hq
    cases hq
end
end Go.BH
