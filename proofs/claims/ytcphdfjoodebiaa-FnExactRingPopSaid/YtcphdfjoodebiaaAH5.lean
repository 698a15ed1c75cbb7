/- The plain picture of a call's memory, 5: what reads and writes it. -/
import Derived.Test.YtcphdfjoodebiaaAH4
set_option linter.unusedVariables false
set_option linter.unusedSimpArgs false
namespace Go.AH
open Go.RowKit
/-- One cell's worth. -/
def AV.one : AV → Bool
  | .v x => x.oneCell'
  | .ptr _ _ => true
  | .sl _ _ _ _ => true
  | .e0 => true
  | .fn _ _ _ => true
  | _ => false
theorem VR.one {μ : Id → Option Pl} {x : AV} {c : Value} (h : VR μ x c) (ho : x.one = true) : c.oneCell' = true := by
  cases h <;> simp_all [AV.one, Value.oneCell']
def AV.cells : AV → List AV
  | .agg cs => cs
  | x => [x]
theorem cells_one {c : Value} (h : c.oneCell' = true) : c.cells = #[c] := by
  cases c <;> simp_all [Value.oneCell', Value.cells]
/-- The cells of a value that is one cell, or an aggregate of such. -/
theorem VR.cells_ {μ : Id → Option Pl} {x : AV} {c : Value} (h : VR μ x c) (ho : ∀ y ∈ x.cells, y.one = true) : VRs μ x.cells c.cells.toList := by
  cases h with
  | agg k => simpa [AV.cells, Value.cells] using k
  | any => exact absurd (ho _ (List.mem_singleton.2 rfl)) (by simp [AV.one])
  | tup => exact absurd (ho _ (List.mem_singleton.2 rfl)) (by simp [AV.one])
  | v =>
    have := ho _ (List.mem_singleton.2 rfl)
    rw [cells_one (by simpa [AV.one] using this)]
    exact .cons (.v _) .nil
  | ptr k => exact .cons (.ptr k) .nil
  | sl k hc he => exact .cons (.sl k hc he) .nil
  | sl0 a => exact .cons (.sl0 a) .nil
  | nl => exact .cons .nl .nil
  | e0 a => exact .cons (.e0 a) .nil
  | fn k m => exact .cons (.fn k m) .nil
theorem VRs.ones {μ : Id → Option Pl} : ∀ {x : List AV} {c : List Value}, VRs μ x c → (∀ y ∈ x, y.one = true) → ∀ d ∈ c, d.oneCell' = true
  | _, _, .nil, _ => fun d hd => by cases hd
  | _, _, .cons k m, ho => fun d hd => by
    rcases List.mem_cons.1 hd with rfl | hd
    · exact k.one (ho _ List.mem_cons_self)
    · exact VRs.ones m (fun y hy => ho y (List.mem_cons_of_mem _ hy)) d hd
def aggD : TypeDesc → Bool
  | .struct _ | .array _ _ => true
  | _ => false
theorem run_isAgg' {P : Program} {t : TypeId} {d : TypeDesc} (h : P.underlying t = some d) (w : World) : (isAgg t).run P w = .ok (aggD d) w := by
  simp only [isAgg, Sem.run_bind, run_underlying h, Result.andThen_ok]
  cases d <;> rfl
theorem run_typeInfo' {P : Program} {t : TypeId} {i : TypeInfo} (h : P.info? t = some i) (w : World) : (typeInfo t).run P w = .ok i w := by
  simp [typeInfo, program, Sem.run, h]
theorem run_sizeOf' {P : Program} {t : TypeId} {i : TypeInfo} (h : P.info? t = some i) (w : World) : (sizeOf t).run P w = .ok i.size w := by
  simp only [sizeOf, Sem.run_bind, run_typeInfo' h, Result.andThen_ok, Sem.run_pure]
theorem addr_add (b o n : Nat) : (⟨b, o, none⟩ : Addr).add n = ⟨b, o + n, none⟩ := by
  unfold Addr.add
  split
  · rename_i h
    rw [h, Nat.add_zero]
  · rfl
section
variable {P : Program} {base : Nat} {E : En} {σ : St} {o : Oper} {kp : Id → Bool}
theorem cells_ne {b : Blk} {k : Nat} {x : AV} (h : b.cells[k]? = some x) : b.cells ≠ [] := fun e => by rw [e] at h; cases h
/-- A read. -/
theorem OP.load1 {t : TypeId} {p : Operand} {d : TypeDesc} {i : Id} {k : Nat} {x : AV} (ho : o.op = .load t p) (ht : P.underlying t = some d) (ha : aggD d = false) (hp : σ.ev p = .ptr i k) (hx : (σ.H.get i).cells[k]? = some x) (hk : kp i = true) : OP P base E kp o σ x := fun μ a w hi => by
  have hv := hi.ev p
  rw [hp] at hv
  obtain ⟨b, hb, hl, hat⟩ := hi.heap.there i (cells_ne hx)
  obtain ⟨y, hy, hxy⟩ := hat k x hx
  refine ⟨y, hxy, fun w' hw' => ?_⟩
  generalize hc : a.eval p = c at hv
  cases hv with
  | ptr hm =>
    rename_i d'
    obtain rfl : b = d' := Option.some.inj (hb.symm.trans hm)
    have hy' : w'.cell? ⟨b.block, b.off + k, none⟩ = some y := (cell_block (hw' i hk b hb)).symm.trans hy
    simp only [execOp, ho, hc, Instr.loadAt, Instr.sureAddr, loadVar, Sem.run_bind, Sem.run_pure, Result.andThen_ok, run_isAgg' ht, ha, Bool.false_eq_true, if_false, run_load, hy']
theorem take_get {l : List AV} {k n j : Nat} {x : AV} (h : ((l.drop k).take n)[j]? = some x) : l[k + j]? = some x ∧ j < n := by
  have hj : j < n := by
    rcases Nat.lt_or_ge j n with g | g
    · exact g
    · rw [List.getElem?_eq_none (by simp; omega)] at h; cases h
  rw [List.getElem?_take_of_lt hj, List.getElem?_drop] at h
  exact ⟨h, hj⟩
/-- The cells k .. k + n of a block, as the world has them. -/
theorem At.seg {μ : Id → Option Pl} {w : World} {b : Pl} {cs : List AV} (hat : At μ w b cs) {k n : Nat} (hx : k + n ≤ cs.length) : ∃ l : List Value, l.length = n ∧ VRs μ ((cs.drop k).take n) l ∧ ∀ (j : Nat) (v : Value), l[j]? = some v → w.cell? ⟨b.block, b.off + (k + j), none⟩ = some v := by
  have hlen : ((cs.drop k).take n).length = n := by simp; omega
  refine ⟨(List.range n).map fun j => (w.cell? ⟨b.block, b.off + (k + j), none⟩).getD undef, by simp, VRs.of (by simp; omega) (fun j y hj => ?_), fun j v hj => ?_⟩
  · obtain ⟨hj', hlt⟩ := take_get hj
    obtain ⟨z, hz, hv'⟩ := hat _ y hj'
    exact ⟨z, by simp [List.getElem?_range hlt, hz], hv'⟩
  · have hlt : j < n := by
      rcases Nat.lt_or_ge j n with g | g
      · exact g
      · rw [List.getElem?_eq_none (by simpa using g)] at hj; cases hj
    have hmem : cs[k + j]? = some (cs[k + j]'(by omega)) := List.getElem?_eq_getElem (by omega)
    obtain ⟨z, hz, _⟩ := hat _ _ hmem
    simp [List.getElem?_range hlt, hz] at hj
    rw [hz, hj]
theorem OP.loadN {t : TypeId} {p : Operand} {d : TypeDesc} {info : TypeInfo} {i : Id} {k : Nat} (ho : o.op = .load t p) (ht : P.underlying t = some d) (ha : aggD d = true) (hs : P.info? t = some info) (hp : σ.ev p = .ptr i k) (h0 : info.size ≠ 0) (hx : k + info.size ≤ (σ.H.get i).cells.length) (hk : kp i = true) :
    OP P base E kp o σ (.agg (((σ.H.get i).cells.drop k).take info.size)) := fun μ a w hi => by
  have hv := hi.ev p
  rw [hp] at hv
  obtain ⟨b, hb, hl, hat⟩ := hi.heap.there i (fun e => by rw [e] at hx; simp at hx; omega)
  obtain ⟨l, hll, hrel, hcell⟩ := hat.seg hx
  refine ⟨.agg l.toArray, .agg hrel, fun w' hw' => ?_⟩
  generalize hc : a.eval p = c at hv
  cases hv with
  | ptr hm =>
    rename_i d'
    obtain rfl : b = d' := Option.some.inj (hb.symm.trans hm)
    have hld := run_loadCells_list (P := P) w' ⟨b.block, b.off + k, none⟩ l (fun j v hj => by rw [addr_add, Nat.add_assoc, ← cell_block (hw' i hk b hb)]; exact hcell j v hj)
    rw [hll] at hld
    simp only [execOp, ho, hc, Instr.loadAt, Instr.sureAddr, loadVar, Sem.run_bind, Sem.run_pure, Result.andThen_ok, run_isAgg' ht, ha, if_true, run_sizeOf' hs, hld]
theorem put_put (H : Hp) (i : Id) (cs ds : List AV) : (H.put i cs).put i ds = H.put i ds := by
  cases i with
  | g n => simp [Hp.put]
  | l n =>
    simp only [Hp.put]
    congr 1
    generalize H.l = l
    induction l with
    | nil => simp [lput]
    | cons p r ih =>
      obtain ⟨k, es⟩ := p
      by_cases e : k = n
      · simp [lput, e]
      · simp [lput, e, ih]
/-- xs from place k on. -/
def upd (cs : List AV) (k : Nat) : List AV → List AV
  | [] => cs
  | x :: xs => upd (cs.set k x) (k + 1) xs
theorem upd_length (xs : List AV) : ∀ (cs : List AV) (k : Nat), (upd cs k xs).length = cs.length := by
  induction xs with
  | nil => intro cs k; rfl
  | cons x xs ih => intro cs k; simp [upd, ih]
/-- May this block be written? -/
def En.lets (E : En) : Id → Prop
  | .l _ => True
  | .g n => E.g.length ≤ n ∨ E.M n
theorem INV.lets {μ : Id → Option Pl} {a : Act} {w : World} {i : Id} (h : INV base E μ σ a w) (hi : (σ.H.get i).isOwn = true) (hl : E.lets i) {b : Pl} (hb : μ i = some b) : E.w.heap.size ≤ b.block ∨ E.may b.block := by
  cases i with
  | l n => exact .inl (h.new (.l n) (alive_own hi) (fun m hm => by cases hm) b hb)
  | g n =>
    by_cases hn : E.g.length ≤ n
    · exact .inl (h.new (.g n) (alive_own hi) (fun m hm => by cases hm; exact hn) b hb)
    · rcases hl with hl | hl
      · exact absurd hl hn
      · exact .inr ⟨n, b, hl, by rw [← h.same n (by omega)]; exact hb, rfl⟩
theorem INV.write {μ : Id → Option Pl} {a : Act} {w : World} {i : Id} {cs : List AV} (h : INV base E μ σ a w) (hi : σ.H.get i = .own cs) (hl : E.lets i) {k : Nat} (hk : k < cs.length) {b : Pl} (hb : μ i = some b) {x : AV} {c : Value} (hx : VR μ x c) (hn : x.noL = true) :
    INV base E μ ⟨σ.T, σ.H.put i (cs.set k x)⟩ a (w.setCell ⟨b.block, b.off + k, none⟩ c) := by
  have hal : (σ.H.get i).alive = true := by rw [hi]; rfl
  have how : (σ.H.get i).isOwn = true := by rw [hi]; rfl
  refine ⟨h.tmps, h.size, h.defers, h.heap.write hi hk hb hx hn, fun n hlen => h.fresh n ?_, by simpa [World.setCell] using h.le, h.same, ?_, fun j hj hne d hd => ?_, ?_⟩
  · cases i with
    | g m => simpa [Hp.put] using hlen
    | l m => exact hlen
  · refine ⟨h.kept.os, h.kept.tape, h.kept.output, by simpa [World.setCell] using h.kept.size, fun m hm hmm => ?_⟩
    rw [Below.heap_setCell]
    · exact h.kept.block m hm hmm
    · rintro rfl
      rcases h.lets how hl hb with g | g
      · simp only at hm; omega
      · exact hmm g
  · by_cases e : i = j
    · subst e; exact h.new i hal hne d hd
    · rw [get_put_ne e] at hj; exact h.new j hj hne d hd
  · cases i with
    | g m => simpa [Hp.put] using h.len
    | l m => exact h.len
theorem INV.writes {μ : Id → Option Pl} {a : Act} {i : Id} {b : Pl} (hb : μ i = some b) (hl : E.lets i) : ∀ (xs : List AV) (vs : List Value) (σ : St) (w : World) (cs : List AV) (k j : Nat), INV base E μ σ a w → σ.H.get i = .own cs → k + j + xs.length ≤ cs.length → VRs μ xs vs → (∀ y ∈ xs, y.one = true ∧ y.noL = true) →
    ∃ w', (storeCells ⟨b.block, b.off + k, none⟩ vs j).run P w = .ok () w' ∧ INV base E μ ⟨σ.T, σ.H.put i (upd cs (k + j) xs)⟩ a w' ∧ ∀ m, m ≠ b.block → w'.heap[m]? = w.heap[m]? := by
  intro xs
  induction xs with
  | nil =>
    intro vs σ w cs k j hi hg hlen hv _
    cases hv
    refine ⟨w, rfl, ?_, fun _ _ => rfl⟩
    have : INV base E μ ⟨σ.T, σ.H.put i cs⟩ a w := by
      have hH : ∀ m, (σ.H.put i cs).get m = σ.H.get m := fun m => by
        by_cases e : i = m
        · subst e; rw [get_put_same (by rw [hg]; rfl), hg]
        · rw [get_put_ne e]
      refine ⟨hi.tmps, hi.size, hi.defers, ⟨fun m hm => ?_, fun m hm => ?_, fun m n hmn hm hn => ?_, fun m x hx => ?_, hi.heap.old⟩, fun n hn => hi.fresh n ?_, hi.le, hi.same, hi.kept, fun m hm => ?_, ?_⟩
      · simp only [hH] at hm ⊢; exact hi.heap.there m hm
      · simp only [hH] at hm ⊢; exact hi.heap.own m hm
      · simp only [hH] at hm hn; exact hi.heap.apart m n hmn hm hn
      · simp only [hH] at hx; exact hi.heap.clean m x hx
      · cases i with
        | g m => simpa [Hp.put] using hn
        | l m => exact hn
      · simp only [hH] at hm; exact hi.new m hm
      · cases i with
        | g m => simpa [Hp.put] using hi.len
        | l m => exact hi.len
    exact this
  | cons x xs ih =>
    intro vs σ w cs k j hi hg hlen hv hone
    cases hv with
    | cons hx hxs =>
      rename_i c cs'
      obtain ⟨h1, h2⟩ := hone x List.mem_cons_self
      simp only [List.length_cons] at hlen
      have hkj : k + j < cs.length := by omega
      obtain ⟨b', y, hb', _, hcell, hfro⟩ := hi.heap.cell hg hkj
      obtain rfl := Option.some.inj (hb'.symm.trans hb)
      have hw := hi.write hg hl hkj hb' hx h2
      have hg' : (σ.H.put i (cs.set (k + j) x)).get i = .own (cs.set (k + j) x) := get_put_same (by rw [hg]; rfl) _
      obtain ⟨w', hr, hi', hk'⟩ := ih cs' ⟨σ.T, σ.H.put i (cs.set (k + j) x)⟩ _ (cs.set (k + j) x) k (j + 1) hw hg' (by simp; omega) hxs (fun y hy => hone y (List.mem_cons_of_mem _ hy))
      refine ⟨w', ?_, ?_, fun m hm => (hk' m hm).trans (Below.heap_setCell _ _ _ _ hm)⟩
      · have hst : (store ((⟨b'.block, b'.off + k, none⟩ : Addr).add j) c).run P w = .ok () (w.setCell ⟨b'.block, b'.off + (k + j), none⟩ c) := by
          rw [addr_add, Nat.add_assoc, run_store P w _ c _ (hx.one h1), hcell]
          simp [hfro]
        simp only [storeCells, Sem.run_bind, hst, Result.andThen_ok]
        exact hr
      · simp only [put_put] at hi'
        exact hi'
/-- A write. -/
theorem OS0.store {t : TypeId} {p x : Operand} {info : TypeInfo} {i : Id} {k : Nat} {cs : List AV} (ho : o.op = .store t p x) (hs : P.info? t = some info) (h0 : info.size ≠ 0) (hp : σ.ev p = .ptr i k) (hg : σ.H.get i = .own cs) (hl : E.lets i) (hlen : (σ.ev x).cells.length = info.size) (hk : k + info.size ≤ cs.length) (hone : ∀ y ∈ (σ.ev x).cells, y.one = true ∧ y.noL = true) (hkp : ∀ j, kp j = true → (σ.H.get j).alive = true ∧ j ≠ i) :
    OS0 P base E kp o σ ⟨σ.T, σ.H.put i (upd cs k (σ.ev x).cells)⟩ := fun μ a w hi => by
  have hv := hi.ev p
  rw [hp] at hv
  have hc := (hi.ev x).cells_ (fun y hy => (hone y hy).1)
  obtain ⟨b, hb, _⟩ := hi.heap.there i (by rw [hg]; intro e; rw [show cs = [] from e] at hk; simp at hk; omega)
  obtain ⟨w', hr, hi', hrest⟩ := INV.writes (P := P) hb hl (σ.ev x).cells _ σ w cs k 0 hi hg (by omega) hc hone
  refine ⟨w', μ, ?_, hi', fun j hj q hq => ⟨hq, hrest _ (fun e => ?_)⟩⟩
  · generalize hcp : a.eval p = c at hv
    cases hv with
    | ptr hm =>
      rename_i d'
      obtain rfl : b = d' := Option.some.inj (hb.symm.trans hm)
      have hsz : ¬ (a.eval x).cells.size ≠ info.size := by
        have := hc.length
        simp only [Array.length_toList] at this
        simp [this, hlen]
      simp only [execOp, ho, hcp, Instr.storeAt, Instr.sureAddr, storeVar, Sem.run_bind, Sem.run_pure, Result.andThen_ok, run_sizeOf' hs, if_neg hsz, hr]
  · exact hi.heap.apart i j (hkp j hj).2.symm (by rw [hg]; rfl) (hkp j hj).1 b q hb hq e.symm
end
end Go.AH
