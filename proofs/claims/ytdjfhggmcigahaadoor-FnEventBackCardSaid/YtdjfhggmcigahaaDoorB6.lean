/- The picture by value, 6: new blocks, places, parts, literals. -/
import Derived.Test.YtdjfhggmcigahaaDoorB5
set_option linter.unusedVariables false
set_option linter.unusedSimpArgs false
namespace Go.BH
open Go.RowKit
section
variable {P : Program} {E : En} {σ : St} {o : Oper} {kp : Nat → Bool}
theorem no_name {μ : Mu} {a : Act} {w : World} (h : INV E μ σ a w) : hget σ.H σ.nx = none := by
  cases e : hget σ.H σ.nx with
  | none => rfl
  | some cs => exact absurd (h.low _ cs e) (Nat.lt_irrefl _)
/-- A new block, under the next name, that the world has had before only as another's room, or not at all. -/
theorem INV.name {μ : Mu} {a : Act} {w w' : World} {cs : List AV} {p : Pl} {c : Array Value} {t : TypeId} (h : INV E μ σ a w) (hc : w'.heap[p.block]? = some (.cells c t (0, 0))) (h1 : p.base + p.ext ≤ c.size) (h2 : cs.length ≤ p.ext) (h3 : ∀ (j : Nat) (x : AV), cs[j]? = some x → ∃ y, c[p.base + j]? = some y ∧ VR μ x y)
    (hb : ∀ j ds, hget σ.H j = some ds → ∀ b, μ.pl j = some b → b.block ≠ p.block ∧ w'.heap[b.block]? = w.heap[b.block]?) (hr : ∀ l b ds, μ.rd l b = some ds → b ≠ p.block ∧ w'.heap[b]? = w.heap[b]?) (hk : Kept E.may w w') (hm : E.w.heap.size ≤ p.block ∨ E.may p.block) :
    INV E (μ.put σ.nx p) ⟨σ.T, σ.H ++ [(σ.nx, cs)], σ.nx + 1⟩ a w' := by
  have hno := h.fresh σ.nx (Nat.le_refl _)
  have hsub := Mu.put_sub hno p
  have hn := no_name h
  refine ⟨fun t => (h.tmps t).mono hsub, h.size, h.defers, h.heap.name hno hn hc h1 h2 h3 hb hr, fun i hi => ?_, fun i ds hi => ?_, h.kept.trans hk, fun i ds b hi hb' => ?_, h.fzn, h.fzo, h.lno.1, fun i hi => ?_, by have := h.lno.2.2; simp only; omega⟩
  · simp only at hi
    rw [Mu.put_ne _ _ (show i ≠ σ.nx by omega)]
    exact h.fresh i (by omega)
  · rw [hget_snoc hn] at hi
    by_cases e : i = σ.nx
    · subst e; exact Nat.lt_succ_self _
    · rw [if_neg e] at hi
      exact Nat.lt_succ_of_lt (h.low i ds hi)
  · rw [hget_snoc hn] at hi
    by_cases e : i = σ.nx
    · subst e
      rw [Mu.put_same] at hb'
      obtain rfl := Option.some.inj hb'
      exact hm
    · rw [if_neg e] at hi
      rw [Mu.put_ne _ _ e] at hb'
      exact h.may i ds b hi hb'
  · have := h.lno.2.2
    rw [Mu.put_ne _ _ (show i ≠ σ.nx by omega)]
    exact h.lno.2.1 i hi
theorem INV.alloc {μ : Mu} {a : Act} {w : World} (h : INV E μ σ a w) {cs : List AV} {l : List Value} (hv : VRs μ cs l) (rest : Array Value) (t : TypeId) :
    INV E (μ.put σ.nx ⟨w.heap.size, 0, l.length + rest.size⟩) ⟨σ.T, σ.H ++ [(σ.nx, cs)], σ.nx + 1⟩ a (w.alloc (.cells (l.toArray ++ rest) t)) := by
  have hlen := hv.length
  refine h.name (alloc_self _ _ _) (by simp) (by simp; omega) (fun j x hj => ?_) (fun j ds hj b hb => ?_) (fun l b ds hl => ?_) (Kept.alloc _ _ _) (.inl h.kept.size)
  · obtain ⟨d, hd, hvd⟩ := hv.get j x hj
    have hml : j < l.length := by
      rcases Nat.lt_or_ge j l.length with g | g
      · exact g
      · rw [List.getElem?_eq_none g] at hd; cases hd
    exact ⟨d, by rw [Nat.zero_add, Array.getElem?_append_left (by simpa using hml)]; simpa using hd, hvd⟩
  · obtain ⟨c, t, g, _⟩ := h.heap.own j ds hj b hb
    have := lt_of_heap g
    exact ⟨by simp only; omega, Below.heap_alloc _ _ _ this⟩
  · obtain ⟨c, t, r, g, _⟩ := h.heap.rd l b ds hl
    have := lt_of_heap g
    exact ⟨by simp only; omega, Below.heap_alloc _ _ _ this⟩
theorem smk_alloc {μ : Mu} {a : Act} {w : World} (h : INV E μ σ a w) (hk : ∀ j, kp j = true → (hget σ.H j).isSome = true) (p : Pl) (ob : Obj) : SMk kp μ (μ.put σ.nx p) w (w.alloc ob) := by
  refine ⟨Mu.put_sub (h.fresh _ (Nat.le_refl _)) p, fun i hi q hq => ?_, fun l b cs hl => ?_⟩
  · obtain ⟨ds, hds⟩ := Option.isSome_iff_exists.1 (hk i hi)
    obtain ⟨c, t, g, _⟩ := h.heap.own i ds hds q hq
    exact Below.heap_alloc _ _ _ (lt_of_heap g)
  · obtain ⟨c, t, r, g, _⟩ := h.heap.rd l b cs hl
    exact Below.heap_alloc _ _ _ (lt_of_heap g)
theorem SMk.drew {μ μ' : Mu} {w w' : World} (h : SMk kp μ μ' w.drew w') : SMk kp μ μ' w w' := ⟨h.sub, ⟨h.sm.own, h.sm.rd⟩⟩
theorem run_zeroValue' {t : TypeId} {i : TypeInfo} {z : Value} (h : P.info? t = some i) (hz : i.zero = some z) (w : World) : (zeroValue t).run P w = .ok z w := by
  simp only [zeroValue, Sem.run_bind, run_typeInfo' h, Result.andThen_ok, hz]
  rfl
def vals (l : List Value) : List AV := l.map .v
theorem VRs.vals {μ : Mu} : ∀ l : List Value, VRs μ (vals l) l
  | [] => .nil
  | x :: xs => .cons (.v x) (VRs.vals xs)
/-- A new variable. -/
theorem OS.alloc {t : TypeId} {info : TypeInfo} {z : Value} (ho : o.op = .alloc t) (hs : P.info? t = some info) (hz : info.zero = some z) (hk : ∀ j, kp j = true → (hget σ.H j).isSome = true) :
    OS P E kp o σ (.ptr σ.nx 0) ⟨σ.T, σ.H ++ [(σ.nx, vals z.cells.toList)], σ.nx + 1⟩ := fun μ a w hi => by
  have := hi.alloc (VRs.vals z.cells.toList) #[] t
  refine ⟨.pointer (some ⟨w.heap.size, 0, none⟩), _, _, ?_, ?_, this, smk_alloc hi hk _ _⟩
  · simp only [execOp, ho, Instr.alloc, Sem.run_bind, run_zeroValue' hs hz, Result.andThen_ok, newVar, newRow, run_newObj_alloc, Sem.run_pure, Array.append_empty]
  · exact .ptr (o := 0) (Mu.put_same _ _ _)
theorem OS.box {t : TypeId} {x : Operand} (ho : o.op = .box t x) (hone : ∀ y ∈ (σ.ev x).cells, y.one = true) (hk : ∀ j, kp j = true → (hget σ.H j).isSome = true) :
    OS P E kp o σ (.ptr σ.nx 0) ⟨σ.T, σ.H ++ [(σ.nx, (σ.ev x).cells)], σ.nx + 1⟩ := fun μ a w hi => by
  have := hi.alloc ((hi.ev x).cells_ hone) #[] t
  refine ⟨.pointer (some ⟨w.heap.size, 0, none⟩), _, _, ?_, ?_, this, smk_alloc hi hk _ _⟩
  · simp only [execOp, ho, Instr.box, Sem.run_bind, Result.andThen_ok, newVar, newRow, run_newObj_alloc, Sem.run_pure, Array.append_empty]
  · exact .ptr (o := 0) (Mu.put_same _ _ _)
theorem OP.fieldAddr {s : TypeId} {x : Operand} {f : Nat} {fs : Array Field} {fd : Field} {info : TypeInfo} {i : Nat} {k : Nat} (ho : o.op = .fieldAddr s x f) (ht : P.underlying s = some (.struct fs)) (hf : fs[f]? = some fd) (hs : P.info? fd.type = some info) (h0 : info.size ≠ 0) (hx : σ.ev x = .ptr i k) :
    OP P E kp o σ (.ptr i (k + fd.offset)) := fun μ a w hi => by
  have hv := hi.ev x
  rw [hx] at hv
  generalize hc : a.eval x = c at hv
  cases hv with
  | ptr hm =>
    rename_i b
    refine ⟨.pointer (some ⟨b.block, b.base + (k + fd.offset), none⟩), .ptr hm, fun w' _ => ?_⟩
    simp only [execOp, ho, hc, Instr.fieldAt, Sem.run_bind, run_underlying ht, Result.andThen_ok, hf, Instr.sureAddr, Sem.run_pure, fieldPlace, run_sizeOf' hs, if_neg h0, addr_add, Nat.add_assoc]
theorem OP.fieldAddrF {s : TypeId} {x : Operand} {f : Nat} {fs : Array Field} {fd : Field} {info : TypeInfo} {l : Bool} {xs : List AV} (ho : o.op = .fieldAddr s x f) (ht : P.underlying s = some (.struct fs)) (hf : fs[f]? = some fd) (hs : P.info? fd.type = some info) (h0 : info.size ≠ 0) (hx : σ.ev x = .pfz l xs) :
    OP P E kp o σ (.pfz l (xs.drop fd.offset)) := fun μ a w hi => by
  have hv := hi.ev x
  rw [hx] at hv
  generalize hc : a.eval x = c at hv
  cases hv with
  | @pfz _ off b cs _ hr hk =>
    refine ⟨.pointer (some ⟨b, off + fd.offset, none⟩), .pfz hr ?_, fun w' _ => ?_⟩
    · have := hk.drop fd.offset
      rw [List.drop_take, List.drop_drop] at this
      rw [List.length_drop]
      exact this
    · simp only [execOp, ho, hc, Instr.fieldAt, Sem.run_bind, run_underlying ht, Result.andThen_ok, hf, Instr.sureAddr, Sem.run_pure, fieldPlace, run_sizeOf' hs, if_neg h0, addr_add]
theorem OP.indexAddr {t e : TypeId} {x ix : Operand} {info : TypeInfo} {i : Nat} {k n s : Nat} {kd : IntKind} {z : Int} (ho : o.op = .indexAddr t x ix) (ht : P.underlying t = some (.slice e)) (hs : P.info? e = some info) (hx : σ.ev x = .sl i k n s) (hz : σ.ev ix = .v (.int kd z)) (h0 : 0 ≤ z) (h1 : z < n) :
    OP P E kp o σ (.ptr i (k + z.toNat * info.size)) := fun μ a w hi => by
  have hv := hi.ev x
  have hw := hi.ev ix
  rw [hx] at hv
  rw [hz] at hw
  generalize hc : a.eval x = c at hv
  cases hv with
  | sl hm hcap he =>
    rename_i cap b
    refine ⟨.pointer (some ⟨b.block, b.base + (k + z.toNat * info.size), none⟩), .ptr hm, fun w' _ => ?_⟩
    simp only [execOp, ho, hc, hw.val, Instr.indexAt, asIntOf, Sem.run_bind, Sem.run_pure, run_underlying ht, Result.andThen_ok, if_pos (And.intro h0 h1), run_sizeOf' hs, addr_add, Nat.add_assoc]
  | sl0 => omega
theorem OP.indexAddrF {t e : TypeId} {x ix : Operand} {info : TypeInfo} {l : Bool} {n : Nat} {xs : List AV} {kd : IntKind} {z : Int} (ho : o.op = .indexAddr t x ix) (ht : P.underlying t = some (.slice e)) (hs : P.info? e = some info) (hx : σ.ev x = .fz l info.size n xs) (hz : σ.ev ix = .v (.int kd z)) (h0 : 0 ≤ z) (h1 : z < n) :
    OP P E kp o σ (.pfz l (xs.drop (z.toNat * info.size))) := fun μ a w hi => by
  have hv := hi.ev x
  have hw := hi.ev ix
  rw [hx] at hv
  rw [hz] at hw
  generalize hc : a.eval x = c at hv
  cases hv with
  | @fz _ _ _ cap off b cs _ hr hl hcap hk =>
    refine ⟨.pointer (some ⟨b, off + z.toNat * info.size, none⟩), .pfz hr ?_, fun w' _ => ?_⟩
    · have := hk.drop (z.toNat * info.size)
      rw [List.drop_take, List.drop_drop] at this
      rw [List.length_drop, hl]
      exact this
    · simp only [execOp, ho, hc, hw.val, Instr.indexAt, asIntOf, Sem.run_bind, Sem.run_pure, run_underlying ht, Result.andThen_ok, if_pos (And.intro h0 h1), run_sizeOf' hs, addr_add]
  | fz0 => omega
/-- A part of an aggregate. -/
theorem OP.field1 {s : TypeId} {x : Operand} {f : Nat} {fs : Array Field} {fd : Field} {d : TypeDesc} {cs : List AV} {v : AV} (ho : o.op = .field s x f) (ht : P.underlying s = some (.struct fs)) (hf : fs[f]? = some fd) (hd : P.underlying fd.type = some d) (ha : aggD d = false) (hx : σ.ev x = .agg cs) (hv : cs[fd.offset]? = some v) :
    OP P E kp o σ v := fun μ a w hi => by
  have h := hi.ev x
  rw [hx] at h
  generalize hc : a.eval x = c at h
  cases h with
  | agg hl =>
    obtain ⟨y, hy, hvy⟩ := hl.get _ _ hv
    refine ⟨y, hvy, fun w' _ => ?_⟩
    simp only [execOp, ho, hc, Instr.field, Sem.run_bind, run_underlying ht, Result.andThen_ok, hf, asAgg, Sem.run_pure, part, run_isAgg' hd, ha, Bool.false_eq_true, if_false, List.getElem?_toArray, hy]
theorem OP.fieldN {s : TypeId} {x : Operand} {f : Nat} {fs : Array Field} {fd : Field} {d : TypeDesc} {info : TypeInfo} {cs : List AV} (ho : o.op = .field s x f) (ht : P.underlying s = some (.struct fs)) (hf : fs[f]? = some fd) (hd : P.underlying fd.type = some d) (ha : aggD d = true) (hs : P.info? fd.type = some info) (hx : σ.ev x = .agg cs) :
    OP P E kp o σ (.agg ((cs.drop fd.offset).take info.size)) := fun μ a w hi => by
  have h := hi.ev x
  rw [hx] at h
  generalize hc : a.eval x = c at h
  cases h with
  | agg hl =>
    rename_i l
    refine ⟨.agg (l.toArray.extract fd.offset (fd.offset + info.size)), ?_, fun w' _ => ?_⟩
    · have := hl.seg fd.offset info.size
      rw [show l.toArray.extract fd.offset (fd.offset + info.size) = ((l.drop fd.offset).take info.size).toArray by simp [List.extract_toArray, List.extract_eq_take_drop]]
      exact .agg this
    · simp only [execOp, ho, hc, Instr.field, Sem.run_bind, run_underlying ht, Result.andThen_ok, hf, asAgg, Sem.run_pure, part, run_isAgg' hd, ha, if_true, run_sizeOf' hs]
theorem OP.lenS {x : Operand} {t e : TypeId} {i : Nat} {k n s : Nat} (ho : o.op = .call ⟨.builtin .len, #[x], #[t]⟩) (ht : P.underlying t = some (.slice e)) (hx : σ.ev x = .sl i k n s) : OP P E kp o σ (.v (goInt n)) := fun μ a w hi => by
  have hv := hi.ev x
  rw [hx] at hv
  refine ⟨goInt n, .v _, fun w' _ => ?_⟩
  generalize hc : a.eval x = c at hv
  cases hv <;> simp [execOp, ho, resolve, invoke, builtin, Builtin.len_, hc, run_underlying ht]
theorem OP.lenF {x : Operand} {t e : TypeId} {l : Bool} {s n : Nat} {xs : List AV} (ho : o.op = .call ⟨.builtin .len, #[x], #[t]⟩) (ht : P.underlying t = some (.slice e)) (hx : σ.ev x = .fz l s n xs) : OP P E kp o σ (.v (goInt n)) := fun μ a w hi => by
  have hv := hi.ev x
  rw [hx] at hv
  refine ⟨goInt n, .v _, fun w' _ => ?_⟩
  generalize hc : a.eval x = c at hv
  cases hv <;> simp [execOp, ho, resolve, invoke, builtin, Builtin.len_, hc, run_underlying ht]
theorem OP.lenV {x : Operand} {t e : TypeId} {b : Option Addr} {n c : Nat} (ho : o.op = .call ⟨.builtin .len, #[x], #[t]⟩) (ht : P.underlying t = some (.slice e)) (hx : σ.ev x = .v (.slice b n c)) : OP P E kp o σ (.v (goInt n)) := fun μ a w hi => by
  have hv := hi.ev x
  rw [hx] at hv
  refine ⟨goInt n, .v _, fun w' _ => ?_⟩
  simp [execOp, ho, resolve, invoke, builtin, Builtin.len_, hv.val, run_underlying ht]
theorem OP.lenE {x : Operand} {t e : TypeId} (ho : o.op = .call ⟨.builtin .len, #[x], #[t]⟩) (ht : P.underlying t = some (.slice e)) (hx : σ.ev x = .e0) : OP P E kp o σ (.v (goInt 0)) := fun μ a w hi => by
  have hv := hi.ev x
  rw [hx] at hv
  refine ⟨goInt 0, .v _, fun w' _ => ?_⟩
  generalize hc : a.eval x = c at hv
  cases hv <;> simp [execOp, ho, resolve, invoke, builtin, Builtin.len_, hc, run_underlying ht]
theorem OP.lenStr {x : Operand} {t : TypeId} {z : ByteArray} (ho : o.op = .call ⟨.builtin .len, #[x], #[t]⟩) (ht : P.underlying t = some .string) (hx : σ.ev x = .v (.string z)) : OP P E kp o σ (.v (goInt z.size)) := fun μ a w hi => by
  have hv := hi.ev x
  rw [hx] at hv
  refine ⟨goInt z.size, .v _, fun w' _ => ?_⟩
  simp [execOp, ho, resolve, invoke, builtin, Builtin.len_, hv.val, run_underlying ht]
theorem OP.max {x y : Operand} {ts : Array TypeId} {k k' : IntKind} {a b : Int} (ho : o.op = .call ⟨.builtin .max, #[x, y], ts⟩) (hx : σ.ev x = .v (.int k a)) (hy : σ.ev y = .v (.int k' b)) : OP P E kp o σ (.v (.int k (if b > a then b else a))) := fun μ c w hi => by
  have h1 := hi.ev x
  have h2 := hi.ev y
  rw [hx] at h1
  rw [hy] at h2
  refine ⟨_, .v _, fun w' _ => ?_⟩
  simp [execOp, ho, resolve, invoke, builtin, Builtin.max_, Builtin.max2, h1.val, h2.val]
theorem OP.min {x y : Operand} {ts : Array TypeId} {k k' : IntKind} {a b : Int} (ho : o.op = .call ⟨.builtin .min, #[x, y], ts⟩) (hx : σ.ev x = .v (.int k a)) (hy : σ.ev y = .v (.int k' b)) : OP P E kp o σ (.v (.int k (if b < a then b else a))) := fun μ c w hi => by
  have h1 := hi.ev x
  have h2 := hi.ev y
  rw [hx] at h1
  rw [hy] at h2
  refine ⟨_, .v _, fun w' _ => ?_⟩
  simp [execOp, ho, resolve, invoke, builtin, Builtin.min_, Builtin.min2, h1.val, h2.val]
/-! ### literals -/
theorem fill_one {μ : Mu} : ∀ (xs : List AV) (vs : List Value) (cs : List AV) (cells : Array Value) (off m : Nat), VRs μ xs vs → VRs μ cs cells.toList → VRs μ (upd cs (off + m) xs) (((vs.zipIdx m).foldl (fun cs (p : Value × Nat) => cs.setIfInBounds (off + p.2) p.1) cells).toList)
  | [], _, cs, cells, off, m, .nil, h => by simpa [upd] using h
  | x :: xs, v :: vs, cs, cells, off, m, .cons hx k, h => by
    simp only [upd, List.zipIdx_cons, List.foldl_cons]
    rw [Nat.add_assoc]
    refine fill_one xs vs _ _ off (m + 1) k ?_
    rw [Array.toList_setIfInBounds]
    exact h.set _ hx
def fillA (place : Nat → Option (Nat × Nat)) (cs : List AV) : List (Nat × AV) → Option (List AV)
  | [] => some cs
  | (i, x) :: r =>
    match place i with
    | none => none
    | some (off, size) => if (Nat.beq x.cells.length size && Nat.ble (off + size) cs.length && ones x.cells) = true then fillA place (upd cs off x.cells) r else none
theorem fill_ok {μ : Mu} {place : Nat → Option (Nat × Nat)} {ρ : Operand → Value} {ev : Operand → AV} (hev : ∀ x, VR μ (ev x) (ρ x)) : ∀ (ps : List (Nat × Operand)) (cs ds : List AV) (cells : Array Value), VRs μ cs cells.toList → fillA place cs (ps.map fun p => (p.1, ev p.2)) = some ds →
    ∃ out, Instr.fill place cells (ps.map fun p => (p.1, ρ p.2)) = some out ∧ VRs μ ds out.toList ∧ ds.length = cs.length
  | [], cs, ds, cells, h, hf => by
    cases hf
    exact ⟨cells, rfl, h, rfl⟩
  | (i, x) :: r, cs, ds, cells, h, hf => by
    simp only [List.map_cons, fillA] at hf
    simp only [List.map_cons, Instr.fill]
    cases hp : place i with
    | none => rw [hp] at hf; cases hf
    | some q =>
      obtain ⟨off, size⟩ := q
      rw [hp] at hf
      simp only at hf ⊢
      cases hb : (Nat.beq (ev x).cells.length size && Nat.ble (off + size) cs.length && ones (ev x).cells) with
      | false => rw [hb] at hf; cases hf
      | true =>
        rw [hb] at hf
        simp only [Bool.and_eq_true] at hb
        obtain ⟨⟨h1, h2⟩, h3⟩ := hb
        have h1 := Nat.eq_of_beq_eq_true h1
        have h2 := Nat.le_of_ble_eq_true h2
        have hv := (hev x).cells_ (ones_iff.1 h3)
        have hl := hv.length
        have hl2 := h.length
        simp only [Array.length_toList] at hl hl2
        have hne : ¬ ((ρ x).cells.size ≠ size || decide (off + (ρ x).cells.size > cells.size)) = true := by
          simp only [Bool.or_eq_true, decide_eq_true_eq, not_or, Decidable.not_not]
          omega
        have hstep := fill_one _ _ cs cells off 0 hv h
        simp only [Nat.add_zero] at hstep
        obtain ⟨out, ho, hr, hlen⟩ := fill_ok hev r _ ds _ hstep hf
        refine ⟨out, ?_, hr, by rw [hlen, upd_length]⟩
        rw [if_neg (by simpa using hne), ← Array.foldl_toList, Array.toList_zipIdx]
        exact ho
theorem OP.build {t : TypeId} {parts : List (Nat × Operand)} {fs : Array Field} {info : TypeInfo} {z : Value} {pl : Array (Nat × Nat)} {ds : List AV} (ho : o.op = .build t parts.toArray) (ht : P.underlying t = some (.struct fs)) (hs : P.info? t = some info) (hz : info.zero = some z) (hpl : ∀ w, (fs.mapM fun f => do pure (f.offset, ← sizeOf f.type) : Sem (Array (Nat × Nat))).run P w = .ok pl w)
    (hf : fillA (pl[·]?) (vals z.cells.toList) (parts.map fun p => (p.1, σ.ev p.2)) = some ds) : OP P E kp o σ (.agg ds) := fun μ a w hi => by
  obtain ⟨out, hout, hr, _⟩ := fill_ok (ρ := a.eval) (fun x => hi.ev x) parts _ ds z.cells (VRs.vals _) hf
  have : VR μ (.agg ds) (.agg out) := by
    have := VR.agg hr
    simpa using this
  refine ⟨.agg out, this, fun w' _ => ?_⟩
  simp only [execOp, ho, Instr.build, Sem.run_bind, run_zeroValue' hs hz, run_underlying ht, Result.andThen_ok, hpl w', List.map_toArray, hout]
  rfl
/-- A slice literal: a new block. -/
theorem OS.buildSlice {t e : TypeId} {n : Nat} {parts : List (Nat × Operand)} {info : TypeInfo} {z : Value} {ds : List AV} (ho : o.op = .buildSlice t n parts.toArray) (ht : P.underlying t = some (.slice e)) (hs : P.info? e = some info) (hz : info.zero = some z) (hn : n * info.size ≤ 16777216) (h0 : n * info.size ≠ 0) (hzl : z.cells.size = info.size)
    (hf : fillA (fun i => some (i * info.size, info.size)) (vals ((List.range (n * info.size)).map (z.cells[· % z.cells.size]!))) (parts.map fun p => (p.1, σ.ev p.2)) = some ds) (hk : ∀ j, kp j = true → (hget σ.H j).isSome = true) :
    OS P E kp o σ (.sl σ.nx 0 n info.size) ⟨σ.T, σ.H ++ [(σ.nx, ds)], σ.nx + 1⟩ := fun μ a w hi => by
  obtain ⟨out, hout, hr, hlen⟩ := fill_ok (ρ := a.eval) (fun x => hi.ev x) parts _ ds ((Array.range (n * info.size)).map (z.cells[· % z.cells.size]!)) (by simpa using VRs.vals (μ := μ) ((List.range (n * info.size)).map (z.cells[· % z.cells.size]!))) hf
  have hal := hi.alloc hr #[] e
  have hsz : out.toList.length = n * info.size := by
    have := hr.length
    rw [hlen] at this
    simpa [vals] using this
  refine ⟨.slice (some ⟨w.heap.size, 0, none⟩) n n, _, _, ?_, ?_, hal, smk_alloc hi hk _ _⟩
  · simp only [execOp, ho, Instr.buildSlice, Sem.run_bind, run_underlying ht, run_sizeOf' hs, Result.andThen_ok, if_neg (show ¬ n * info.size > 2 ^ 24 by omega), if_neg h0, run_zeroValue' hs hz, Sem.run_pure, List.map_toArray, hout, newRow, run_newObj_alloc, Array.append_empty]
  · refine .sl (o := 0) (Mu.put_same _ _ _) (Nat.le_refl _) ?_
    simp [hsz]
/-- The world has got a block that the picture does not name. -/
theorem INV.extra {μ : Mu} {a : Act} {w : World} (hi : INV E μ σ a w) (ob : Obj) : INV E μ σ a (w.alloc ob) := { hi with
  heap := hi.heap.world (fun i cs hg b hb => by
      obtain ⟨c, t, g, _⟩ := hi.heap.own i cs hg b hb
      exact Below.heap_alloc _ _ _ (lt_of_heap g)) (fun l b cs hl => by
      obtain ⟨c, t, r, g, _⟩ := hi.heap.rd l b cs hl
      exact Below.heap_alloc _ _ _ (lt_of_heap g))
  kept := hi.kept.trans (Kept.alloc _ _ _) }
theorem smk_extra {μ : Mu} {a : Act} {w : World} (h : INV E μ σ a w) (hk : ∀ j, kp j = true → (hget σ.H j).isSome = true) (ob : Obj) : SMk kp μ μ w (w.alloc ob) := by
  refine ⟨.refl _, fun i hi q hq => ?_, fun l b cs hl => ?_⟩
  · obtain ⟨ds, hds⟩ := Option.isSome_iff_exists.1 (hk i hi)
    obtain ⟨c, t, g, _⟩ := h.heap.own i ds hds q hq
    exact Below.heap_alloc _ _ _ (lt_of_heap g)
  · obtain ⟨c, t, r, g, _⟩ := h.heap.rd l b cs hl
    exact Below.heap_alloc _ _ _ (lt_of_heap g)
/-- An empty one. -/
theorem OS.buildSlice0 {t e : TypeId} {info : TypeInfo} (ho : o.op = .buildSlice t 0 #[]) (ht : P.underlying t = some (.slice e)) (hs : P.info? e = some info) (hk : ∀ j, kp j = true → (hget σ.H j).isSome = true) :
    OS P E kp o σ .e0 σ := fun μ a w hi => by
  refine ⟨.slice (some ⟨w.heap.size, 0, none⟩) 0 0, w.alloc (.cells #[] e), μ, ?_, .e0 _, hi.extra _, smk_extra hi hk _⟩
  simp [execOp, ho, Instr.buildSlice, run_underlying ht, run_sizeOf' hs, newRow, Instr.fill]
  congr 2
  apply Array.ext <;> simp
end
end Go.BH
