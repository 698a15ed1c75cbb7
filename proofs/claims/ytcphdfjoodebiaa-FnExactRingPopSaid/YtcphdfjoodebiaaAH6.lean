/- The plain picture of a call's memory, 6: places, parts, new blocks. -/
import Derived.Test.YtcphdfjoodebiaaAH5
set_option linter.unusedVariables false
set_option linter.unusedSimpArgs false
namespace Go.AH
open Go.RowKit
mutual
/-- The block i is not named in it. -/
def AV.noI (i : Id) : AV → Bool
  | .ptr j _ => !decide (j = i)
  | .sl j _ _ _ => !decide (j = i)
  | .agg cs => AV.noIs i cs
  | .tup cs => AV.noIs i cs
  | .fn _ x y => AV.noIs i x && AV.noIs i y
  | _ => true
def AV.noIs (i : Id) : List AV → Bool
  | [] => true
  | x :: xs => AV.noI i x && AV.noIs i xs
end
theorem noIs_iff {i : Id} {l : List AV} : AV.noIs i l = true ↔ ∀ x ∈ l, x.noI i = true := by
  induction l with
  | nil => simp [AV.noIs]
  | cons x xs ih => simp [AV.noIs, ih]
mutual
theorem noI_of_noL {d : Nat} : ∀ {x : AV}, x.noL = true → x.noI (.l d) = true
  | .any, _ => rfl
  | .v _, _ => rfl
  | .ptr (.g _) _, _ => by simp [AV.noI]
  | .ptr (.l _) _, h => by simp [AV.noL] at h
  | .sl (.g _) _ _ _, _ => by simp [AV.noI]
  | .sl (.l _) _ _ _, h => by simp [AV.noL] at h
  | .e0, _ => rfl
  | .agg cs, h => by simp only [AV.noI]; exact noIs_of_noLs (by simpa [AV.noL] using h)
  | .tup cs, h => by simp only [AV.noI]; exact noIs_of_noLs (by simpa [AV.noL] using h)
  | .fn f x y, h => by
    simp [AV.noL] at h
    simp only [AV.noI, Bool.and_eq_true]
    exact ⟨noIs_of_noLs h.1, noIs_of_noLs h.2⟩
theorem noIs_of_noLs {d : Nat} : ∀ {x : List AV}, AV.noLs x = true → AV.noIs (.l d) x = true
  | [], _ => rfl
  | x :: xs, h => by
    simp only [AV.noLs, Bool.and_eq_true] at h
    simp only [AV.noIs, Bool.and_eq_true]
    exact ⟨noI_of_noL h.1, noIs_of_noLs h.2⟩
end
mutual
theorem VR.monoI {k : Id} {μ ν : Id → Option Pl} (h : ∀ i a, i ≠ k → μ i = some a → ν i = some a) : ∀ {x : AV} {c : Value}, x.noI k = true → VR μ x c → VR ν x c
  | _, _, _, .any c => .any c
  | _, _, _, .v x => .v x
  | _, _, n, .ptr m => .ptr (h _ _ (by simpa [AV.noI] using n) m)
  | _, _, n, .sl m hc he => .sl (h _ _ (by simpa [AV.noI] using n) m) hc he
  | _, _, _, .sl0 a => .sl0 a
  | _, _, _, .nl => .nl
  | _, _, _, .e0 a => .e0 a
  | _, _, n, .agg m => .agg (VRs.monoI h (by simpa [AV.noI] using n) m)
  | _, _, n, .tup m => .tup (VRs.monoI h (by simpa [AV.noI] using n) m)
  | _, _, n, .fn m q => .fn (VRs.monoI h (by simp [AV.noI] at n; exact n.1) m) (VRs.monoI h (by simp [AV.noI] at n; exact n.2) q)
theorem VRs.monoI {k : Id} {μ ν : Id → Option Pl} (h : ∀ i a, i ≠ k → μ i = some a → ν i = some a) : ∀ {x : List AV} {c : List Value}, AV.noIs k x = true → VRs μ x c → VRs ν x c
  | _, _, _, .nil => .nil
  | _, _, n, .cons m q => .cons (VR.monoI h (by simp [AV.noIs] at n; exact n.1) m) (VRs.monoI h (by simp [AV.noIs] at n; exact n.2) q)
end
/-- What names the block i is forgotten. -/
def killI (i : Id) : List (Nat × AV) → List (Nat × AV)
  | [] => []
  | (t, x) :: xs => (t, if x.noI i = true then x else .any) :: killI i xs
theorem VR.killI {k : Id} {μ ν : Id → Option Pl} (h : ∀ i a, i ≠ k → μ i = some a → ν i = some a) {c : Value} (t : Nat) : ∀ {T : List (Nat × AV)}, VR μ (tk T t) c → VR ν (tk (killI k T) t) c
  | [], _ => .any _
  | (d, x) :: r, hv => by
    simp only [AH.killI, tk] at hv ⊢
    cases e : Nat.beq d t with
    | true =>
      rw [e] at hv
      simp only [↓reduceIte] at hv ⊢
      cases n : x.noI k with
      | true => exact hv.monoI h n
      | false => exact .any _
    | false =>
      rw [e] at hv
      exact VR.killI h t hv
section
variable {P : Program} {base : Nat} {E : En} {σ : St} {o : Oper} {kp : Id → Bool}
/-- A new block of the machine's. -/
theorem INV.alloc {μ : Id → Option Pl} {a : Act} {w : World} (h : INV base E μ σ a w) {cs : List AV} {l : List Value} (hv : VRs μ cs l) (hn : ∀ x ∈ cs, x.noL = true) (rest : Array Value) (t : TypeId) :
    INV base E (place μ (.g σ.H.g.length) ⟨w.heap.size, 0, l.length + rest.size⟩) ⟨σ.T, σ.H.push (.own cs)⟩ a (w.alloc (.cells (l.toArray ++ rest) t)) := by
  have hmono : ∀ (i : Id) (b : Pl), μ i = some b → place μ (.g σ.H.g.length) ⟨w.heap.size, 0, l.length + rest.size⟩ i = some b := fun i b hi => by
    rw [place_ne]
    · exact hi
    · rintro rfl
      rw [h.fresh _ (Nat.le_refl _)] at hi
      cases hi
  refine ⟨fun t => (h.tmps t).mono hmono, h.size, h.defers, h.heap.alloc h.le h.fresh hv hn rest t, fun n hlen => ?_, by have := h.le; simp; omega, fun n hlt => ?_, h.kept.trans (Kept.alloc _ _ _), fun i hi hne b hb => ?_, ?_⟩
  · have : (Id.g n) ≠ .g σ.H.g.length := by
      intro e
      injection e with e
      simp [Hp.push] at hlen
      omega
    rw [place_ne _ _ this]
    exact h.fresh n (by simp [Hp.push] at hlen; omega)
  · have : (Id.g n) ≠ .g σ.H.g.length := by
      intro e
      injection e with e
      have := h.len
      omega
    rw [place_ne _ _ this]
    exact h.same n hlt
  · by_cases e : i = .g σ.H.g.length
    · subst e
      rw [place_same] at hb
      obtain rfl := (Option.some.inj hb).symm
      exact h.kept.size
    · rw [get_push_ne _ _ e] at hi
      rw [place_ne _ _ e] at hb
      exact h.new i hi hne b hb
  · have := h.len
    simp [Hp.push]; omega
/-- May this name be given to another block? -/
def En.mine (E : En) : Id → Prop
  | .g n => E.g.length ≤ n
  | .l _ => True
/-- A new block under a name that the call has already. -/
theorem INV.bind {μ : Id → Option Pl} {a : Act} {w : World} (h : INV base E μ σ a w) (d : Id) (hhas : σ.H.has d) (hE : E.mine d) {cs : List AV} {l : List Value} (hv : VRs μ cs l) (hn : ∀ x ∈ cs, x.noL = true ∧ x.noI d = true) (hoth : ∀ j, j ≠ d → ∀ x ∈ (σ.H.get j).cells, x.noI d = true) (rest : Array Value) (t : TypeId) :
    INV base E (place μ d ⟨w.heap.size, 0, l.length + rest.size⟩) ⟨killI d σ.T, σ.H.put d cs⟩ a (w.alloc (.cells (l.toArray ++ rest) t)) := by
  have hne : ∀ (i : Id) (b : Pl), i ≠ d → μ i = some b → place μ d ⟨w.heap.size, 0, l.length + rest.size⟩ i = some b := fun i b hi hb => by rwa [place_ne _ _ hi]
  have hback : ∀ (i : Id) (b : Pl), i ≠ d → place μ d ⟨w.heap.size, 0, l.length + rest.size⟩ i = some b → μ i = some b := fun i b hi hb => by rwa [place_ne _ _ hi] at hb
  have hnew : (w.alloc (.cells (l.toArray ++ rest) t)).heap[w.heap.size]? = some (.cells (l.toArray ++ rest) t (0, 0)) := by
    show (w.heap.push _)[w.heap.size]? = _
    simp
  have hlen := hv.length
  have hget : ∀ i, i ≠ d → (σ.H.put d cs).get i = σ.H.get i := fun i hi => get_put_ne (Ne.symm hi) cs
  have hself : (σ.H.put d cs).get d = .own cs := get_put_same' hhas cs
  have hg : (σ.H.put d cs).g.length = σ.H.g.length := by cases d <;> simp [Hp.put]
  refine ⟨fun t => (h.tmps t).killI hne, h.size, h.defers, ⟨fun j hj => ?_, fun j hj b hjb => ?_, fun j k hjk hj hk b e hb he => ?_, fun j y hy => ?_, fun j b hb => ?_⟩, fun n hlt => ?_, by have := h.le; simp; omega, fun n hlt => ?_, h.kept.trans (Kept.alloc _ _ _), fun i hi hni b hb => ?_, by rw [hg]; exact h.len⟩
  · by_cases e : j = d
    · subst e
      refine ⟨_, place_same _ _ _, by simp, ?_⟩
      rw [hself]
      intro m y hm
      obtain ⟨z, hz, hvz⟩ := hv.get m y hm
      refine ⟨z, ?_, hvz.monoI hne (hn y (List.mem_of_getElem? hm)).2⟩
      have hml : m < l.length := by
        rcases Nat.lt_or_ge m l.length with g | g
        · exact g
        · rw [List.getElem?_eq_none g] at hz; cases hz
      simp only [World.cell?, hnew, Option.isSome_none, Bool.false_eq_true, if_false, Nat.zero_add]
      rw [Array.getElem?_append_left (by simpa using hml)]
      simpa using hz
    · rw [hget j e] at hj ⊢
      obtain ⟨b, hb, hl, hat⟩ := h.heap.there j hj
      exact ⟨b, hne j b e hb, by simp; omega, hat.mono (fun m => cell_block (Below.heap_alloc _ _ _ hl)) (fun x hx c hc => hc.monoI hne (hoth j e x hx))⟩
  · by_cases e : j = d
    · subst e
      rw [place_same] at hjb
      obtain rfl := (Option.some.inj hjb).symm
      rw [hself]
      exact ⟨h.le, ⟨_, t, hnew, by simp⟩, by simp [Blk.cells]; omega⟩
    · rw [hget j e] at hj ⊢
      have hjb' := hback j b e hjb
      obtain ⟨h1, ⟨c1, t1, h2, h3⟩, h4⟩ := h.heap.own j hj b hjb'
      exact ⟨h1, ⟨c1, t1, (Below.heap_alloc _ _ _ (h.heap.old j b hjb')).trans h2, h3⟩, h4⟩
  · by_cases e1 : j = d
    · subst e1
      rw [place_same] at hb
      obtain rfl := (Option.some.inj hb).symm
      have := h.heap.old k e (hback k e (Ne.symm hjk) he)
      intro hh
      simp only at hh
      omega
    · by_cases e2 : k = d
      · subst e2
        rw [place_same] at he
        obtain rfl := (Option.some.inj he).symm
        have := h.heap.old j b (hback j b e1 hb)
        intro hh
        simp only at hh
        omega
      · rw [hget j e1] at hj
        rw [hget k e2] at hk
        exact h.heap.apart j k hjk hj hk b e (hback j b e1 hb) (hback k e e2 he)
  · by_cases e : j = d
    · subst e
      rw [hself] at hy
      exact (hn y hy).1
    · rw [hget j e] at hy
      exact h.heap.clean j y hy
  · by_cases e : j = d
    · subst e
      rw [place_same] at hb
      obtain rfl := (Option.some.inj hb).symm
      simp
    · have := h.heap.old j b (hback j b e hb)
      simp; omega
  · rw [hg] at hlt
    by_cases e : (Id.g n) = d
    · subst e; exact absurd (show n < σ.H.g.length from hhas) (by omega)
    · rw [place_ne _ _ e]; exact h.fresh n hlt
  · by_cases e : (Id.g n) = d
    · subst e; exact absurd (show E.g.length ≤ n from hE) (by omega)
    · rw [place_ne _ _ e]; exact h.same n hlt
  · by_cases e : i = d
    · subst e
      rw [place_same] at hb
      obtain rfl := (Option.some.inj hb).symm
      exact h.kept.size
    · rw [hget i e] at hi
      exact h.new i hi hni b (hback i b e hb)
theorem smk_alloc {μ : Id → Option Pl} {a : Act} {w : World} (h : INV base E μ σ a w) (d : Id) (hd : kp d = false) (p : Pl) (ob : Obj) : SMk kp μ (place μ d p) w (w.alloc ob) := fun i hi q hq => by
  have : i ≠ d := fun e => by rw [e, hd] at hi; cases hi
  exact ⟨by rw [place_ne _ _ this]; exact hq, Below.heap_alloc _ _ _ (h.heap.old i q hq)⟩
theorem smk_push {μ : Id → Option Pl} {a : Act} {w : World} (h : INV base E μ σ a w) (p : Pl) (ob : Obj) : SMk kp μ (place μ (.g σ.H.g.length) p) w (w.alloc ob) := fun i hi q hq => by
  have : i ≠ .g σ.H.g.length := fun e => by rw [e, h.fresh _ (Nat.le_refl _)] at hq; cases hq
  exact ⟨by rw [place_ne _ _ this]; exact hq, Below.heap_alloc _ _ _ (h.heap.old i q hq)⟩
theorem run_zeroValue' {t : TypeId} {i : TypeInfo} {z : Value} (h : P.info? t = some i) (hz : i.zero = some z) (w : World) : (zeroValue t).run P w = .ok z w := by
  simp only [zeroValue, Sem.run_bind, run_typeInfo' h, Result.andThen_ok, hz]
  rfl
def vals (l : List Value) : List AV := l.map .v
theorem VRs.vals {μ : Id → Option Pl} : ∀ l : List Value, VRs μ (vals l) l
  | [] => .nil
  | x :: xs => .cons (.v x) (VRs.vals xs)
theorem vals_noL (l : List Value) : ∀ x ∈ vals l, x.noL = true := by
  intro x hx
  obtain ⟨y, _, rfl⟩ := List.mem_map.1 hx
  rfl
/-- A variable that is no one's but the call's. -/
theorem OS.allocL {t : TypeId} {info : TypeInfo} {z : Value} {d : Nat} (ho : o.op = .alloc t) (hs : P.info? t = some info) (hz : info.zero = some z) (hd : kp (.l d) = false) :
    OS P base E kp o σ (.ptr (.l d) 0) ⟨killI (.l d) σ.T, σ.H.put (.l d) (vals z.cells.toList)⟩ := fun μ a w hi => by
  have := hi.bind (.l d) trivial trivial (VRs.vals z.cells.toList) (fun x hx => ⟨vals_noL _ x hx, noI_of_noL (vals_noL _ x hx)⟩) (fun j _ x hx => noI_of_noL (hi.heap.clean j x hx)) #[] t
  refine ⟨.pointer (some ⟨w.heap.size, 0, none⟩), _, _, ?_, ?_, this, smk_alloc hi _ hd _ _⟩
  · simp only [execOp, ho, Instr.alloc, Sem.run_bind, run_zeroValue' hs hz, Result.andThen_ok, newVar, newRow, run_newObj_alloc, Sem.run_pure, Array.append_empty]
  · exact .ptr (o := 0) (place_same _ _ _)
/-- A variable whose address goes out. -/
theorem OS.allocG {t : TypeId} {info : TypeInfo} {z : Value} (ho : o.op = .alloc t) (hs : P.info? t = some info) (hz : info.zero = some z) :
    OS P base E kp o σ (.ptr (.g σ.H.g.length) 0) ⟨σ.T, σ.H.push (.own (vals z.cells.toList))⟩ := fun μ a w hi => by
  have := hi.alloc (VRs.vals z.cells.toList) (vals_noL _) #[] t
  refine ⟨.pointer (some ⟨w.heap.size, 0, none⟩), _, _, ?_, ?_, this, smk_push hi _ _⟩
  · simp only [execOp, ho, Instr.alloc, Sem.run_bind, run_zeroValue' hs hz, Result.andThen_ok, newVar, newRow, run_newObj_alloc, Sem.run_pure, Array.append_empty]
  · exact .ptr (o := 0) (place_same _ _ _)
theorem OS.boxL {t : TypeId} {x : Operand} {d : Nat} (ho : o.op = .box t x) (hone : ∀ y ∈ (σ.ev x).cells, y.one = true ∧ y.noL = true) (hd : kp (.l d) = false) :
    OS P base E kp o σ (.ptr (.l d) 0) ⟨killI (.l d) σ.T, σ.H.put (.l d) (σ.ev x).cells⟩ := fun μ a w hi => by
  have := hi.bind (.l d) trivial trivial ((hi.ev x).cells_ (fun y hy => (hone y hy).1)) (fun y hy => ⟨(hone y hy).2, noI_of_noL (hone y hy).2⟩) (fun j _ x hx => noI_of_noL (hi.heap.clean j x hx)) #[] t
  refine ⟨.pointer (some ⟨w.heap.size, 0, none⟩), _, _, ?_, ?_, this, smk_alloc hi _ hd _ _⟩
  · simp only [execOp, ho, Instr.box, Sem.run_bind, Result.andThen_ok, newVar, newRow, run_newObj_alloc, Sem.run_pure, Array.append_empty]
  · exact .ptr (o := 0) (place_same _ _ _)
theorem OS.boxG {t : TypeId} {x : Operand} (ho : o.op = .box t x) (hone : ∀ y ∈ (σ.ev x).cells, y.one = true ∧ y.noL = true) :
    OS P base E kp o σ (.ptr (.g σ.H.g.length) 0) ⟨σ.T, σ.H.push (.own (σ.ev x).cells)⟩ := fun μ a w hi => by
  have := hi.alloc ((hi.ev x).cells_ (fun y hy => (hone y hy).1)) (fun y hy => (hone y hy).2) #[] t
  refine ⟨.pointer (some ⟨w.heap.size, 0, none⟩), _, _, ?_, ?_, this, smk_push hi _ _⟩
  · simp only [execOp, ho, Instr.box, Sem.run_bind, Result.andThen_ok, newVar, newRow, run_newObj_alloc, Sem.run_pure, Array.append_empty]
  · exact .ptr (o := 0) (place_same _ _ _)
theorem OP.fieldAddr {s : TypeId} {x : Operand} {f : Nat} {fs : Array Field} {fd : Field} {info : TypeInfo} {i : Id} {k : Nat} (ho : o.op = .fieldAddr s x f) (ht : P.underlying s = some (.struct fs)) (hf : fs[f]? = some fd) (hs : P.info? fd.type = some info) (h0 : info.size ≠ 0) (hx : σ.ev x = .ptr i k) :
    OP P base E kp o σ (.ptr i (k + fd.offset)) := fun μ a w hi => by
  have hv := hi.ev x
  rw [hx] at hv
  generalize hc : a.eval x = c at hv
  cases hv with
  | ptr hm =>
    rename_i b
    refine ⟨.pointer (some ⟨b.block, b.off + (k + fd.offset), none⟩), .ptr hm, fun w' _ => ?_⟩
    simp only [execOp, ho, hc, Instr.fieldAt, Sem.run_bind, run_underlying ht, Result.andThen_ok, hf, Instr.sureAddr, Sem.run_pure, fieldPlace, run_sizeOf' hs, if_neg h0, addr_add, Nat.add_assoc]
theorem OP.indexAddr {t e : TypeId} {x ix : Operand} {info : TypeInfo} {i : Id} {k n s : Nat} {kd : IntKind} {z : Int} (ho : o.op = .indexAddr t x ix) (ht : P.underlying t = some (.slice e)) (hs : P.info? e = some info) (hx : σ.ev x = .sl i k n s) (hz : σ.ev ix = .v (.int kd z)) (h0 : 0 ≤ z) (h1 : z < n) :
    OP P base E kp o σ (.ptr i (k + z.toNat * info.size)) := fun μ a w hi => by
  have hv := hi.ev x
  have hw := hi.ev ix
  rw [hx] at hv
  rw [hz] at hw
  generalize hc : a.eval x = c at hv
  cases hv with
  | sl hm hcap he =>
    rename_i cap b
    refine ⟨.pointer (some ⟨b.block, b.off + (k + z.toNat * info.size), none⟩), .ptr hm, fun w' _ => ?_⟩
    simp only [execOp, ho, hc, hw.val, Instr.indexAt, asIntOf, Sem.run_bind, Sem.run_pure, run_underlying ht, Result.andThen_ok, if_pos (And.intro h0 h1), run_sizeOf' hs, addr_add, Nat.add_assoc]
  | sl0 => omega
  | nl => omega
/-- A part of an aggregate. -/
theorem OP.field1 {s : TypeId} {x : Operand} {f : Nat} {fs : Array Field} {fd : Field} {d : TypeDesc} {cs : List AV} {v : AV} (ho : o.op = .field s x f) (ht : P.underlying s = some (.struct fs)) (hf : fs[f]? = some fd) (hd : P.underlying fd.type = some d) (ha : aggD d = false) (hx : σ.ev x = .agg cs) (hv : cs[fd.offset]? = some v) :
    OP P base E kp o σ v := fun μ a w hi => by
  have h := hi.ev x
  rw [hx] at h
  generalize hc : a.eval x = c at h
  cases h with
  | agg hl =>
    obtain ⟨y, hy, hvy⟩ := hl.get _ _ hv
    refine ⟨y, hvy, fun w' _ => ?_⟩
    simp only [execOp, ho, hc, Instr.field, Sem.run_bind, run_underlying ht, Result.andThen_ok, hf, asAgg, Sem.run_pure, part, run_isAgg' hd, ha, Bool.false_eq_true, if_false, List.getElem?_toArray, hy]
theorem VRs.seg {μ : Id → Option Pl} {x : List AV} {c : List Value} (h : VRs μ x c) (k n : Nat) : VRs μ ((x.drop k).take n) ((c.drop k).take n) := by
  refine VRs.of (by have := h.length; simp; omega) (fun j y hj => ?_)
  obtain ⟨h1, h2⟩ := take_get hj
  obtain ⟨d, hd, hv⟩ := h.get _ _ h1
  exact ⟨d, by rw [List.getElem?_take_of_lt h2, List.getElem?_drop]; exact hd, hv⟩
theorem OP.fieldN {s : TypeId} {x : Operand} {f : Nat} {fs : Array Field} {fd : Field} {d : TypeDesc} {info : TypeInfo} {cs : List AV} (ho : o.op = .field s x f) (ht : P.underlying s = some (.struct fs)) (hf : fs[f]? = some fd) (hd : P.underlying fd.type = some d) (ha : aggD d = true) (hs : P.info? fd.type = some info) (hx : σ.ev x = .agg cs) :
    OP P base E kp o σ (.agg ((cs.drop fd.offset).take info.size)) := fun μ a w hi => by
  have h := hi.ev x
  rw [hx] at h
  generalize hc : a.eval x = c at h
  cases h with
  | agg hl =>
    rename_i l
    refine ⟨.agg (l.toArray.extract fd.offset (fd.offset + info.size)), ?_, fun w' _ => ?_⟩
    · have := hl.seg fd.offset info.size
      rw [show l.toArray.extract fd.offset (fd.offset + info.size) = ((l.drop fd.offset).take info.size).toArray by simp [List.extract_toArray, List.extract_eq_take_drop]]
      exact .agg this
    · simp only [execOp, ho, hc, Instr.field, Sem.run_bind, run_underlying ht, Result.andThen_ok, hf, asAgg, Sem.run_pure, part, run_isAgg' hd, ha, if_true, run_sizeOf' hs]
end
end Go.AH
