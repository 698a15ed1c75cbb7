/- Rows: whatever reads as data is so in letters; a law that only reads. -/
import Derived.Test.YtdjfhggmcigahaaDoorB30
import Derived.Below
import Derived.Deep.Slices
import Derived.ChangeArms
set_option linter.unusedVariables false
set_option linter.unusedSimpArgs false
namespace Go.BH
open Go.RowKit Go.Deep
mutual
/-- Whole numbers of their kinds; lengths that a machine can hold. -/
def wfC : CK → D → Prop
  | .int k, .i n => (Lit.int k n).wf = true
  | .bool, .b _ => True
  | .str, .s x => x.size ≤ maxLen
  | .sl e, .l xs => xs.length ≤ maxLen ∧ ∀ x ∈ xs, wfZ e (row e x)
  | _, _ => False
def wfZ : List CK → List D → Prop
  | [], [] => True
  | k :: ks, d :: ds => wfC k d ∧ wfZ ks ds
  | _, _ => False
end
mutual
theorem wfC_ok : ∀ {k : CK} {d : D}, wfC k d → okC k d = true
  | .int k, d, h => by cases d <;> simp [wfC] at h ⊢ <;> rfl
  | .bool, d, h => by cases d <;> simp [wfC] at h ⊢ <;> rfl
  | .str, d, h => by cases d <;> simp [wfC] at h ⊢ <;> rfl
  | .sl e, .l xs, h => by
    rw [wfC] at h
    simp only [okC, List.all_eq_true]
    exact fun x hx => wfZ_ok (h.2 x hx)
  | .sl e, .i _, h => by simp [wfC] at h
  | .sl e, .b _, h => by simp [wfC] at h
  | .sl e, .s _, h => by simp [wfC] at h
theorem wfZ_ok : ∀ {e : List CK} {ds : List D}, wfZ e ds → okZ e ds = true
  | [], [], _ => rfl
  | [], _ :: _, h => by simp [wfZ] at h
  | _ :: _, [], h => by simp [wfZ] at h
  | k :: ks, d :: ds, h => by
    rw [wfZ] at h
    simp only [okZ, Bool.and_eq_true]
    exact ⟨wfC_ok h.1, wfZ_ok h.2⟩
end
theorem wfZ_app : ∀ {a b : List CK} {x y : List D}, wfZ a x → wfZ b y → wfZ (a ++ b) (x ++ y)
  | [], b, [], y, _, h => h
  | [], b, _ :: _, y, h, _ => by simp [wfZ] at h
  | _ :: _, b, [], y, h, _ => by simp [wfZ] at h
  | k :: ks, b, d :: ds, y, h, h' => by
    rw [wfZ] at h
    rw [List.cons_append, List.cons_append, wfZ]
    exact ⟨h.1, wfZ_app h.2 h'⟩
theorem encZ_app : ∀ {a b : List CK} {x y : List D}, x.length = a.length → encZ (a ++ b) (x ++ y) = encZ a x ++ encZ b y
  | [], b, [], y, _ => by simp [encZ]
  | [], b, _ :: _, y, h => by simp at h
  | _ :: _, b, [], y, h => by simp at h
  | k :: ks, b, d :: ds, y, h => by
    rw [List.cons_append, List.cons_append, encZ, encZ, encZ_app (by simpa using h)]
    rfl
/-- A world's cells, as they can be read. -/
def rdW (W : World) (b : Nat) : Option (List Value) := match W.heap[b]? with
  | some (.cells c _ _) => some c.toList
  | _ => none
def muW (W : World) : Mu := ⟨fun _ => none, rdW W, rdW W⟩
theorem muW_rd (W : World) (l : Bool) : (muW W).rd l = rdW W := by cases l <;> rfl
theorem VR.lend {W : World} {l l' : Bool} {s n : Nat} {xs : List AV} {c : Value} (h : VR (muW W) (.fz l s n xs) c) : VR (muW W) (.fz l' s n xs) c := by
  cases h with
  | fz h hl hc k => exact .fz (by rw [muW_rd] at h ⊢; exact h) hl hc k
  | fz0 A c => exact .fz0 A c
theorem VRs.app {μ : Mu} {x y : List AV} {c d : List Value} (h : VRs μ x c) (k : VRs μ y d) : VRs μ (x ++ y) (c ++ d) := by
  induction x generalizing c with
  | nil => cases h; exact k
  | cons a x ih =>
    cases h with
    | cons h1 h2 => exact .cons h1 (ih h2)
def flatF (P : Program) (g : TypeId → Option (List CK)) : List Field → Nat → Option (List CK)
  | [], _ => some []
  | f :: r, o => match g f.type with
    | some l => if (Nat.beq f.offset o && Nat.beq (P.cellsOf f.type) l.length) = true then (match flatF P g r (o + l.length) with
      | some m => some (l ++ m)
      | none => none) else none
    | none => none
/-- The kinds of a type's cells. -/
def flatB (P : Program) : Nat → TypeId → Option (List CK)
  | 0, _ => none
  | n + 1, t => match P.underlying t with
    | some (.int k) => some [.int k]
    | some .bool => some [.bool]
    | some .string => some [.str]
    | some (.slice e) => (match flatB P n e with
      | some l => if (Nat.beq (P.cellsOf e) l.length && !Nat.beq l.length 0) = true then some [.sl l] else none
      | none => none)
    | some (.struct fs) => (match flatF P (flatB P n) fs.toList 0 with
      | some l => if Nat.beq (P.cellsOf t) l.length = true then some l else none
      | none => none)
    | _ => none
theorem rows_vrs {μ : Mu} {e : List CK} : ∀ {xs : List D} {l : List Value}, (∀ i x, xs[i]? = some x → VRs μ (encZ e (row e x)) ((l.drop (i * e.length)).take e.length)) → VRs μ (encR e xs) (l.take (xs.length * e.length))
  | [], l, _ => by
    simp only [encR, List.flatMap_nil, List.length_nil, Nat.zero_mul, List.take_zero]
    exact .nil
  | x :: xs, l, h => by
    have h0 := h 0 x rfl
    have h1 := rows_vrs (μ := μ) (e := e) (xs := xs) (l := l.drop e.length) (fun i y hy => by
      have := h (i + 1) y (by simpa using hy)
      rwa [Nat.add_mul, Nat.one_mul, Nat.add_comm, ← List.drop_drop] at this)
    simp only [Nat.zero_mul, List.drop_zero] at h0
    simp only [encR, List.flatMap_cons, List.length_cons] at h1 ⊢
    rw [Nat.add_mul, Nat.one_mul, Nat.add_comm, List.take_add]
    exact h0.app h1
theorem choose_rows {Q : Nat → D → Prop} : ∀ n : Nat, (∀ i, i < n → ∃ x, Q i x) → ∃ xs : List D, xs.length = n ∧ ∀ i x, xs[i]? = some x → Q i x
  | 0, _ => ⟨[], rfl, fun i x h => by simp at h⟩
  | n + 1, h => by
    obtain ⟨xs, hl, hx⟩ := choose_rows n (fun i hi => h i (by omega))
    obtain ⟨x, hq⟩ := h n (by omega)
    refine ⟨xs ++ [x], by simp [hl], fun i y hy => ?_⟩
    rw [List.getElem?_append] at hy
    split at hy
    · exact hx i y hy
    · rename_i hlt
      have : i = n := by
        by_cases e : i - xs.length = 0
        · omega
        · rw [List.getElem?_eq_none (by simp; omega)] at hy
          cases hy
      subst this
      rw [show i - xs.length = 0 by omega] at hy
      simp at hy
      subst hy
      exact hq
section
variable {P : Program} {H : Type} {enc : TypeId × Value → H} {w : World}
theorem trod_kinds : ∀ {n : Nat} {t : TypeId} {e : List CK} {fuel : Nat} {cs : List Value} {y : DataW H × List MemPlace}, flatB P n t = some e → DataW.trod enc P w 0 (fun _ => true) true fuel t cs = some y → ∃ ds, wfZ e ds ∧ VRs (muW w) (encZ e ds) cs
  | 0, t, e, fuel, cs, y, h, _ => by cases h
  | n + 1, t, e, fuel, cs, y, h, hy => by
    unfold flatB at h
    split at h
    · rename_i k ht
      cases h
      obtain ⟨z, rfl, _, hw⟩ := DataW.trod_int ht hy
      refine ⟨[.i z], ⟨hw, trivial⟩, ?_⟩
      rw [encZ, encZ, encC]
      exact .cons (.v _) .nil
    · rename_i ht
      cases h
      obtain ⟨z, rfl, _⟩ := DataW.trod_bool ht hy
      refine ⟨[.b z], ⟨trivial, trivial⟩, ?_⟩
      rw [encZ, encZ, encC]
      exact .cons (.v _) .nil
    · rename_i ht
      cases h
      obtain ⟨z, rfl, _, hw⟩ := DataW.trod_string ht hy
      refine ⟨[.s z], ⟨hw, trivial⟩, ?_⟩
      rw [encZ, encZ, encC]
      exact .cons (.v _) .nil
    · rename_i el ht
      split at h
      · rename_i l hl
        split at h
        · rename_i hb
          cases h
          simp only [Bool.and_eq_true, Bool.not_eq_true'] at hb
          have hsz := Nat.eq_of_beq_eq_true hb.1
          have hpos : 0 < l.length := by
            rcases Nat.eq_zero_or_pos l.length with g | g
            · rw [g] at hb; simp at hb
            · exact g
          rcases open_slice ht hy with ⟨rfl, _⟩ | ⟨a, len, cap, m, n', D', Pl', rfl, _, hlc, hm, hmm, _, hx⟩
          · refine ⟨[.l []], ⟨⟨by simp [maxLen], fun x hx => by cases hx⟩, trivial⟩, ?_⟩
            rw [encZ, encZ, encC_sl]
            exact .cons (.fz0 _ _) .nil
          · simp only [if_true] at hmm
            subst hmm
            have hrow : ∀ i, i < len → ∃ x : D, (wfZ l (row l x)) ∧ ∃ cs', VRs (muW w) (encZ l (row l x)) cs' ∧ cs'.length = l.length ∧ ∀ j, j < l.length → w.cell? (a.add (i * l.length + j)) = cs'[j]? := fun i hi => by
              obtain ⟨cs', hc, htr⟩ := hx i (by omega)
              obtain ⟨_, hcl, hat⟩ := World.cells?_some hc
              obtain ⟨ds, h1, h2⟩ := trod_kinds hl htr
              have hlen := okZ_length (wfZ_ok h1)
              refine ⟨unrow l ds, by rw [row_unrow hlen]; exact h1, cs', by rw [row_unrow hlen]; exact h2, by rw [hcl, hsz], fun j hj => ?_⟩
              rw [← hat j (by rw [hsz]; exact hj), Go.Deep.add_add, hsz]
            obtain ⟨xs, hxl, hq⟩ := choose_rows len hrow
            have hwf : wfZ [.sl l] [.l xs] := ⟨⟨by omega, fun x hx => by
              obtain ⟨j, hj⟩ := List.mem_iff_getElem?.1 hx
              exact (hq j x hj).1⟩, trivial⟩
            refine ⟨[.l xs], hwf, ?_⟩
            rw [encZ, encZ, encC_sl]
            refine .cons ?_ .nil
            rcases Nat.eq_zero_or_pos len with rfl | hlp
            · have : xs = [] := List.eq_nil_of_length_eq_zero hxl
              subst this
              exact .fz0 _ _
            · have hh : a.spot = none ∧ ∃ c ty r, w.heap[a.block]? = some (.cells c ty r) := by
                obtain ⟨x, hx0⟩ : ∃ x, xs[0]? = some x := by
                  cases xs with
                  | nil => simp at hxl; omega
                  | cons x r => exact ⟨x, rfl⟩
                obtain ⟨_, cs', _, h2, h3⟩ := hq 0 x hx0
                have := h3 0 hpos
                rw [List.getElem?_eq_getElem (by omega)] at this
                unfold World.cell? at this
                split at this
                · rename_i c ty r hh
                  split at this
                  · cases this
                  · rename_i hsp
                    exact ⟨by simpa [Addr.add] using hsp, c, ty, r, by simpa [Addr.add] using hh⟩
                · cases this
              obtain ⟨hsp, c, ty, r, hheap⟩ := hh
              obtain ⟨b, o, sp⟩ := a
              simp only at hsp hheap
              subst hsp
              have hrd : (muW w).rd false b = some c.toList := by
                rw [muW_rd, rdW, hheap]
              have hcell : ∀ j, w.cell? ((⟨b, o, none⟩ : Addr).add j) = c.toList[o + j]? := fun j => by
                by_cases hj0 : j = 0
                · subst hj0
                  simp [World.cell?, Addr.add, hheap]
                · simp [World.cell?, Addr.add, hheap, hj0]
              rw [← hxl]
              refine .fz hrd (encR_length _ _) (by omega) ?_
              refine rows_vrs (fun i x hi => ?_)
              obtain ⟨_, cs', h1, h2, h3⟩ := hq i x hi
              have : (((c.toList.drop o).drop (i * l.length)).take l.length) = cs' := by
                apply List.ext_getElem?
                intro j
                rcases Nat.lt_or_ge j l.length with hj | hj
                · rw [List.getElem?_take_of_lt hj, List.drop_drop, List.getElem?_drop, ← h3 j hj, hcell]
                  congr 1
                  omega
                · rw [List.getElem?_eq_none (by rw [List.length_take]; omega), List.getElem?_eq_none (by omega)]
              rw [this]
              exact h1
        · cases h
      · cases h
    · rename_i fs ht
      split at h
      · rename_i l hl
        split at h
        · rename_i hb
          cases h
          have hcl := Nat.eq_of_beq_eq_true hb
          obtain ⟨xs, m, _, _, hlen, hxl, hg⟩ := DataW.trod_struct ht hy
          have hf : ∀ f ∈ fs.toList, ∃ y, DataW.trod enc P w 0 (fun _ => true) true m f.type ((cs.drop f.offset).take (P.cellsOf f.type)) = some y := fun f hf => by
            obtain ⟨i, hi⟩ := List.mem_iff_getElem?.1 hf
            have hi' : fs[i]? = some f := by simpa using hi
            have hlt : i < fs.size := (Array.getElem?_eq_some_iff.1 hi').1
            have := hg i f hi'
            rw [List.getElem?_eq_getElem (by omega)] at this
            exact ⟨_, this⟩
          have key : ∀ (fl : List Field) (o : Nat) (l : List CK), flatF P (flatB P n) fl o = some l → (∀ f ∈ fl, ∃ y, DataW.trod enc P w 0 (fun _ => true) true m f.type ((cs.drop f.offset).take (P.cellsOf f.type)) = some y) → ∃ ds, wfZ l ds ∧ VRs (muW w) (encZ l ds) ((cs.drop o).take l.length) := by
            intro fl
            induction fl with
            | nil =>
              intro o l h _
              cases h
              exact ⟨[], trivial, by rw [encZ]; simp only [List.length_nil, List.take_zero]; exact .nil⟩
            | cons f r ih =>
              intro o l h hf
              simp only [flatF] at h
              split at h
              · rename_i l1 hl1
                split at h
                · rename_i hb
                  simp only [Bool.and_eq_true] at hb
                  split at h
                  · rename_i m1 hm1
                    cases h
                    obtain ⟨ds2, h3, h4⟩ := ih _ _ hm1 (fun g hg => hf g (List.mem_cons_of_mem _ hg))
                    obtain ⟨y, hy⟩ := hf f List.mem_cons_self
                    obtain ⟨ds1, h1, h2⟩ := trod_kinds hl1 hy
                    rw [Nat.eq_of_beq_eq_true hb.1, Nat.eq_of_beq_eq_true hb.2] at h2
                    refine ⟨ds1 ++ ds2, wfZ_app h1 h3, ?_⟩
                    rw [encZ_app (okZ_length (wfZ_ok h1)), List.length_append, List.take_add, List.drop_drop]
                    exact h2.app h4
                  · cases h
                · cases h
              · cases h
          obtain ⟨ds, h1, h2⟩ := key _ _ _ hl hf
          refine ⟨ds, h1, ?_⟩
          rwa [List.drop_zero, List.take_of_length_le (by omega)] at h2
        · cases h
      · cases h
    · cases h
end
/-- A law that takes no block of its own: it gives x, and what was there is as it was. -/
theorem FT.row {P : Program} {f : FuncId} {args : List AV} {x : Value} {W : World} {vs : List Value} {R : AV → Hp → Nat → Prop} (h : FT P f args [] 0 R) (hR : ∀ r H' nx, R r H' nx → r = .v x) (hv : VRs (muW W) args vs) (hG : GK (muW W).ln) : Calls P f vs.toArray W (fun e W' => e = .returned x ∧ Below W.heap.size W W') := by
  refine Calls.mono (h (muW W) W vs ⟨fun i cs h => (by cases h), fun i cs h => (by cases h), fun i j cs ds _ h => (by cases h), fun l b cs hl => ?_, fun i cs a h => (by cases h)⟩ (fun i _ => rfl) (fun i cs h => by cases h) hv hG) ?_
  · rw [muW_rd] at hl
    unfold rdW at hl
    split at hl
    · rename_i c ty r hh
      cases hl
      exact ⟨c, ty, r, hh, rfl⟩
    · cases hl
  · rintro e w' ⟨c, r, H', nx, μ', rfl, hr, _, _, hvr, _, _, _, hk, _⟩
    rw [hR _ _ _ hr] at hvr
    refine ⟨by rw [hvr.val], hk.os, hk.tape, hk.output, hk.size, fun k hk' => hk.block k hk' ?_⟩
    rintro ⟨i, cs, p, hi, _⟩
    cases hi
end Go.BH
