/- The picture by value, 2: a store, a new block, a block that grows, a block frozen. -/
import Derived.Test.YtdjfhggmcigahaaDoorB1
set_option linter.unusedVariables false
set_option linter.unusedSimpArgs false
namespace Go.BH
open Go.RowKit
section
variable {μ : Mu} {H : Hp} {w : World}
/-- The world has turned in no block that the picture knows. -/
theorem HR.world {w' : World} (h : HR μ H w) (hb : ∀ i cs, hget H i = some cs → ∀ a, μ.pl i = some a → w'.heap[a.block]? = w.heap[a.block]?) (hr : ∀ l b cs, μ.rd l b = some cs → w'.heap[b]? = w.heap[b]?) : HR μ H w' where
  own i cs hi a ha := by
    obtain ⟨c, t, h1, h2⟩ := h.own i cs hi a ha
    exact ⟨c, t, (hb i cs hi a ha).trans h1, h2⟩
  there := h.there
  apart := h.apart
  rd l b cs hl := by
    obtain ⟨c, t, r, h1, h2⟩ := h.rd l b cs hl
    exact ⟨c, t, r, (hr l b cs hl).trans h1, h2⟩
  far := h.far
theorem heap_set_self {w : World} {b o : Nat} {c : Array Value} {t : TypeId} {r : Nat × Nat} (h : w.heap[b]? = some (.cells c t r)) (v : Value) : (w.setCell ⟨b, o, none⟩ v).heap[b]? = some (.cells (c.setIfInBounds o v) t r) := by
  simp only [World.setCell, Array.getElem?_modify, if_true, h]
  rfl
theorem HR.write {i : Nat} {cs : List AV} (h : HR μ H w) (hi : hget H i = some cs) {o : Nat} (ho : o < cs.length) {a : Pl} (ha : μ.pl i = some a) {x : AV} {c : Value} (hx : VR μ x c) :
    HR μ (hput H i (cs.set o x)) (w.setCell ⟨a.block, a.base + o, none⟩ c) := by
  obtain ⟨c0, t0, hroom, hsz, hlen, hat⟩ := h.own i cs hi a ha
  have hne : ∀ k, k ≠ a.block → (w.setCell ⟨a.block, a.base + o, none⟩ c).heap[k]? = w.heap[k]? := fun k hk => Below.heap_setCell _ _ _ _ hk
  have hself := heap_set_self (o := a.base + o) hroom c
  have hsame : hget (hput H i (cs.set o x)) i = some (cs.set o x) := hget_hput_same (by rw [hi]; simp)
  have hal : ∀ j ds, hget (hput H i (cs.set o x)) j = some ds → ∃ es, hget H j = some es := fun j ds hj => by
    by_cases e : i = j
    · subst e; exact ⟨cs, hi⟩
    · rw [hget_hput_ne e] at hj; exact ⟨ds, hj⟩
  refine ⟨fun j ds hj b hjb => ?_, fun j ds hj hds => ?_, fun j k ds es hjk hj hk b d hb hd => ?_, fun l b ds hl => ?_, fun j ds b hj hb l => ?_⟩
  · by_cases e : i = j
    · subst e
      obtain rfl := Option.some.inj (hsame.symm.trans hj)
      obtain rfl := Option.some.inj (ha.symm.trans hjb)
      refine ⟨_, t0, hself, by simpa using hsz, by simpa using hlen, fun m y hm => ?_⟩
      by_cases em : m = o
      · subst em
        rw [List.getElem?_set_self (by simpa using ho)] at hm
        obtain rfl := Option.some.inj hm
        exact ⟨c, by rw [Array.getElem?_setIfInBounds_self_of_lt (by omega)], hx⟩
      · rw [List.getElem?_set_ne (Ne.symm em)] at hm
        obtain ⟨y', hy, hv⟩ := hat m y hm
        exact ⟨y', by rw [Array.getElem?_setIfInBounds_ne (by omega)]; exact hy, hv⟩
    · rw [hget_hput_ne e] at hj
      obtain ⟨c1, t1, h1, h2⟩ := h.own j ds hj b hjb
      exact ⟨c1, t1, (hne _ (h.apart i j cs ds e hi hj a b ha hjb).symm).trans h1, h2⟩
  · by_cases e : i = j
    · subst e; exact ⟨a, ha⟩
    · rw [hget_hput_ne e] at hj; exact h.there j ds hj hds
  · obtain ⟨es1, hj'⟩ := hal j ds hj
    obtain ⟨es2, hk'⟩ := hal k es hk
    exact h.apart j k _ _ hjk hj' hk' b d hb hd
  · obtain ⟨c1, t1, r1, h1, h2⟩ := h.rd l b ds hl
    refine ⟨c1, t1, r1, (hne b (fun e => ?_)).trans h1, h2⟩
    subst e
    rw [h.far i cs a hi ha l] at hl
    cases hl
  · obtain ⟨es, hj'⟩ := hal j ds hj
    exact h.far j es b hj' hb l
theorem hget_snoc {i : Nat} {cs : List AV} : ∀ {H : Hp}, hget H i = none → ∀ j, hget (H ++ [(i, cs)]) j = if j = i then some cs else hget H j
  | [], _, j => by
    by_cases e : j = i
    · subst e; simp [hget]
    · simp [hget, beq_ne (Ne.symm e), e]
  | (k, es) :: r, h, j => by
    simp only [hget] at h
    split at h
    · cases h
    · rename_i e0
      simp only [List.cons_append, hget]
      by_cases e : k = j
      · subst e
        have : k ≠ i := fun g => e0 (by rw [g]; simp)
        simp [this]
      · rw [beq_ne e]
        simp only [Bool.false_eq_true, if_false]
        exact hget_snoc h j
def Mu.put (μ : Mu) (i : Nat) (a : Pl) : Mu := ⟨fun j => if j = i then some a else μ.pl j, μ.fz, μ.ln⟩
theorem Mu.put_same (μ : Mu) (i : Nat) (a : Pl) : (μ.put i a).pl i = some a := if_pos rfl
theorem Mu.put_ne (μ : Mu) {i j : Nat} (a : Pl) (h : j ≠ i) : (μ.put i a).pl j = μ.pl j := if_neg h
theorem Mu.put_rd (μ : Mu) (i : Nat) (a : Pl) (l : Bool) : (μ.put i a).rd l = μ.rd l := by cases l <;> rfl
theorem Mu.put_sub {μ : Mu} {i : Nat} (h : μ.pl i = none) (a : Pl) : Sub μ (μ.put i a) := by
  refine ⟨fun j b hj => ?_, fun l b cs hl => by rw [Mu.put_rd]; exact hl⟩
  rw [Mu.put_ne]
  · exact hj
  · rintro rfl
    rw [h] at hj
    cases hj
/-- A block under a new name. In w' its cells lie there; else nothing that is known has turned. -/
theorem HR.name {w' : World} {i : Nat} {cs : List AV} {a : Pl} {c : Array Value} {t : TypeId} (h : HR μ H w) (hi : μ.pl i = none) (hH : hget H i = none) (hc : w'.heap[a.block]? = some (.cells c t (0, 0))) (h1 : a.base + a.ext ≤ c.size) (h2 : cs.length ≤ a.ext) (h3 : ∀ (j : Nat) (x : AV), cs[j]? = some x → ∃ y, c[a.base + j]? = some y ∧ VR μ x y)
    (hb : ∀ j ds, hget H j = some ds → ∀ b, μ.pl j = some b → b.block ≠ a.block ∧ w'.heap[b.block]? = w.heap[b.block]?) (hr : ∀ l b ds, μ.rd l b = some ds → b ≠ a.block ∧ w'.heap[b]? = w.heap[b]?) : HR (μ.put i a) (H ++ [(i, cs)]) w' := by
  have hsub := Mu.put_sub hi a
  refine ⟨fun j ds hj b hjb => ?_, fun j ds hj hds => ?_, fun j k ds es hjk hj hk b d hbb hd => ?_, fun l b ds hl => ?_, fun j ds b hj hbb l => ?_⟩
  · rw [hget_snoc hH] at hj
    by_cases e : j = i
    · subst e
      rw [if_pos rfl] at hj
      obtain rfl := Option.some.inj hj
      rw [Mu.put_same] at hjb
      obtain rfl := Option.some.inj hjb
      exact ⟨c, t, hc, h1, h2, fun m x hm => by
        obtain ⟨y, hy, hv⟩ := h3 m x hm
        exact ⟨y, hy, hv.mono hsub⟩⟩
    · rw [if_neg e] at hj
      rw [Mu.put_ne _ _ e] at hjb
      obtain ⟨c1, t1, g1, g2, g3, g4⟩ := h.own j ds hj b hjb
      exact ⟨c1, t1, (hb j ds hj b hjb).2.trans g1, g2, g3, fun m x hm => by
        obtain ⟨y, hy, hv⟩ := g4 m x hm
        exact ⟨y, hy, hv.mono hsub⟩⟩
  · rw [hget_snoc hH] at hj
    by_cases e : j = i
    · subst e; exact ⟨a, Mu.put_same _ _ _⟩
    · rw [if_neg e] at hj
      obtain ⟨b, hb'⟩ := h.there j ds hj hds
      exact ⟨b, hsub.pl _ _ hb'⟩
  · rw [hget_snoc hH] at hj hk
    by_cases e : j = i
    · subst e
      rw [Mu.put_same] at hbb
      obtain rfl := Option.some.inj hbb
      rw [if_neg (Ne.symm hjk)] at hk
      rw [Mu.put_ne _ _ (Ne.symm hjk)] at hd
      exact (hb k es hk d hd).1.symm
    · rw [if_neg e] at hj
      rw [Mu.put_ne _ _ e] at hbb
      by_cases e' : k = i
      · subst e'
        rw [Mu.put_same] at hd
        obtain rfl := Option.some.inj hd
        exact (hb j ds hj b hbb).1
      · rw [if_neg e'] at hk
        rw [Mu.put_ne _ _ e'] at hd
        exact h.apart j k ds es hjk hj hk b d hbb hd
  · rw [Mu.put_rd] at hl
    obtain ⟨c1, t1, r1, g1, g2⟩ := h.rd l b ds hl
    exact ⟨c1, t1, r1, (hr l b ds hl).2.trans g1, g2⟩
  · rw [Mu.put_rd]
    rw [hget_snoc hH] at hj
    by_cases e : j = i
    · subst e
      rw [Mu.put_same] at hbb
      obtain rfl := Option.some.inj hbb
      cases hl : μ.rd l a.block with
      | none => rfl
      | some ds' => exact absurd rfl (hr l _ ds' hl).1
    · rw [if_neg e] at hj
      rw [Mu.put_ne _ _ e] at hbb
      exact h.far j ds b hj hbb l
theorem alloc_self (w : World) (c : Array Value) (t : TypeId) : (w.alloc (.cells c t)).heap[w.heap.size]? = some (.cells c t (0, 0)) := by
  show (w.heap.push _)[w.heap.size]? = _
  simp
theorem HR.alloc {i : Nat} (h : HR μ H w) (hi : μ.pl i = none) (hH : hget H i = none) {cs : List AV} {l : List Value} (hv : VRs μ cs l) (rest : Array Value) (t : TypeId) :
    HR (μ.put i ⟨w.heap.size, 0, l.length + rest.size⟩) (H ++ [(i, cs)]) (w.alloc (.cells (l.toArray ++ rest) t)) := by
  have hlen := hv.length
  refine h.name hi hH (alloc_self _ _ _) (by simp) (by simp; omega) (fun j x hj => ?_) (fun j ds hj b hb => ?_) (fun l b ds hl => ?_)
  · obtain ⟨d, hd, hvd⟩ := hv.get j x hj
    have hml : j < l.length := by
      rcases Nat.lt_or_ge j l.length with g | g
      · exact g
      · rw [List.getElem?_eq_none g] at hd; cases hd
    exact ⟨d, by rw [Nat.zero_add, Array.getElem?_append_left (by simpa using hml)]; simpa using hd, hvd⟩
  · obtain ⟨c, t, g, _⟩ := h.own j ds hj b hb
    have := lt_of_heap g
    exact ⟨by simp only; omega, Below.heap_alloc _ _ _ this⟩
  · obtain ⟨c, t, r, g, _⟩ := h.rd l b ds hl
    have := lt_of_heap g
    exact ⟨by simp only; omega, Below.heap_alloc _ _ _ this⟩
/-- A block that is not named any more. -/
theorem HR.del (h : HR μ H w) (i : Nat) : HR μ (hdel H i) w where
  own j cs hj := h.own j cs (hget_hdel hj).2
  there j cs hj := h.there j cs (hget_hdel hj).2
  apart j k cs ds hjk hj hk := h.apart j k cs ds hjk (hget_hdel hj).2 (hget_hdel hk).2
  rd := h.rd
  far j cs a hj := h.far j cs a (hget_hdel hj).2
/-- A block frozen for good. -/
def Mu.frz (μ : Mu) (b : Nat) (cs : List Value) : Mu := ⟨μ.pl, fun k => if k = b then some cs else μ.fz k, μ.ln⟩
theorem HR.freeze {i : Nat} {cs : List AV} (h : HR μ H w) (hi : hget H i = some cs) {a : Pl} (ha : μ.pl i = some a) {c : Array Value} {t : TypeId} (hc : w.heap[a.block]? = some (.cells c t (0, 0))) : Sub μ (μ.frz a.block c.toList) ∧ HR (μ.frz a.block c.toList) (hdel H i) w := by
  have hno : ∀ l, μ.rd l a.block = none := h.far i cs a hi ha
  have hsub : Sub μ (μ.frz a.block c.toList) := ⟨fun _ _ k => k, fun l b ds k => by
    cases l with
    | true => exact k
    | false =>
      show (if b = a.block then _ else μ.fz b) = _
      rw [if_neg]
      · exact k
      · rintro rfl; rw [hno false] at k; cases k⟩
  have hrd : ∀ l b ds, (μ.frz a.block c.toList).rd l b = some ds → (l = false ∧ b = a.block ∧ ds = c.toList) ∨ μ.rd l b = some ds := fun l b ds k => by
    cases l with
    | true => exact .inr k
    | false =>
      by_cases e : b = a.block
      · subst e
        have : (if a.block = a.block then some c.toList else μ.fz a.block) = some ds := k
        rw [if_pos rfl] at this
        exact .inl ⟨rfl, rfl, (Option.some.inj this).symm⟩
      · have : (if b = a.block then some c.toList else μ.fz b) = some ds := k
        rw [if_neg e] at this
        exact .inr this
  refine ⟨hsub, ⟨fun j ds hj b hb => ?_, fun j ds hj => h.there j ds (hget_hdel hj).2, fun j k ds es hjk hj hk => h.apart j k ds es hjk (hget_hdel hj).2 (hget_hdel hk).2, fun l b ds hl => ?_, fun j ds b hj hb l => ?_⟩⟩
  · obtain ⟨c1, t1, g1, g2, g3, g4⟩ := h.own j ds (hget_hdel hj).2 b hb
    exact ⟨c1, t1, g1, g2, g3, fun m x hm => by
      obtain ⟨y, hy, hv⟩ := g4 m x hm
      exact ⟨y, hy, hv.mono hsub⟩⟩
  · rcases hrd l b ds hl with ⟨rfl, rfl, rfl⟩ | k
    · exact ⟨c, t, _, hc, rfl⟩
    · exact h.rd l b ds k
  · obtain ⟨hne, hj'⟩ := hget_hdel hj
    cases hl : (μ.frz a.block c.toList).rd l b.block with
    | none => rfl
    | some es =>
      rcases hrd l _ es hl with ⟨_, e, _⟩ | k
      · exact absurd e (h.apart i j cs ds hne hi hj' a b ha hb).symm
      · rw [h.far j ds b hj' hb l] at k; cases k
/-- One cell more of the room that a block has. -/
theorem HR.extend1 {i : Nat} {cs : List AV} (h : HR μ H w) (hi : hget H i = some cs) {a : Pl} (ha : μ.pl i = some a) (ho : cs.length < a.ext) {x : AV} {c : Value} (hx : VR μ x c) :
    HR μ (hput H i (cs ++ [x])) (w.setCell ⟨a.block, a.base + cs.length, none⟩ c) := by
  obtain ⟨c0, t0, hroom, hsz, hlen, hat⟩ := h.own i cs hi a ha
  have hne : ∀ k, k ≠ a.block → (w.setCell ⟨a.block, a.base + cs.length, none⟩ c).heap[k]? = w.heap[k]? := fun k hk => Below.heap_setCell _ _ _ _ hk
  have hself := heap_set_self (o := a.base + cs.length) hroom c
  have hsame : hget (hput H i (cs ++ [x])) i = some (cs ++ [x]) := hget_hput_same (by rw [hi]; simp)
  have hal : ∀ j ds, hget (hput H i (cs ++ [x])) j = some ds → ∃ es, hget H j = some es := fun j ds hj => by
    by_cases e : i = j
    · subst e; exact ⟨cs, hi⟩
    · rw [hget_hput_ne e] at hj; exact ⟨ds, hj⟩
  refine ⟨fun j ds hj b hjb => ?_, fun j ds hj hds => ?_, fun j k ds es hjk hj hk b d hb hd => ?_, fun l b ds hl => ?_, fun j ds b hj hb l => ?_⟩
  · by_cases e : i = j
    · subst e
      obtain rfl := Option.some.inj (hsame.symm.trans hj)
      obtain rfl := Option.some.inj (ha.symm.trans hjb)
      refine ⟨_, t0, hself, by simpa using hsz, by simp; omega, fun m y hm => ?_⟩
      by_cases em : m < cs.length
      · rw [List.getElem?_append_left em] at hm
        obtain ⟨y', hy, hv⟩ := hat m y hm
        exact ⟨y', by rw [Array.getElem?_setIfInBounds_ne (by omega)]; exact hy, hv⟩
      · have em' : m = cs.length := by
          have : m < (cs ++ [x]).length := by
            rcases Nat.lt_or_ge m (cs ++ [x]).length with g | g
            · exact g
            · rw [List.getElem?_eq_none g] at hm; cases hm
          simp at this
          omega
        subst em'
        simp at hm
        subst hm
        exact ⟨c, by rw [Array.getElem?_setIfInBounds_self_of_lt (by omega)], hx⟩
    · rw [hget_hput_ne e] at hj
      obtain ⟨c1, t1, h1, h2⟩ := h.own j ds hj b hjb
      exact ⟨c1, t1, (hne _ (h.apart i j cs ds e hi hj a b ha hjb).symm).trans h1, h2⟩
  · by_cases e : i = j
    · subst e; exact ⟨a, ha⟩
    · rw [hget_hput_ne e] at hj; exact h.there j ds hj hds
  · obtain ⟨es1, hj'⟩ := hal j ds hj
    obtain ⟨es2, hk'⟩ := hal k es hk
    exact h.apart j k _ _ hjk hj' hk' b d hb hd
  · obtain ⟨c1, t1, r1, h1, h2⟩ := h.rd l b ds hl
    refine ⟨c1, t1, r1, (hne b (fun e => ?_)).trans h1, h2⟩
    subst e
    rw [h.far i cs a hi ha l] at hl
    cases hl
  · obtain ⟨es, hj'⟩ := hal j ds hj
    exact h.far j es b hj' hb l
end
end Go.BH
