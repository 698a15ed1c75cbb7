/- The plain picture of a call's memory, 2: a new block, a new variable, a store, a block let go. -/
import Derived.Test.YtcphdfjoodebiaaAH1
set_option linter.unusedVariables false
set_option linter.unusedSimpArgs false
namespace Go.AH
open Go.RowKit
def lput : List (Nat × List AV) → Nat → List AV → List (Nat × List AV)
  | [], n, cs => [(n, cs)]
  | (k, ds) :: r, n, cs => if k = n then (n, cs) :: r else (k, ds) :: lput r n cs
theorem lget_lput (l : List (Nat × List AV)) (n : Nat) (cs : List AV) (m : Nat) : lget (lput l n cs) m = if n = m then some cs else lget l m := by
  induction l with
  | nil => simp [lput, lget]
  | cons p r ih =>
    obtain ⟨k, ds⟩ := p
    unfold lput
    by_cases e : k = n
    · subst e
      rw [if_pos rfl]
      by_cases f : k = m
      · simp [lget, f]
      · simp [lget, f]
    · rw [if_neg e]
      by_cases f : k = m
      · subst f
        rw [if_neg (Ne.symm e)]
        simp [lget]
      · simp only [lget, if_neg f, ih]
/-- Block i now holds cs. -/
def Hp.put (H : Hp) : Id → List AV → Hp
  | .g n, cs => { H with g := H.g.set n (.own cs) }
  | .l n, cs => { H with l := lput H.l n cs }
def Hp.kill (H : Hp) : Id → Hp
  | .g n => { H with g := H.g.set n .dead }
  | .l n => H
def Hp.push (H : Hp) (b : Blk) : Hp := { H with g := H.g ++ [b] }
/-- Is there such a block at all? -/
def Hp.has (H : Hp) : Id → Prop
  | .g n => n < H.g.length
  | .l _ => True
theorem has_of {H : Hp} {i : Id} (h : (H.get i).alive = true) : H.has i := by
  cases i with
  | g n =>
    rcases Nat.lt_or_ge n H.g.length with k | k
    · exact k
    · simp [Hp.get, List.getElem?_eq_none k, Blk.alive] at h
  | l n => trivial
theorem alive_of {b : Blk} (h : b.cells ≠ []) : b.alive = true := by
  cases b <;> simp_all [Blk.cells, Blk.alive]
theorem alive_own {b : Blk} (h : b.isOwn = true) : b.alive = true := by
  cases b <;> simp_all [Blk.isOwn, Blk.alive]
theorem get_put_same' {H : Hp} {i : Id} (h : H.has i) (cs : List AV) : (H.put i cs).get i = .own cs := by
  cases i with
  | g n => simp [Hp.put, Hp.get, List.getElem?_set, show n < H.g.length from h]
  | l n => simp [Hp.put, Hp.get, lget_lput]
theorem get_put_same {H : Hp} {i : Id} (h : (H.get i).alive = true) (cs : List AV) : (H.put i cs).get i = .own cs := get_put_same' (has_of h) cs
theorem get_put_ne {H : Hp} {i j : Id} (h : i ≠ j) (cs : List AV) : (H.put i cs).get j = H.get j := by
  cases i with
  | g n =>
    cases j with
    | g m =>
      have : n ≠ m := fun e => h (by rw [e])
      simp [Hp.put, Hp.get, List.getElem?_set, this]
    | l m => rfl
  | l n =>
    cases j with
    | g m => rfl
    | l m =>
      have : n ≠ m := fun e => h (by rw [e])
      simp [Hp.put, Hp.get, lget_lput, this]
theorem get_push_new (H : Hp) (b : Blk) : (H.push b).get (.g H.g.length) = b := by simp [Hp.push, Hp.get]
theorem get_push_ne (H : Hp) (b : Blk) {i : Id} (h : i ≠ .g H.g.length) : (H.push b).get i = H.get i := by
  cases i with
  | l m => rfl
  | g m =>
    have hm : m ≠ H.g.length := fun e => h (by rw [e])
    simp only [Hp.push, Hp.get]
    rcases Nat.lt_or_ge m H.g.length with k | k
    · rw [List.getElem?_append_left k]
    · rw [List.getElem?_eq_none (by simp; omega), List.getElem?_eq_none k]
theorem get_kill_same (H : Hp) (n : Nat) : (H.kill (.g n)).get (.g n) = .dead := by
  simp only [Hp.kill, Hp.get]
  by_cases h : n < H.g.length
  · simp [List.getElem?_set, h]
  · rw [List.getElem?_eq_none (by simp; omega)]; rfl
theorem get_kill_ne (H : Hp) {i j : Id} (h : i ≠ j) : (H.kill i).get j = H.get j := by
  cases i with
  | l n => rfl
  | g n =>
    cases j with
    | l m => rfl
    | g m =>
      have : n ≠ m := fun e => h (by rw [e])
      simp [Hp.kill, Hp.get, List.getElem?_set, this]
section
variable {base : Nat} {μ : Id → Option Pl} {H : Hp} {w : World}
/-- The world has turned only in blocks that the picture doesn't know, or that it has let go. -/
theorem HR.world {w' : World} (h : HR base μ H w) (hs : w.heap.size ≤ w'.heap.size) (hb : ∀ i, (H.get i).alive = true → ∀ a, μ i = some a → w'.heap[a.block]? = w.heap[a.block]?) : HR base μ H w' where
  there i hi := by
    obtain ⟨a, ha, hl, hat⟩ := h.there i hi
    exact ⟨a, ha, by omega, hat.mono (fun j => cell_block (hb i (alive_of hi) a ha)) (fun _ _ _ k => k)⟩
  own i hi a ha := by
    obtain ⟨h1, ⟨c, t, h2, h3⟩, h4⟩ := h.own i hi a ha
    exact ⟨h1, ⟨c, t, (hb i (alive_own hi) a ha).trans h2, h3⟩, h4⟩
  apart := h.apart
  clean := h.clean
  old i a ha := by have := h.old i a ha; omega
/-- What is said of an own block's cell: it may be written. -/
theorem HR.cell {i : Id} {cs : List AV} (h : HR base μ H w) (hi : H.get i = .own cs) {o : Nat} (ho : o < cs.length) : ∃ a y, μ i = some a ∧ base ≤ a.block ∧ w.cell? ⟨a.block, a.off + o, none⟩ = some y ∧ w.frozen? ⟨a.block, a.off + o, none⟩ = false := by
  obtain ⟨a, ha, _, hat⟩ := h.there i (by rw [hi]; rintro e; rw [show cs = [] from e] at ho; simp at ho)
  obtain ⟨h1, ⟨c, t, h2, h3⟩, h4⟩ := h.own i (by rw [hi]; rfl) a ha
  obtain ⟨y, hy, _⟩ := hat o _ (by rw [hi]; exact List.getElem?_eq_getElem ho)
  exact ⟨a, y, ha, h1, hy, by simp [World.frozen?, h2]⟩
theorem HR.write {i : Id} {cs : List AV} (h : HR base μ H w) (hi : H.get i = .own cs) {o : Nat} (ho : o < cs.length) {a : Pl} (ha : μ i = some a) {x : AV} {c : Value} (hx : VR μ x c) (hn : x.noL = true) :
    HR base μ (H.put i (cs.set o x)) (w.setCell ⟨a.block, a.off + o, none⟩ c) := by
  have hal : (H.get i).alive = true := by rw [hi]; rfl
  have how : (H.get i).isOwn = true := by rw [hi]; rfl
  obtain ⟨hb, ⟨c0, t0, hroom, hsz⟩, hext⟩ := h.own i how a ha
  have hne : ∀ k, k ≠ a.block → (w.setCell ⟨a.block, a.off + o, none⟩ c).heap[k]? = w.heap[k]? := fun k hk => Below.heap_setCell _ _ _ _ hk
  have hself : (w.setCell ⟨a.block, a.off + o, none⟩ c).heap[a.block]? = some (.cells (c0.setIfInBounds (a.off + o) c) t0 (0, 0)) := by
    simp only [World.setCell, Array.getElem?_modify, if_true, hroom]
    rfl
  have hne0 : (H.get i).cells ≠ [] := by rw [hi]; rintro e; rw [show cs = [] from e] at ho; simp at ho
  have hall : ∀ j, ((H.put i (cs.set o x)).get j).alive = true → (H.get j).alive = true := fun j hj => by
    by_cases e : i = j
    · subst e; exact hal
    · rw [get_put_ne e] at hj; exact hj
  have hown : ∀ j, ((H.put i (cs.set o x)).get j).isOwn = true → (H.get j).isOwn = true := fun j hj => by
    by_cases e : i = j
    · subst e; exact how
    · rw [get_put_ne e] at hj; exact hj
  refine ⟨fun j hj => ?_, fun j hj b hjb => ?_, fun j k hjk hj hk b d hb hd => h.apart j k hjk (hown j hj) (hall k hk) b d hb hd, fun j y hy => ?_, fun j b hb => ?_⟩
  · by_cases e : i = j
    · subst e
      refine ⟨a, ha, by simpa [World.setCell] using h.old i a ha, ?_⟩
      rw [get_put_same hal]
      intro m y hm
      have hml : m < cs.length := by
        rcases Nat.lt_or_ge m cs.length with g | g
        · exact g
        · simp [Blk.cells, List.getElem?_eq_none (show (cs.set o x).length ≤ m by simpa using g)] at hm
      by_cases em : m = o
      · subst em
        simp [Blk.cells, List.getElem?_set, ho] at hm
        subst hm
        have hlt : a.off + m < c0.size := by
          rw [hi] at hext
          simp only [Blk.cells] at hext
          omega
        refine ⟨c, ?_, hx⟩
        simp only [World.cell?, hself, Option.isSome_none, Bool.false_eq_true, if_false]
        rw [Array.getElem?_setIfInBounds_self_of_lt hlt]
      · simp only [Blk.cells, List.getElem?_set, if_neg (Ne.symm em)] at hm
        obtain ⟨a', ha', _, hat⟩ := h.there i hne0
        obtain rfl : a' = a := Option.some.inj (ha'.symm.trans ha)
        obtain ⟨z, hz, hv⟩ := hat m y (by rw [hi]; exact hm)
        refine ⟨z, ?_, hv⟩
        simp only [World.cell?, hroom, hself, Option.isSome_none, Bool.false_eq_true, if_false] at hz ⊢
        rw [Array.getElem?_setIfInBounds_ne (by omega)]
        exact hz
    · rw [get_put_ne e] at hj ⊢
      obtain ⟨b, hb', hl, hat⟩ := h.there j hj
      refine ⟨b, hb', by simpa [World.setCell] using hl, hat.mono (fun m => cell_block (hne _ ?_)) (fun _ _ _ k => k)⟩
      exact (h.apart i j e how (alive_of hj) a b ha hb').symm
  · by_cases e : i = j
    · subst e
      obtain rfl : b = a := Option.some.inj (hjb.symm.trans ha)
      rw [get_put_same hal]
      refine ⟨hb, ⟨_, t0, hself, by simpa using hsz⟩, ?_⟩
      rw [hi] at hext
      simpa [Blk.cells] using hext
    · rw [get_put_ne e] at hj ⊢
      obtain ⟨h1, ⟨c1, t1, h2, h3⟩, h4⟩ := h.own j hj b hjb
      exact ⟨h1, ⟨c1, t1, (hne _ (h.apart i j e how (alive_own hj) a b ha hjb).symm).trans h2, h3⟩, h4⟩
  · by_cases e : i = j
    · subst e
      rw [get_put_same hal] at hy
      rcases List.mem_or_eq_of_mem_set hy with g | g
      · exact h.clean i y (by rw [hi]; exact g)
      · rw [g]; exact hn
    · rw [get_put_ne e] at hy
      exact h.clean j y hy
  · simpa [World.setCell] using h.old j b hb
/-- A placing with one block more. -/
def place (μ : Id → Option Pl) (i : Id) (a : Pl) : Id → Option Pl := fun j => if j = i then some a else μ j
theorem place_same (μ : Id → Option Pl) (i : Id) (a : Pl) : place μ i a i = some a := if_pos rfl
theorem place_ne (μ : Id → Option Pl) {i j : Id} (a : Pl) (h : j ≠ i) : place μ i a j = μ j := if_neg h
/-- A block of the machine's that the picture has not named yet has no place. -/
def Fresh (μ : Id → Option Pl) (H : Hp) : Prop := ∀ n, H.g.length ≤ n → μ (.g n) = none
theorem HR.alloc (h : HR base μ H w) (hbase : base ≤ w.heap.size) (hf : Fresh μ H) {cs : List AV} {l : List Value} (hv : VRs μ cs l) (hn : ∀ x ∈ cs, x.noL = true) (rest : Array Value) (t : TypeId) :
    HR base (place μ (.g H.g.length) ⟨w.heap.size, 0, l.length + rest.size⟩) (H.push (.own cs)) (w.alloc (.cells (l.toArray ++ rest) t)) := by
  have hmono : ∀ (i : Id) (a : Pl), μ i = some a → place μ (.g H.g.length) ⟨w.heap.size, 0, l.length + rest.size⟩ i = some a := fun i a hi => by
    rw [place_ne]
    · exact hi
    · rintro rfl
      rw [hf _ (Nat.le_refl _)] at hi
      cases hi
  have hnew : (w.alloc (.cells (l.toArray ++ rest) t)).heap[w.heap.size]? = some (.cells (l.toArray ++ rest) t (0, 0)) := by
    show (w.heap.push _)[w.heap.size]? = _
    simp
  have hlen := hv.length
  have hplace : ∀ (j : Id) (a : Pl), j ≠ .g H.g.length → place μ (.g H.g.length) ⟨w.heap.size, 0, l.length + rest.size⟩ j = some a → μ j = some a := fun j a hj ha => by rwa [place_ne _ _ hj] at ha
  refine ⟨fun j hj => ?_, fun j hj b hjb => ?_, fun j k hjk hj hk b d hb hd => ?_, fun j y hy => ?_, fun j b hb => ?_⟩
  · by_cases e : j = .g H.g.length
    · subst e
      refine ⟨_, place_same _ _ _, by simp, ?_⟩
      rw [get_push_new]
      intro m y hm
      obtain ⟨d, hd, hvd⟩ := hv.get m y hm
      refine ⟨d, ?_, hvd.mono hmono⟩
      have hml : m < l.length := by
        rcases Nat.lt_or_ge m l.length with g | g
        · exact g
        · rw [List.getElem?_eq_none g] at hd; cases hd
      simp only [World.cell?, hnew, Option.isSome_none, Bool.false_eq_true, if_false, Nat.zero_add]
      rw [Array.getElem?_append_left (by simpa using hml)]
      simpa using hd
    · rw [get_push_ne _ _ e] at hj ⊢
      obtain ⟨a, ha, hl, hat⟩ := h.there j hj
      exact ⟨a, hmono j a ha, by simp; omega, hat.mono (fun m => cell_block (Below.heap_alloc _ _ _ hl)) (fun _ _ _ k => k.mono hmono)⟩
  · by_cases e : j = .g H.g.length
    · subst e
      rw [place_same] at hjb
      obtain rfl := (Option.some.inj hjb).symm
      rw [get_push_new]
      exact ⟨hbase, ⟨_, t, hnew, by simp⟩, by simp [Blk.cells]; omega⟩
    · rw [get_push_ne _ _ e] at hj ⊢
      have hjb' := hplace j b e hjb
      obtain ⟨h1, ⟨c1, t1, h2, h3⟩, h4⟩ := h.own j hj b hjb'
      exact ⟨h1, ⟨c1, t1, (Below.heap_alloc _ _ _ (h.old j b hjb')).trans h2, h3⟩, h4⟩
  · by_cases e : j = .g H.g.length
    · subst e
      rw [place_same] at hb
      obtain rfl := (Option.some.inj hb).symm
      have := h.old k d (hplace k d (Ne.symm hjk) hd)
      intro he
      simp only at he
      omega
    · by_cases e' : k = .g H.g.length
      · subst e'
        rw [place_same] at hd
        obtain rfl := (Option.some.inj hd).symm
        have := h.old j b (hplace j b e hb)
        intro he
        simp only at he
        omega
      · rw [get_push_ne _ _ e] at hj
        rw [get_push_ne _ _ e'] at hk
        exact h.apart j k hjk hj hk b d (hplace j b e hb) (hplace k d e' hd)
  · by_cases e : j = .g H.g.length
    · subst e
      rw [get_push_new] at hy
      exact hn y hy
    · rw [get_push_ne _ _ e] at hy
      exact h.clean j y hy
  · by_cases e : j = .g H.g.length
    · subst e
      rw [place_same] at hb
      obtain rfl := (Option.some.inj hb).symm
      simp
    · have := h.old j b (hplace j b e hb)
      simp; omega
end
end Go.AH
