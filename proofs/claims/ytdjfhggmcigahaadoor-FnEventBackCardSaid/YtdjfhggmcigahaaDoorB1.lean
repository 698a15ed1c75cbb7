/- A picture of a call's memory by value: what is frozen is data, what may be written is a named block. (The author's own words; nothing here is trusted.) -/
import Derived.WalkKit
import Derived.Test.YtdjfhggmcigahaaDoorB0
import Derived.OrdersHeld
import Derived.Below
set_option linter.unusedVariables false
set_option linter.unusedSimpArgs false
namespace Go.BH
open Go.RowKit
/-- Where a named block lies, from which cell on, and how many cells are its own. -/
structure Pl where
  block : Nat
  base : Nat
  ext : Nat
/-- Where the named blocks lie; what the frozen blocks hold (for good; for this call alone). -/
structure Mu where
  pl : Nat → Option Pl
  fz : Nat → Option (List Value)
  ln : Nat → Option (List Value)
def Mu.rd (μ : Mu) : Bool → Nat → Option (List Value)
  | true => μ.ln
  | false => μ.fz
structure Sub (μ ν : Mu) : Prop where
  pl : ∀ i a, μ.pl i = some a → ν.pl i = some a
  rd : ∀ l b cs, μ.rd l b = some cs → ν.rd l b = some cs
theorem Sub.refl (μ : Mu) : Sub μ μ := ⟨fun _ _ h => h, fun _ _ _ h => h⟩
theorem Sub.trans {a b c : Mu} (h : Sub a b) (k : Sub b c) : Sub a c := ⟨fun i x e => k.pl i x (h.pl i x e), fun l i x e => k.rd l i x (h.rd l i x e)⟩
/-- A plain value. 'any': nothing is known of it. 'e0': an empty slice without room. 'ifs': an interface value that is not nil. 'sl i o n s': n elements of s cells each, from cell o of block i on. 'fz': a slice by value (true: for this call alone). 'pfz': a place in frozen memory, and what lies there. -/
inductive AV where
  | any
  | v (x : Value)
  | ptr (i o : Nat)
  | sl (i o n s : Nat)
  | e0
  | ifs
  | fz (l : Bool) (s n : Nat) (xs : List AV)
  | pfz (l : Bool) (xs : List AV)
  | agg (cs : List AV)
  | tup (cs : List AV)
  | fn (f : Fn) (captured : List AV)
  deriving Inhabited
mutual
inductive VR (μ : Mu) : AV → Value → Prop where
  | any (c : Value) : VR μ .any c
  | v (x : Value) : VR μ (.v x) x
  | ptr {i o : Nat} {a : Pl} (h : μ.pl i = some a) : VR μ (.ptr i o) (.pointer (some ⟨a.block, a.base + o, none⟩))
  | sl {i o n c s : Nat} {a : Pl} (h : μ.pl i = some a) (hc : n ≤ c) (he : o + c * s ≤ a.ext) : VR μ (.sl i o n s) (.slice (some ⟨a.block, a.base + o, none⟩) n c)
  | sl0 {i o s : Nat} (A : Option Addr) : VR μ (.sl i o 0 s) (.slice A 0 0)
  | e0 (A : Option Addr) : VR μ .e0 (.slice A 0 0)
  | ifs (t : TypeId) (x : Value) : VR μ .ifs (.iface t x)
  | fz {l : Bool} {n s c o b : Nat} {cs : List Value} {xs : List AV} (h : μ.rd l b = some cs) (hl : xs.length = n * s) (hc : n ≤ c) (k : VRs μ xs ((cs.drop o).take (n * s))) : VR μ (.fz l s n xs) (.slice (some ⟨b, o, none⟩) n c)
  | fz0 {l : Bool} {s : Nat} (A : Option Addr) (c : Nat) : VR μ (.fz l s 0 []) (.slice A 0 c)
  | pfz {l : Bool} {o b : Nat} {cs : List Value} {xs : List AV} (h : μ.rd l b = some cs) (k : VRs μ xs ((cs.drop o).take xs.length)) : VR μ (.pfz l xs) (.pointer (some ⟨b, o, none⟩))
  | agg {cs : List AV} {l : List Value} (h : VRs μ cs l) : VR μ (.agg cs) (.agg l.toArray)
  | tup {cs : List AV} {l : List Value} (h : VRs μ cs l) : VR μ (.tup cs) (.tuple l.toArray)
  | fn {f : Fn} {y : List AV} {m : List Value} (k : VRs μ y m) : VR μ (.fn f y) (.func f #[] m.toArray)
inductive VRs (μ : Mu) : List AV → List Value → Prop where
  | nil : VRs μ [] []
  | cons {x : AV} {c : Value} {xs : List AV} {cs : List Value} (h : VR μ x c) (k : VRs μ xs cs) : VRs μ (x :: xs) (c :: cs)
end
mutual
theorem VR.mono {μ ν : Mu} (h : Sub μ ν) : ∀ {x : AV} {c : Value}, VR μ x c → VR ν x c
  | _, _, .any c => .any c
  | _, _, .v x => .v x
  | _, _, .ptr k => .ptr (h.pl _ _ k)
  | _, _, .sl k hc he => .sl (h.pl _ _ k) hc he
  | _, _, .sl0 A => .sl0 A
  | _, _, .e0 A => .e0 A
  | _, _, .ifs t x => .ifs t x
  | _, _, .fz k hl hc m => .fz (h.rd _ _ _ k) hl hc (VRs.mono h m)
  | _, _, .fz0 A c => .fz0 A c
  | _, _, .pfz k m => .pfz (h.rd _ _ _ k) (VRs.mono h m)
  | _, _, .agg k => .agg (VRs.mono h k)
  | _, _, .tup k => .tup (VRs.mono h k)
  | _, _, .fn m => .fn (VRs.mono h m)
theorem VRs.mono {μ ν : Mu} (h : Sub μ ν) : ∀ {x : List AV} {c : List Value}, VRs μ x c → VRs ν x c
  | _, _, .nil => .nil
  | _, _, .cons k m => .cons (VR.mono h k) (VRs.mono h m)
end
theorem VRs.length {μ : Mu} : ∀ {x : List AV} {c : List Value}, VRs μ x c → c.length = x.length
  | _, _, .nil => rfl
  | _, _, .cons _ m => by simp [VRs.length m]
theorem VRs.get {μ : Mu} : ∀ {x : List AV} {c : List Value}, VRs μ x c → ∀ (j : Nat) (y : AV), x[j]? = some y → ∃ d, c[j]? = some d ∧ VR μ y d
  | _, _, .nil, j, y, h => by simp at h
  | _, _, .cons k m, 0, y, h => by
    simp at h
    subst h
    exact ⟨_, rfl, k⟩
  | _, _, .cons k m, j + 1, y, h => by
    simp at h
    obtain ⟨d, hd, hv⟩ := VRs.get m j y h
    exact ⟨d, by simpa using hd, hv⟩
theorem VRs.of {μ : Mu} : ∀ {x : List AV} {c : List Value}, c.length = x.length → (∀ (j : Nat) (y : AV), x[j]? = some y → ∃ d, c[j]? = some d ∧ VR μ y d) → VRs μ x c
  | [], [], _, _ => .nil
  | [], _ :: _, h, _ => by simp at h
  | _ :: _, [], h, _ => by simp at h
  | x :: xs, c :: cs, h, k => .cons (by
      obtain ⟨d, hd, hv⟩ := k 0 x rfl
      simp at hd
      subst hd
      exact hv) (VRs.of (by simpa using h) (fun j y hj => by simpa using k (j + 1) y (by simpa using hj)))
theorem VRs.append {μ : Mu} : ∀ {x y : List AV} {c d : List Value}, VRs μ x c → VRs μ y d → VRs μ (x ++ y) (c ++ d)
  | _, _, _, _, .nil, k => k
  | _, _, _, _, .cons h m, k => .cons h (VRs.append m k)
theorem VRs.set {μ : Mu} : ∀ {x : List AV} {c : List Value}, VRs μ x c → ∀ (j : Nat) {y : AV} {d : Value}, VR μ y d → VRs μ (x.set j y) (c.set j d)
  | _, _, .nil, _, _, _, _ => .nil
  | _, _, .cons _ m, 0, _, _, h => .cons h m
  | _, _, .cons k m, j + 1, _, _, h => .cons k (VRs.set m j h)
theorem take_get {α : Type} {l : List α} {k n j : Nat} {x : α} (h : ((l.drop k).take n)[j]? = some x) : l[k + j]? = some x ∧ j < n := by
  have hj : j < n := by
    rcases Nat.lt_or_ge j n with g | g
    · exact g
    · rw [List.getElem?_eq_none (by simp; omega)] at h; cases h
  rw [List.getElem?_take_of_lt hj, List.getElem?_drop] at h
  exact ⟨h, hj⟩
theorem VRs.seg {μ : Mu} {x : List AV} {c : List Value} (h : VRs μ x c) (k n : Nat) : VRs μ ((x.drop k).take n) ((c.drop k).take n) := by
  refine VRs.of (by have := h.length; simp; omega) (fun j y hj => ?_)
  obtain ⟨h1, h2⟩ := take_get hj
  obtain ⟨d, hd, hv⟩ := h.get _ _ h1
  exact ⟨d, by rw [List.getElem?_take_of_lt h2, List.getElem?_drop]; exact hd, hv⟩
theorem VRs.drop {μ : Mu} {x : List AV} {c : List Value} (h : VRs μ x c) (k : Nat) : VRs μ (x.drop k) (c.drop k) := by
  have := h.seg k x.length
  rwa [List.take_of_length_le (by simp), List.take_of_length_le (by have := h.length; simp; omega)] at this
theorem VRs.take {μ : Mu} {x : List AV} {c : List Value} (h : VRs μ x c) (n : Nat) : VRs μ (x.take n) (c.take n) := by
  have := h.seg 0 n
  simpa using this
/-- The blocks that may be written, by name. -/
abbrev Hp := List (Nat × List AV)
def hget : Hp → Nat → Option (List AV)
  | [], _ => none
  | (k, cs) :: r, n => if Nat.beq k n = true then some cs else hget r n
def hput : Hp → Nat → List AV → Hp
  | [], _, _ => []
  | (k, ds) :: r, n, cs => if Nat.beq k n = true then (n, cs) :: r else (k, ds) :: hput r n cs
def hdel : Hp → Nat → Hp
  | [], _ => []
  | (k, ds) :: r, n => if Nat.beq k n = true then hdel r n else (k, ds) :: hdel r n
theorem beq_ne {a b : Nat} (h : a ≠ b) : Nat.beq a b = false := by
  cases e : Nat.beq a b with
  | false => rfl
  | true => exact absurd (Nat.eq_of_beq_eq_true e) h
theorem hget_hput_same : ∀ {H : Hp} {n : Nat} {cs : List AV}, hget H n ≠ none → hget (hput H n cs) n = some cs
  | [], n, cs, h => absurd rfl h
  | (k, ds) :: r, n, cs, h => by
    simp only [hput]
    by_cases e : k = n
    · subst e; simp [hget]
    · rw [beq_ne e]
      simp only [Bool.false_eq_true, if_false, hget, beq_ne e]
      simp only [hget, beq_ne e, Bool.false_eq_true, if_false] at h
      exact hget_hput_same h
theorem hget_hput_ne : ∀ {H : Hp} {n m : Nat} {cs : List AV}, n ≠ m → hget (hput H n cs) m = hget H m
  | [], n, m, cs, h => rfl
  | (k, ds) :: r, n, m, cs, h => by
    simp only [hput]
    by_cases e : k = n
    · subst e; simp [hget, beq_ne h]
    · rw [beq_ne e]
      simp only [Bool.false_eq_true, if_false, hget]
      rw [hget_hput_ne h]
theorem hget_hdel_ne : ∀ {H : Hp} {n m : Nat}, n ≠ m → hget (hdel H n) m = hget H m
  | [], n, m, h => rfl
  | (k, ds) :: r, n, m, h => by
    simp only [hdel]
    by_cases e : k = n
    · subst e; simp [hget, beq_ne h, hget_hdel_ne h]
    · rw [beq_ne e]
      simp only [Bool.false_eq_true, if_false, hget]
      rw [hget_hdel_ne h]
theorem hget_hdel_same : ∀ {H : Hp} {n : Nat}, hget (hdel H n) n = none
  | [], n => rfl
  | (k, ds) :: r, n => by
    simp only [hdel]
    by_cases e : k = n
    · subst e; simp [hget_hdel_same]
    · rw [beq_ne e]
      simp only [Bool.false_eq_true, if_false, hget, beq_ne e]
      exact hget_hdel_same
theorem hget_hdel {H : Hp} {n m : Nat} {cs : List AV} (h : hget (hdel H n) m = some cs) : n ≠ m ∧ hget H m = some cs := by
  by_cases e : n = m
  · subst e; rw [hget_hdel_same] at h; cases h
  · rw [hget_hdel_ne e] at h; exact ⟨e, h⟩
/-- What a world has to do with the picture. -/
structure HR (μ : Mu) (H : Hp) (w : World) : Prop where
  own : ∀ i cs, hget H i = some cs → ∀ a, μ.pl i = some a → ∃ (c : Array Value) (t : TypeId), w.heap[a.block]? = some (.cells c t (0, 0)) ∧ a.base + a.ext ≤ c.size ∧ cs.length ≤ a.ext ∧ ∀ (j : Nat) (x : AV), cs[j]? = some x → ∃ y, c[a.base + j]? = some y ∧ VR μ x y
  there : ∀ i cs, hget H i = some cs → cs ≠ [] → ∃ a, μ.pl i = some a
  apart : ∀ i j cs ds, i ≠ j → hget H i = some cs → hget H j = some ds → ∀ a b, μ.pl i = some a → μ.pl j = some b → a.block ≠ b.block
  rd : ∀ l b cs, μ.rd l b = some cs → ∃ (c : Array Value) (t : TypeId) (r : Nat × Nat), w.heap[b]? = some (.cells c t r) ∧ c.toList = cs
  far : ∀ i cs a, hget H i = some cs → μ.pl i = some a → ∀ l, μ.rd l a.block = none
/-- From w to w' only blocks of those that 'm' lets may have turned; new ones may have come. -/
structure Kept (m : Nat → Prop) (w w' : World) : Prop where
  os : w'.os = w.os
  tape : w'.tape = w.tape
  output : w'.output = w.output
  size : w.heap.size ≤ w'.heap.size
  block : ∀ k, k < w.heap.size → ¬ m k → w'.heap[k]? = w.heap[k]?
theorem Kept.refl (m : Nat → Prop) (w : World) : Kept m w w := ⟨rfl, rfl, rfl, Nat.le_refl _, fun _ _ _ => rfl⟩
theorem Kept.trans {m : Nat → Prop} {a b c : World} (h : Kept m a b) (k : Kept m b c) : Kept m a c :=
  ⟨k.os.trans h.os, k.tape.trans h.tape, k.output.trans h.output, Nat.le_trans h.size k.size, fun i hi hm => (k.block i (by have := h.size; omega) hm).trans (h.block i hi hm)⟩
theorem Kept.mono {m n : Nat → Prop} {a b : World} (h : Kept m a b) (hm : ∀ k, k < a.heap.size → m k → n k) : Kept n a b := ⟨h.os, h.tape, h.output, h.size, fun k hk hn => h.block k hk (fun g => hn (hm k hk g))⟩
theorem Kept.drew (m : Nat → Prop) (w : World) : Kept m w w.drew := ⟨rfl, rfl, rfl, Nat.le_refl _, fun _ _ _ => rfl⟩
theorem Kept.alloc (m : Nat → Prop) (w : World) (o : Obj) : Kept m w (w.alloc o) := ⟨rfl, rfl, rfl, by simp, fun k hk _ => Below.heap_alloc _ _ _ hk⟩
theorem Kept.trans' {m n : Nat → Prop} {a b c : World} (h : Kept m a b) (k : Kept n b c) (hn : ∀ i, i < a.heap.size → n i → m i) : Kept m a c :=
  ⟨k.os.trans h.os, k.tape.trans h.tape, k.output.trans h.output, Nat.le_trans h.size k.size, fun i hi hm => (k.block i (by have := h.size; omega) (fun g => hm (hn i hi g))).trans (h.block i hi hm)⟩
theorem lt_of_heap {w : World} {k : Nat} {o : Obj} (h : w.heap[k]? = some o) : k < w.heap.size := by
  rcases Nat.lt_or_ge k w.heap.size with g | g
  · exact g
  · rw [Array.getElem?_eq_none g] at h; cases h
theorem cell_of {w : World} {b o : Nat} {c : Array Value} {t : TypeId} {r : Nat × Nat} {y : Value} (h : w.heap[b]? = some (.cells c t r)) (hy : c[o]? = some y) : w.cell? ⟨b, o, none⟩ = some y := by
  simp [World.cell?, h, hy]
end Go.BH
