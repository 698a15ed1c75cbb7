/- The author's own words; nothing here is trusted. -/
import Derived.WalkKit
import Derived.Test.YtponfomfcmlfmaaB0
import Derived.OrdersHeld
import Derived.Below
import Derived.Laws.Append
import Derived.Laws.AppendOwn
import Derived.ArgAppend
import Derived.Laws.IdiomCopy
import Derived.Laws.Slices
import Derived.Laws.MakeOwn
import Derived.Laws.Cover3
import Derived.Laws.BytesString
/- A picture of a call's memory by value: what is frozen is data, what may be written is a named block. (The author's own words; nothing here is trusted.) -/
set_option linter.unusedVariables false
set_option linter.unusedSimpArgs false
namespace Go.BH
open Go.RowKit
/-- Where a named block lies, from which cell on, and how many cells are its own. -/
structure Pl where
  block : Nat
  base : Nat
  ext : Nat
/-- A block's name: (s, 0) a block of its own; (s, k + 1) the block that cell k of block s owns. -/
abbrev Nm := Nat × Nat
instance : Coe Nat Nm := ⟨fun i => (i, 0)⟩
def nbeq (a b : Nm) : Bool := Nat.beq a.1 b.1 && Nat.beq a.2 b.2
theorem nbeq_eq {a b : Nm} (h : nbeq a b = true) : a = b := by
  simp only [nbeq, Bool.and_eq_true] at h
  exact Prod.ext (Nat.eq_of_beq_eq_true h.1) (Nat.eq_of_beq_eq_true h.2)
theorem nm_ne {i j : Nat} (h : i ≠ j) : ((i, 0) : Nm) ≠ (j, 0) := fun e => h (congrArg Prod.fst e)
theorem nm_of {i : Nm} {n : Nat} (h : i.1 ≠ n) : i ≠ ((n, 0) : Nm) := fun e => h (congrArg Prod.fst e)
theorem nbeq_st (i j : Nat) : nbeq (j, 0) (i, 0) = Nat.beq j i := by simp [nbeq]
@[simp] theorem nbeq_refl (a : Nm) : nbeq a a = true := by simp [nbeq]
/-- Where the named blocks lie; what the frozen blocks hold (for good; for this call alone). -/
structure Mu where
  pl : Nm → Option Pl
  fz : Nat → Option (List Value)
  ln : Nat → Option (List Value)
def Mu.rd (μ : Mu) : Bool → Nat → Option (List Value)
  | true => μ.ln
  | false => μ.fz
structure Sub (μ ν : Mu) : Prop where
  pl : ∀ i a, μ.pl i = some a → ν.pl i = some a
  rd : ∀ l b cs, μ.rd l b = some cs → ν.rd l b = some cs
theorem Sub.refl (μ : Mu) : Sub μ μ := ⟨fun _ _ h => h, fun _ _ _ h => h⟩
theorem Sub.trans {a b c : Mu} (h : Sub a b) (k : Sub b c) : Sub a c := ⟨fun i x e => k.pl i x (h.pl i x e), fun l i x e => k.rd l i x (h.rd l i x e)⟩
/-- A plain value. 'any': nothing is known of it. 'e0': an empty slice without room. 'ifs': an interface value that is not nil. 'sl i o n s': n elements of s cells each, from cell o of block i on. 'fz': a slice by value (true: for this call alone). 'pfz': a place in frozen memory, and what lies there. -/
inductive AV where
  | any
  | v (x : Value)
  | ptr (i : Nm) (o : Nat)
  | sl (i : Nm) (o n s : Nat)
  | e0
  | ifs
  | fz (l : Bool) (s n : Nat) (xs : List AV)
  | pfz (l : Bool) (xs : List AV)
  | agg (cs : List AV)
  | tup (cs : List AV)
  | fn (f : Fn) (captured : List AV)
  deriving Inhabited
mutual
inductive VR (μ : Mu) : AV → Value → Prop where
  | any (c : Value) : VR μ .any c
  | v (x : Value) : VR μ (.v x) x
  | ptr {i : Nm} {o : Nat} {a : Pl} (h : μ.pl i = some a) : VR μ (.ptr i o) (.pointer (some ⟨a.block, a.base + o, none⟩))
  | sl {i : Nm} {o n c s : Nat} {a : Pl} (h : μ.pl i = some a) (hc : n ≤ c) (he : o + c * s ≤ a.ext) : VR μ (.sl i o n s) (.slice (some ⟨a.block, a.base + o, none⟩) n c)
  | sl0 {i : Nm} {o s : Nat} (A : Option Addr) : VR μ (.sl i o 0 s) (.slice A 0 0)
  | e0 (A : Option Addr) : VR μ .e0 (.slice A 0 0)
  | ifs (t : TypeId) (x : Value) : VR μ .ifs (.iface t x)
  | fz {l : Bool} {n s c o b : Nat} {cs : List Value} {xs : List AV} (h : μ.rd l b = some cs) (hl : xs.length = n * s) (hc : n ≤ c) (k : VRs μ xs ((cs.drop o).take (n * s))) : VR μ (.fz l s n xs) (.slice (some ⟨b, o, none⟩) n c)
  | fz0 {l : Bool} {s : Nat} (A : Option Addr) (c : Nat) : VR μ (.fz l s 0 []) (.slice A 0 c)
  | pfz {l : Bool} {o b : Nat} {cs : List Value} {xs : List AV} (h : μ.rd l b = some cs) (k : VRs μ xs ((cs.drop o).take xs.length)) : VR μ (.pfz l xs) (.pointer (some ⟨b, o, none⟩))
  | agg {cs : List AV} {l : List Value} (h : VRs μ cs l) : VR μ (.agg cs) (.agg l.toArray)
  | tup {cs : List AV} {l : List Value} (h : VRs μ cs l) : VR μ (.tup cs) (.tuple l.toArray)
  | fn {f : Fn} {y : List AV} {m : List Value} (k : VRs μ y m) : VR μ (.fn f y) (.func f #[] m.toArray)
inductive VRs (μ : Mu) : List AV → List Value → Prop where
  | nil : VRs μ [] []
  | cons {x : AV} {c : Value} {xs : List AV} {cs : List Value} (h : VR μ x c) (k : VRs μ xs cs) : VRs μ (x :: xs) (c :: cs)
end
mutual
theorem VR.mono {μ ν : Mu} (h : Sub μ ν) : ∀ {x : AV} {c : Value}, VR μ x c → VR ν x c
  | _, _, .any c => .any c
  | _, _, .v x => .v x
  | _, _, .ptr k => .ptr (h.pl _ _ k)
  | _, _, .sl k hc he => .sl (h.pl _ _ k) hc he
  | _, _, .sl0 A => .sl0 A
  | _, _, .e0 A => .e0 A
  | _, _, .ifs t x => .ifs t x
  | _, _, .fz k hl hc m => .fz (h.rd _ _ _ k) hl hc (VRs.mono h m)
  | _, _, .fz0 A c => .fz0 A c
  | _, _, .pfz k m => .pfz (h.rd _ _ _ k) (VRs.mono h m)
  | _, _, .agg k => .agg (VRs.mono h k)
  | _, _, .tup k => .tup (VRs.mono h k)
  | _, _, .fn m => .fn (VRs.mono h m)
theorem VRs.mono {μ ν : Mu} (h : Sub μ ν) : ∀ {x : List AV} {c : List Value}, VRs μ x c → VRs ν x c
  | _, _, .nil => .nil
  | _, _, .cons k m => .cons (VR.mono h k) (VRs.mono h m)
end
theorem VRs.length {μ : Mu} : ∀ {x : List AV} {c : List Value}, VRs μ x c → c.length = x.length
  | _, _, .nil => rfl
  | _, _, .cons _ m => by simp [VRs.length m]
theorem VRs.get {μ : Mu} : ∀ {x : List AV} {c : List Value}, VRs μ x c → ∀ (j : Nat) (y : AV), x[j]? = some y → ∃ d, c[j]? = some d ∧ VR μ y d
  | _, _, .nil, j, y, h => by simp at h
  | _, _, .cons k m, 0, y, h => by
    simp at h
    subst h
    exact ⟨_, rfl, k⟩
  | _, _, .cons k m, j + 1, y, h => by
    simp at h
    obtain ⟨d, hd, hv⟩ := VRs.get m j y h
    exact ⟨d, by simpa using hd, hv⟩
theorem VRs.of {μ : Mu} : ∀ {x : List AV} {c : List Value}, c.length = x.length → (∀ (j : Nat) (y : AV), x[j]? = some y → ∃ d, c[j]? = some d ∧ VR μ y d) → VRs μ x c
  | [], [], _, _ => .nil
  | [], _ :: _, h, _ => by simp at h
  | _ :: _, [], h, _ => by simp at h
  | x :: xs, c :: cs, h, k => .cons (by
      obtain ⟨d, hd, hv⟩ := k 0 x rfl
      simp at hd
      subst hd
      exact hv) (VRs.of (by simpa using h) (fun j y hj => by simpa using k (j + 1) y (by simpa using hj)))
theorem VRs.append {μ : Mu} : ∀ {x y : List AV} {c d : List Value}, VRs μ x c → VRs μ y d → VRs μ (x ++ y) (c ++ d)
  | _, _, _, _, .nil, k => k
  | _, _, _, _, .cons h m, k => .cons h (VRs.append m k)
theorem VRs.set {μ : Mu} : ∀ {x : List AV} {c : List Value}, VRs μ x c → ∀ (j : Nat) {y : AV} {d : Value}, VR μ y d → VRs μ (x.set j y) (c.set j d)
  | _, _, .nil, _, _, _, _ => .nil
  | _, _, .cons _ m, 0, _, _, h => .cons h m
  | _, _, .cons k m, j + 1, _, _, h => .cons k (VRs.set m j h)
theorem take_get {α : Type} {l : List α} {k n j : Nat} {x : α} (h : ((l.drop k).take n)[j]? = some x) : l[k + j]? = some x ∧ j < n := by
  have hj : j < n := by
    rcases Nat.lt_or_ge j n with g | g
    · exact g
    · rw [List.getElem?_eq_none (by simp; omega)] at h; cases h
  rw [List.getElem?_take_of_lt hj, List.getElem?_drop] at h
  exact ⟨h, hj⟩
theorem VRs.seg {μ : Mu} {x : List AV} {c : List Value} (h : VRs μ x c) (k n : Nat) : VRs μ ((x.drop k).take n) ((c.drop k).take n) := by
  refine VRs.of (by have := h.length; simp; omega) (fun j y hj => ?_)
  obtain ⟨h1, h2⟩ := take_get hj
  obtain ⟨d, hd, hv⟩ := h.get _ _ h1
  exact ⟨d, by rw [List.getElem?_take_of_lt h2, List.getElem?_drop]; exact hd, hv⟩
theorem VRs.drop {μ : Mu} {x : List AV} {c : List Value} (h : VRs μ x c) (k : Nat) : VRs μ (x.drop k) (c.drop k) := by
  have := h.seg k x.length
  rwa [List.take_of_length_le (by simp), List.take_of_length_le (by have := h.length; simp; omega)] at this
theorem VRs.take {μ : Mu} {x : List AV} {c : List Value} (h : VRs μ x c) (n : Nat) : VRs μ (x.take n) (c.take n) := by
  have := h.seg 0 n
  simpa using this
/-- The blocks that may be written, by name. -/
abbrev Hp := List (Nm × List AV)
def hget : Hp → Nm → Option (List AV)
  | [], _ => none
  | (k, cs) :: r, n => if nbeq k n = true then some cs else hget r n
def hput : Hp → Nm → List AV → Hp
  | [], _, _ => []
  | (k, ds) :: r, n, cs => if nbeq k n = true then (n, cs) :: r else (k, ds) :: hput r n cs
def hdel : Hp → Nm → Hp
  | [], _ => []
  | (k, ds) :: r, n => if nbeq k n = true then hdel r n else (k, ds) :: hdel r n
theorem beq_ne {a b : Nm} (h : a ≠ b) : nbeq a b = false := by
  cases e : nbeq a b with
  | false => rfl
  | true => exact absurd (nbeq_eq e) h
theorem hget_hput_same : ∀ {H : Hp} {n : Nm} {cs : List AV}, hget H n ≠ none → hget (hput H n cs) n = some cs
  | [], n, cs, h => absurd rfl h
  | (k, ds) :: r, n, cs, h => by
    simp only [hput]
    by_cases e : k = n
    · subst e; simp [hget]
    · rw [beq_ne e]
      simp only [Bool.false_eq_true, if_false, hget, beq_ne e]
      simp only [hget, beq_ne e, Bool.false_eq_true, if_false] at h
      exact hget_hput_same h
theorem hget_hput_ne : ∀ {H : Hp} {n m : Nm} {cs : List AV}, n ≠ m → hget (hput H n cs) m = hget H m
  | [], n, m, cs, h => rfl
  | (k, ds) :: r, n, m, cs, h => by
    simp only [hput]
    by_cases e : k = n
    · subst e; simp [hget, beq_ne h]
    · rw [beq_ne e]
      simp only [Bool.false_eq_true, if_false, hget]
      rw [hget_hput_ne h]
theorem hget_hdel_ne : ∀ {H : Hp} {n m : Nm}, n ≠ m → hget (hdel H n) m = hget H m
  | [], n, m, h => rfl
  | (k, ds) :: r, n, m, h => by
    simp only [hdel]
    by_cases e : k = n
    · subst e; simp [hget, beq_ne h, hget_hdel_ne h]
    · rw [beq_ne e]
      simp only [Bool.false_eq_true, if_false, hget]
      rw [hget_hdel_ne h]
theorem hget_hdel_same : ∀ {H : Hp} {n : Nm}, hget (hdel H n) n = none
  | [], n => rfl
  | (k, ds) :: r, n => by
    simp only [hdel]
    by_cases e : k = n
    · subst e; simp [hget_hdel_same]
    · rw [beq_ne e]
      simp only [Bool.false_eq_true, if_false, hget, beq_ne e]
      exact hget_hdel_same
theorem hget_hdel {H : Hp} {n m : Nm} {cs : List AV} (h : hget (hdel H n) m = some cs) : n ≠ m ∧ hget H m = some cs := by
  by_cases e : n = m
  · subst e; rw [hget_hdel_same] at h; cases h
  · rw [hget_hdel_ne e] at h; exact ⟨e, h⟩
/-- What a world has to do with the picture. -/
structure HR (μ : Mu) (H : Hp) (w : World) : Prop where
  own : ∀ i cs, hget H i = some cs → ∀ a, μ.pl i = some a → ∃ (c : Array Value) (t : TypeId), w.heap[a.block]? = some (.cells c t (0, 0)) ∧ a.base + a.ext ≤ c.size ∧ cs.length ≤ a.ext ∧ ∀ (j : Nat) (x : AV), cs[j]? = some x → ∃ y, c[a.base + j]? = some y ∧ VR μ x y
  there : ∀ i cs, hget H i = some cs → cs ≠ [] → ∃ a, μ.pl i = some a
  apart : ∀ i j cs ds, i ≠ j → hget H i = some cs → hget H j = some ds → ∀ a b, μ.pl i = some a → μ.pl j = some b → a.block ≠ b.block
  rd : ∀ l b cs, μ.rd l b = some cs → ∃ (c : Array Value) (t : TypeId) (r : Nat × Nat), w.heap[b]? = some (.cells c t r) ∧ c.toList = cs
  far : ∀ i cs a, hget H i = some cs → μ.pl i = some a → ∀ l, μ.rd l a.block = none
/-- From w to w' only blocks of those that 'm' lets may have turned; new ones may have come. -/
structure Kept (m : Nat → Prop) (w w' : World) : Prop where
  os : w'.os = w.os
  tape : w'.tape = w.tape
  output : w'.output = w.output
  size : w.heap.size ≤ w'.heap.size
  block : ∀ k, k < w.heap.size → ¬ m k → w'.heap[k]? = w.heap[k]?
theorem Kept.refl (m : Nat → Prop) (w : World) : Kept m w w := ⟨rfl, rfl, rfl, Nat.le_refl _, fun _ _ _ => rfl⟩
theorem Kept.trans {m : Nat → Prop} {a b c : World} (h : Kept m a b) (k : Kept m b c) : Kept m a c :=
  ⟨k.os.trans h.os, k.tape.trans h.tape, k.output.trans h.output, Nat.le_trans h.size k.size, fun i hi hm => (k.block i (by have := h.size; omega) hm).trans (h.block i hi hm)⟩
theorem Kept.mono {m n : Nat → Prop} {a b : World} (h : Kept m a b) (hm : ∀ k, k < a.heap.size → m k → n k) : Kept n a b := ⟨h.os, h.tape, h.output, h.size, fun k hk hn => h.block k hk (fun g => hn (hm k hk g))⟩
theorem Kept.drew (m : Nat → Prop) (w : World) : Kept m w w.drew := ⟨rfl, rfl, rfl, Nat.le_refl _, fun _ _ _ => rfl⟩
theorem Kept.alloc (m : Nat → Prop) (w : World) (o : Obj) : Kept m w (w.alloc o) := ⟨rfl, rfl, rfl, by simp, fun k hk _ => Below.heap_alloc _ _ _ hk⟩
theorem Kept.trans' {m n : Nat → Prop} {a b c : World} (h : Kept m a b) (k : Kept n b c) (hn : ∀ i, i < a.heap.size → n i → m i) : Kept m a c :=
  ⟨k.os.trans h.os, k.tape.trans h.tape, k.output.trans h.output, Nat.le_trans h.size k.size, fun i hi hm => (k.block i (by have := h.size; omega) (fun g => hm (hn i hi g))).trans (h.block i hi hm)⟩
theorem lt_of_heap {w : World} {k : Nat} {o : Obj} (h : w.heap[k]? = some o) : k < w.heap.size := by
  rcases Nat.lt_or_ge k w.heap.size with g | g
  · exact g
  · rw [Array.getElem?_eq_none g] at h; cases h
theorem cell_of {w : World} {b o : Nat} {c : Array Value} {t : TypeId} {r : Nat × Nat} {y : Value} (h : w.heap[b]? = some (.cells c t r)) (hy : c[o]? = some y) : w.cell? ⟨b, o, none⟩ = some y := by
  simp [World.cell?, h, hy]
end Go.BH

/- The picture by value, 2: a store, a new block, a block that grows, a block frozen. -/
set_option linter.unusedVariables false
set_option linter.unusedSimpArgs false
namespace Go.BH
open Go.RowKit
section
variable {μ : Mu} {H : Hp} {w : World}
/-- The world has turned in no block that the picture knows. -/
theorem HR.world {w' : World} (h : HR μ H w) (hb : ∀ i cs, hget H i = some cs → ∀ a, μ.pl i = some a → w'.heap[a.block]? = w.heap[a.block]?) (hr : ∀ l b cs, μ.rd l b = some cs → w'.heap[b]? = w.heap[b]?) : HR μ H w' where
  own i cs hi a ha := by
    obtain ⟨c, t, h1, h2⟩ := h.own i cs hi a ha
    exact ⟨c, t, (hb i cs hi a ha).trans h1, h2⟩
  there := h.there
  apart := h.apart
  rd l b cs hl := by
    obtain ⟨c, t, r, h1, h2⟩ := h.rd l b cs hl
    exact ⟨c, t, r, (hr l b cs hl).trans h1, h2⟩
  far := h.far
theorem heap_set_self {w : World} {b o : Nat} {c : Array Value} {t : TypeId} {r : Nat × Nat} (h : w.heap[b]? = some (.cells c t r)) (v : Value) : (w.setCell ⟨b, o, none⟩ v).heap[b]? = some (.cells (c.setIfInBounds o v) t r) := by
  simp only [World.setCell, Array.getElem?_modify, if_true, h]
  rfl
theorem HR.write {i : Nm} {cs : List AV} (h : HR μ H w) (hi : hget H i = some cs) {o : Nat} (ho : o < cs.length) {a : Pl} (ha : μ.pl i = some a) {x : AV} {c : Value} (hx : VR μ x c) :
    HR μ (hput H i (cs.set o x)) (w.setCell ⟨a.block, a.base + o, none⟩ c) := by
  obtain ⟨c0, t0, hroom, hsz, hlen, hat⟩ := h.own i cs hi a ha
  have hne : ∀ k, k ≠ a.block → (w.setCell ⟨a.block, a.base + o, none⟩ c).heap[k]? = w.heap[k]? := fun k hk => Below.heap_setCell _ _ _ _ hk
  have hself := heap_set_self (o := a.base + o) hroom c
  have hsame : hget (hput H i (cs.set o x)) i = some (cs.set o x) := hget_hput_same (by rw [hi]; simp)
  have hal : ∀ j ds, hget (hput H i (cs.set o x)) j = some ds → ∃ es, hget H j = some es := fun j ds hj => by
    by_cases e : i = j
    · subst e; exact ⟨cs, hi⟩
    · rw [hget_hput_ne e] at hj; exact ⟨ds, hj⟩
  refine ⟨fun j ds hj b hjb => ?_, fun j ds hj hds => ?_, fun j k ds es hjk hj hk b d hb hd => ?_, fun l b ds hl => ?_, fun j ds b hj hb l => ?_⟩
  · by_cases e : i = j
    · subst e
      obtain rfl := Option.some.inj (hsame.symm.trans hj)
      obtain rfl := Option.some.inj (ha.symm.trans hjb)
      refine ⟨_, t0, hself, by simpa using hsz, by simpa using hlen, fun m y hm => ?_⟩
      by_cases em : m = o
      · subst em
        rw [List.getElem?_set_self (by simpa using ho)] at hm
        obtain rfl := Option.some.inj hm
        exact ⟨c, by rw [Array.getElem?_setIfInBounds_self_of_lt (by omega)], hx⟩
      · rw [List.getElem?_set_ne (Ne.symm em)] at hm
        obtain ⟨y', hy, hv⟩ := hat m y hm
        exact ⟨y', by rw [Array.getElem?_setIfInBounds_ne (by omega)]; exact hy, hv⟩
    · rw [hget_hput_ne e] at hj
      obtain ⟨c1, t1, h1, h2⟩ := h.own j ds hj b hjb
      exact ⟨c1, t1, (hne _ (h.apart i j cs ds e hi hj a b ha hjb).symm).trans h1, h2⟩
  · by_cases e : i = j
    · subst e; exact ⟨a, ha⟩
    · rw [hget_hput_ne e] at hj; exact h.there j ds hj hds
  · obtain ⟨es1, hj'⟩ := hal j ds hj
    obtain ⟨es2, hk'⟩ := hal k es hk
    exact h.apart j k _ _ hjk hj' hk' b d hb hd
  · obtain ⟨c1, t1, r1, h1, h2⟩ := h.rd l b ds hl
    refine ⟨c1, t1, r1, (hne b (fun e => ?_)).trans h1, h2⟩
    subst e
    rw [h.far i cs a hi ha l] at hl
    cases hl
  · obtain ⟨es, hj'⟩ := hal j ds hj
    exact h.far j es b hj' hb l
theorem hget_snoc {i : Nm} {cs : List AV} : ∀ {H : Hp}, hget H i = none → ∀ j, hget (H ++ [(i, cs)]) j = if j = i then some cs else hget H j
  | [], _, j => by
    by_cases e : j = i
    · subst e; simp [hget]
    · simp [hget, beq_ne (Ne.symm e), e]
  | (k, es) :: r, h, j => by
    simp only [hget] at h
    split at h
    · cases h
    · rename_i e0
      simp only [List.cons_append, hget]
      by_cases e : k = j
      · subst e
        have : k ≠ i := fun g => e0 (by rw [g]; simp)
        simp [this]
      · rw [beq_ne e]
        simp only [Bool.false_eq_true, if_false]
        exact hget_snoc h j
def Mu.put (μ : Mu) (i : Nm) (a : Pl) : Mu := ⟨fun j => if j = i then some a else μ.pl j, μ.fz, μ.ln⟩
theorem Mu.put_same (μ : Mu) (i : Nm) (a : Pl) : (μ.put i a).pl i = some a := if_pos rfl
theorem Mu.put_ne (μ : Mu) {i j : Nm} (a : Pl) (h : j ≠ i) : (μ.put i a).pl j = μ.pl j := if_neg h
theorem Mu.put_rd (μ : Mu) (i : Nm) (a : Pl) (l : Bool) : (μ.put i a).rd l = μ.rd l := by cases l <;> rfl
theorem Mu.put_sub {μ : Mu} {i : Nm} (h : μ.pl i = none) (a : Pl) : Sub μ (μ.put i a) := by
  refine ⟨fun j b hj => ?_, fun l b cs hl => by rw [Mu.put_rd]; exact hl⟩
  rw [Mu.put_ne]
  · exact hj
  · rintro rfl
    rw [h] at hj
    cases hj
/-- A block under a new name. In w' its cells lie there; else nothing that is known has turned. -/
theorem HR.name {w' : World} {i : Nm} {cs : List AV} {a : Pl} {c : Array Value} {t : TypeId} (h : HR μ H w) (hi : μ.pl i = none) (hH : hget H i = none) (hc : w'.heap[a.block]? = some (.cells c t (0, 0))) (h1 : a.base + a.ext ≤ c.size) (h2 : cs.length ≤ a.ext) (h3 : ∀ (j : Nat) (x : AV), cs[j]? = some x → ∃ y, c[a.base + j]? = some y ∧ VR μ x y)
    (hb : ∀ j ds, hget H j = some ds → ∀ b, μ.pl j = some b → b.block ≠ a.block ∧ w'.heap[b.block]? = w.heap[b.block]?) (hr : ∀ l b ds, μ.rd l b = some ds → b ≠ a.block ∧ w'.heap[b]? = w.heap[b]?) : HR (μ.put i a) (H ++ [(i, cs)]) w' := by
  have hsub := Mu.put_sub hi a
  refine ⟨fun j ds hj b hjb => ?_, fun j ds hj hds => ?_, fun j k ds es hjk hj hk b d hbb hd => ?_, fun l b ds hl => ?_, fun j ds b hj hbb l => ?_⟩
  · rw [hget_snoc hH] at hj
    by_cases e : j = i
    · subst e
      rw [if_pos rfl] at hj
      obtain rfl := Option.some.inj hj
      rw [Mu.put_same] at hjb
      obtain rfl := Option.some.inj hjb
      exact ⟨c, t, hc, h1, h2, fun m x hm => by
        obtain ⟨y, hy, hv⟩ := h3 m x hm
        exact ⟨y, hy, hv.mono hsub⟩⟩
    · rw [if_neg e] at hj
      rw [Mu.put_ne _ _ e] at hjb
      obtain ⟨c1, t1, g1, g2, g3, g4⟩ := h.own j ds hj b hjb
      exact ⟨c1, t1, (hb j ds hj b hjb).2.trans g1, g2, g3, fun m x hm => by
        obtain ⟨y, hy, hv⟩ := g4 m x hm
        exact ⟨y, hy, hv.mono hsub⟩⟩
  · rw [hget_snoc hH] at hj
    by_cases e : j = i
    · subst e; exact ⟨a, Mu.put_same _ _ _⟩
    · rw [if_neg e] at hj
      obtain ⟨b, hb'⟩ := h.there j ds hj hds
      exact ⟨b, hsub.pl _ _ hb'⟩
  · rw [hget_snoc hH] at hj hk
    by_cases e : j = i
    · subst e
      rw [Mu.put_same] at hbb
      obtain rfl := Option.some.inj hbb
      rw [if_neg (Ne.symm hjk)] at hk
      rw [Mu.put_ne _ _ (Ne.symm hjk)] at hd
      exact (hb k es hk d hd).1.symm
    · rw [if_neg e] at hj
      rw [Mu.put_ne _ _ e] at hbb
      by_cases e' : k = i
      · subst e'
        rw [Mu.put_same] at hd
        obtain rfl := Option.some.inj hd
        exact (hb j ds hj b hbb).1
      · rw [if_neg e'] at hk
        rw [Mu.put_ne _ _ e'] at hd
        exact h.apart j k ds es hjk hj hk b d hbb hd
  · rw [Mu.put_rd] at hl
    obtain ⟨c1, t1, r1, g1, g2⟩ := h.rd l b ds hl
    exact ⟨c1, t1, r1, (hr l b ds hl).2.trans g1, g2⟩
  · rw [Mu.put_rd]
    rw [hget_snoc hH] at hj
    by_cases e : j = i
    · subst e
      rw [Mu.put_same] at hbb
      obtain rfl := Option.some.inj hbb
      cases hl : μ.rd l a.block with
      | none => rfl
      | some ds' => exact absurd rfl (hr l _ ds' hl).1
    · rw [if_neg e] at hj
      rw [Mu.put_ne _ _ e] at hbb
      exact h.far j ds b hj hbb l
theorem alloc_self (w : World) (c : Array Value) (t : TypeId) : (w.alloc (.cells c t)).heap[w.heap.size]? = some (.cells c t (0, 0)) := by
  show (w.heap.push _)[w.heap.size]? = _
  simp
theorem HR.alloc {i : Nm} (h : HR μ H w) (hi : μ.pl i = none) (hH : hget H i = none) {cs : List AV} {l : List Value} (hv : VRs μ cs l) (rest : Array Value) (t : TypeId) :
    HR (μ.put i ⟨w.heap.size, 0, l.length + rest.size⟩) (H ++ [(i, cs)]) (w.alloc (.cells (l.toArray ++ rest) t)) := by
  have hlen := hv.length
  refine h.name hi hH (alloc_self _ _ _) (by simp) (by simp; omega) (fun j x hj => ?_) (fun j ds hj b hb => ?_) (fun l b ds hl => ?_)
  · obtain ⟨d, hd, hvd⟩ := hv.get j x hj
    have hml : j < l.length := by
      rcases Nat.lt_or_ge j l.length with g | g
      · exact g
      · rw [List.getElem?_eq_none g] at hd; cases hd
    exact ⟨d, by rw [Nat.zero_add, Array.getElem?_append_left (by simpa using hml)]; simpa using hd, hvd⟩
  · obtain ⟨c, t, g, _⟩ := h.own j ds hj b hb
    have := lt_of_heap g
    exact ⟨by simp only; omega, Below.heap_alloc _ _ _ this⟩
  · obtain ⟨c, t, r, g, _⟩ := h.rd l b ds hl
    have := lt_of_heap g
    exact ⟨by simp only; omega, Below.heap_alloc _ _ _ this⟩
/-- A block that is not named any more. -/
theorem HR.del (h : HR μ H w) (i : Nm) : HR μ (hdel H i) w where
  own j cs hj := h.own j cs (hget_hdel hj).2
  there j cs hj := h.there j cs (hget_hdel hj).2
  apart j k cs ds hjk hj hk := h.apart j k cs ds hjk (hget_hdel hj).2 (hget_hdel hk).2
  rd := h.rd
  far j cs a hj := h.far j cs a (hget_hdel hj).2
/-- A block frozen for good. -/
def Mu.frz (μ : Mu) (b : Nat) (cs : List Value) : Mu := ⟨μ.pl, fun k => if k = b then some cs else μ.fz k, μ.ln⟩
theorem HR.freeze {i : Nm} {cs : List AV} (h : HR μ H w) (hi : hget H i = some cs) {a : Pl} (ha : μ.pl i = some a) {c : Array Value} {t : TypeId} (hc : w.heap[a.block]? = some (.cells c t (0, 0))) : Sub μ (μ.frz a.block c.toList) ∧ HR (μ.frz a.block c.toList) (hdel H i) w := by
  have hno : ∀ l, μ.rd l a.block = none := h.far i cs a hi ha
  have hsub : Sub μ (μ.frz a.block c.toList) := ⟨fun _ _ k => k, fun l b ds k => by
    cases l with
    | true => exact k
    | false =>
      show (if b = a.block then _ else μ.fz b) = _
      rw [if_neg]
      · exact k
      · rintro rfl; rw [hno false] at k; cases k⟩
  have hrd : ∀ l b ds, (μ.frz a.block c.toList).rd l b = some ds → (l = false ∧ b = a.block ∧ ds = c.toList) ∨ μ.rd l b = some ds := fun l b ds k => by
    cases l with
    | true => exact .inr k
    | false =>
      by_cases e : b = a.block
      · subst e
        have : (if a.block = a.block then some c.toList else μ.fz a.block) = some ds := k
        rw [if_pos rfl] at this
        exact .inl ⟨rfl, rfl, (Option.some.inj this).symm⟩
      · have : (if b = a.block then some c.toList else μ.fz b) = some ds := k
        rw [if_neg e] at this
        exact .inr this
  refine ⟨hsub, ⟨fun j ds hj b hb => ?_, fun j ds hj => h.there j ds (hget_hdel hj).2, fun j k ds es hjk hj hk => h.apart j k ds es hjk (hget_hdel hj).2 (hget_hdel hk).2, fun l b ds hl => ?_, fun j ds b hj hb l => ?_⟩⟩
  · obtain ⟨c1, t1, g1, g2, g3, g4⟩ := h.own j ds (hget_hdel hj).2 b hb
    exact ⟨c1, t1, g1, g2, g3, fun m x hm => by
      obtain ⟨y, hy, hv⟩ := g4 m x hm
      exact ⟨y, hy, hv.mono hsub⟩⟩
  · rcases hrd l b ds hl with ⟨rfl, rfl, rfl⟩ | k
    · exact ⟨c, t, _, hc, rfl⟩
    · exact h.rd l b ds k
  · obtain ⟨hne, hj'⟩ := hget_hdel hj
    cases hl : (μ.frz a.block c.toList).rd l b.block with
    | none => rfl
    | some es =>
      rcases hrd l _ es hl with ⟨_, e, _⟩ | k
      · exact absurd e (h.apart i j cs ds hne hi hj' a b ha hb).symm
      · rw [h.far j ds b hj' hb l] at k; cases k
/-- One cell more of the room that a block has. -/
theorem HR.extend1 {i : Nm} {cs : List AV} (h : HR μ H w) (hi : hget H i = some cs) {a : Pl} (ha : μ.pl i = some a) (ho : cs.length < a.ext) {x : AV} {c : Value} (hx : VR μ x c) :
    HR μ (hput H i (cs ++ [x])) (w.setCell ⟨a.block, a.base + cs.length, none⟩ c) := by
  obtain ⟨c0, t0, hroom, hsz, hlen, hat⟩ := h.own i cs hi a ha
  have hne : ∀ k, k ≠ a.block → (w.setCell ⟨a.block, a.base + cs.length, none⟩ c).heap[k]? = w.heap[k]? := fun k hk => Below.heap_setCell _ _ _ _ hk
  have hself := heap_set_self (o := a.base + cs.length) hroom c
  have hsame : hget (hput H i (cs ++ [x])) i = some (cs ++ [x]) := hget_hput_same (by rw [hi]; simp)
  have hal : ∀ j ds, hget (hput H i (cs ++ [x])) j = some ds → ∃ es, hget H j = some es := fun j ds hj => by
    by_cases e : i = j
    · subst e; exact ⟨cs, hi⟩
    · rw [hget_hput_ne e] at hj; exact ⟨ds, hj⟩
  refine ⟨fun j ds hj b hjb => ?_, fun j ds hj hds => ?_, fun j k ds es hjk hj hk b d hb hd => ?_, fun l b ds hl => ?_, fun j ds b hj hb l => ?_⟩
  · by_cases e : i = j
    · subst e
      obtain rfl := Option.some.inj (hsame.symm.trans hj)
      obtain rfl := Option.some.inj (ha.symm.trans hjb)
      refine ⟨_, t0, hself, by simpa using hsz, by simp; omega, fun m y hm => ?_⟩
      by_cases em : m < cs.length
      · rw [List.getElem?_append_left em] at hm
        obtain ⟨y', hy, hv⟩ := hat m y hm
        exact ⟨y', by rw [Array.getElem?_setIfInBounds_ne (by omega)]; exact hy, hv⟩
      · have em' : m = cs.length := by
          have : m < (cs ++ [x]).length := by
            rcases Nat.lt_or_ge m (cs ++ [x]).length with g | g
            · exact g
            · rw [List.getElem?_eq_none g] at hm; cases hm
          simp at this
          omega
        subst em'
        simp at hm
        subst hm
        exact ⟨c, by rw [Array.getElem?_setIfInBounds_self_of_lt (by omega)], hx⟩
    · rw [hget_hput_ne e] at hj
      obtain ⟨c1, t1, h1, h2⟩ := h.own j ds hj b hjb
      exact ⟨c1, t1, (hne _ (h.apart i j cs ds e hi hj a b ha hjb).symm).trans h1, h2⟩
  · by_cases e : i = j
    · subst e; exact ⟨a, ha⟩
    · rw [hget_hput_ne e] at hj; exact h.there j ds hj hds
  · obtain ⟨es1, hj'⟩ := hal j ds hj
    obtain ⟨es2, hk'⟩ := hal k es hk
    exact h.apart j k _ _ hjk hj' hk' b d hb hd
  · obtain ⟨c1, t1, r1, h1, h2⟩ := h.rd l b ds hl
    refine ⟨c1, t1, r1, (hne b (fun e => ?_)).trans h1, h2⟩
    subst e
    rw [h.far i cs a hi ha l] at hl
    cases hl
  · obtain ⟨es, hj'⟩ := hal j ds hj
    exact h.far j es b hj' hb l
end
end Go.BH

/- The picture by value, 3: what holds all through a call; the rules for its code. -/
set_option linter.unusedVariables false
set_option linter.unusedSimpArgs false
namespace Go.BH
open Go.RowKit
/-- A call's plain state: its temporaries (the first entry for a temporary counts; what is not named is unknown), the blocks that it may write, the next name. -/
structure St where
  T : List (Nat × AV)
  H : Hp
  nx : Nat
def tk : List (Nat × AV) → Nat → AV
  | [], _ => .any
  | (d, v) :: r, t => if Nat.beq d t = true then v else tk r t
/-- Where a call began. -/
structure En where
  μ : Mu
  w : World
  may : Nat → Prop
  n : Nat
  m : Nat
  gk : GK μ.ln
  al : Nm → Prop
/-- What holds all through a call. -/
structure INV (E : En) (μ : Mu) (σ : St) (a : Act) (w : World) : Prop where
  tmps : ∀ t, VR μ (tk σ.T t) (a.tmps.getD t undef)
  size : a.tmps.size = E.n
  defers : a.defers = []
  heap : HR μ σ.H w
  fresh : ∀ i : Nm, σ.nx ≤ i.1 → μ.pl i = none
  low : ∀ i cs, hget σ.H i = some cs → i.1 < σ.nx ∧ (i.1 < E.m → E.al i)
  kept : Kept E.may E.w w
  may : ∀ i cs p, hget σ.H i = some cs → μ.pl i = some p → E.w.heap.size ≤ p.block ∨ E.may p.block
  fzn : ∀ b cs, μ.fz b = some cs → E.μ.fz b = some cs ∨ E.w.heap.size ≤ b ∨ E.may b
  fzo : ∀ b cs, E.μ.fz b = some cs → μ.fz b = some cs
  lno : μ.ln = E.μ.ln ∧ (∀ i : Nm, i.1 < E.m → μ.pl i = E.μ.pl i) ∧ E.m ≤ σ.nx
/-- The code, begun in σ, ends in a way that Q lets. -/
def CT (P : Program) (E : En) (c : Code) (Q : Exit → St → Prop) (σ : St) : Prop :=
  ∀ μ a w, INV E μ σ a w → c.wp P (fun e a' w' => ∃ σ' μ', Q e σ' ∧ INV E μ' σ' a' w') a w
section
variable {P : Program} {E : En} {Q : Exit → St → Prop} {σ : St}
theorem CT.mono {c : Code} {Q' : Exit → St → Prop} (h : CT P E c Q σ) (hq : ∀ e σ, Q e σ → Q' e σ) : CT P E c Q' σ :=
  fun μ a w hi => Code.wp_mono (fun e a w ⟨s, ν, q, i⟩ => ⟨s, ν, hq _ _ q, i⟩) (h μ a w hi)
theorem CT.skip (h : Q .normal σ) : CT P E .skip Q σ := fun μ a w hi => wp_skip ⟨σ, μ, h, hi⟩
theorem CT.exit {id : Nat} (h : Q (.exit id) σ) : CT P E (.exit id) Q σ := fun μ a w hi => wp_exit ⟨σ, μ, h, hi⟩
theorem CT.ret (h : Q .ret σ) : CT P E .ret Q σ := fun μ a w hi => wp_ret ⟨σ, μ, h, hi⟩
/-- What follows a piece of code. -/
def nxt (K : St → Prop) (Q : Exit → St → Prop) : Exit → St → Prop
  | .normal, σ => K σ
  | e, σ => Q e σ
theorem CT.seq {x y : Code} (h : CT P E x (nxt (CT P E y Q) Q) σ) : CT P E (.seq x y) Q σ := fun μ a w hi => by
  refine wp_seq (Code.wp_mono (fun e a w ⟨s, ν, q, i⟩ => ?_) (h μ a w hi))
  cases e with
  | normal => exact q ν a w i
  | _ => exact ⟨s, ν, q, i⟩
def blkQ (id : Nat) (Q : Exit → St → Prop) : Exit → St → Prop
  | .exit j, σ => if j = id then Q .normal σ else Q (.exit j) σ
  | e, σ => Q e σ
theorem CT.block {id : Nat} {c : Code} (h : CT P E c (blkQ id Q) σ) : CT P E (.block id c) Q σ := fun μ a w hi => by
  refine wp_block (Code.wp_mono (fun e a w ⟨s, ν, q, i⟩ => ?_) (h μ a w hi))
  cases e with
  | exit j =>
    simp only [Exit.inBlock]
    simp only [blkQ] at q
    split
    · rw [if_pos ‹_›] at q; exact ⟨s, ν, q, i⟩
    · rw [if_neg ‹_›] at q; exact ⟨s, ν, q, i⟩
  | _ => exact ⟨s, ν, q, i⟩
/-- A loop: J n holds at each round's head, for some n that goes down. -/
theorem CT.loop {c : Code} (J : Nat → St → Prop) (h : ∀ n σ, J n σ → CT P E c (nxt (fun σ' => ∃ m, m < n ∧ J m σ') Q) σ) {n : Nat} (h0 : J n σ) : CT P E (.loop c) Q σ := fun μ a w hi => by
  intro b k cs
  have key : ∀ (n : Nat) (σ : St) μ a w, J n σ → INV E μ σ a w →
      ∃ e a' w', (∃ σ' μ', Q e σ' ∧ INV E μ' σ' a' w') ∧ Arrives P (lone (b.at a (.code c :: .inLoop c :: k)) cs w) b k cs e a' w' := by
    intro n
    induction n using Nat.strongRecOn with
    | _ n ih =>
      intro σ μ a w hJ hi
      obtain ⟨e, a₁, w₁, ⟨s, ν, q, i⟩, harr⟩ := h n σ hJ μ a w hi b (.inLoop c :: k) cs
      cases e with
      | normal =>
        obtain ⟨m, hlt, hJ'⟩ := q
        obtain ⟨e₂, a₂, w₂, hq₂, harr₂⟩ := ih m hlt s ν a₁ w₁ hJ' i
        exact ⟨e₂, a₂, w₂, hq₂, .of_steps (Steps.trans harr (.one step_inLoop)) harr₂⟩
      | exit id => exact ⟨_, a₁, w₁, ⟨s, ν, q, i⟩, .pass (x := .inLoop c) rfl (fun _ _ => .inl (by simp)) harr⟩
      | goto l => exact ⟨_, a₁, w₁, ⟨s, ν, q, i⟩, .pass (x := .inLoop c) rfl (fun _ _ => .inl (by simp)) harr⟩
      | ret => exact ⟨_, a₁, w₁, ⟨s, ν, q, i⟩, .pass (x := .inLoop c) rfl (fun _ _ => .inl (by simp)) harr⟩
      | panic ch => exact ⟨_, a₁, w₁, ⟨s, ν, q, i⟩, .pass (x := .inLoop c) rfl (fun _ _ => .inl (by simp)) harr⟩
      | outgrown => exact ⟨_, a₁, w₁, ⟨s, ν, q, i⟩, .pass (x := .inLoop c) rfl (fun _ _ => .inl (by simp)) harr⟩
  obtain ⟨e, a', w', hq, harr⟩ := key n σ μ a w h0 hi
  exact ⟨e, a', w', hq, .of_steps (.one step_loop) harr⟩
/-- A place's plain value. -/
def St.ev (σ : St) : Operand → AV
  | .tmp t => tk σ.T t
  | .const v => .v v
  | .global _ => .any
  | .func f => .fn (.func f) []
theorem INV.ev {μ : Mu} {a : Act} {w : World} (h : INV E μ σ a w) (x : Operand) : VR μ (σ.ev x) (a.eval x) := by
  cases x with
  | tmp t => exact h.tmps t
  | const v => exact .v v
  | global g => exact .any _
  | func f => exact .fn (m := []) .nil
theorem VR.bool {μ : Mu} {b : Bool} {c : Value} (h : VR μ (.v (.bool b)) c) : c = .bool b := by cases h; rfl
theorem VR.val {μ : Mu} {v c : Value} (h : VR μ (.v v) c) : c = v := by cases h; rfl
theorem CT.cond {o : Operand} {x y : Code} {b : Bool} (hb : σ.ev o = .v (.bool b)) (ht : b = true → CT P E x Q σ) (hf : b = false → CT P E y Q σ) : CT P E (.cond o x y) Q σ := fun μ a w hi => by
  have hv := hi.ev o
  rw [hb] at hv
  exact wp_cond_split hv.bool (fun t => ht t μ a w hi) (fun t => hf t μ a w hi)
end
/-! ### states that say less, under other names -/
mutual
def AV.ren (f : Nm → Nm) : AV → AV
  | .any => .any
  | .v x => .v x
  | .ptr i o => .ptr (f i) o
  | .sl i o n s => .sl (f i) o n s
  | .e0 => .e0
  | .ifs => .ifs
  | .fz l s n xs => .fz l s n (AV.rens f xs)
  | .pfz l xs => .pfz l (AV.rens f xs)
  | .agg cs => .agg (AV.rens f cs)
  | .tup cs => .tup (AV.rens f cs)
  | .fn g cs => .fn g (AV.rens f cs)
def AV.rens (f : Nm → Nm) : List AV → List AV
  | [] => []
  | x :: xs => AV.ren f x :: AV.rens f xs
end
theorem rens_map (f : Nm → Nm) (l : List AV) : AV.rens f l = l.map (AV.ren f) := by
  induction l with
  | nil => rfl
  | cons x xs ih => simp [AV.rens, ih]
theorem rens_length (f : Nm → Nm) (l : List AV) : (AV.rens f l).length = l.length := by rw [rens_map, List.length_map]
mutual
theorem VR.unren {f : Nm → Nm} {μ ν : Mu} (h : ∀ i a, μ.pl (f i) = some a → ν.pl i = some a) (hr : ∀ l b cs, μ.rd l b = some cs → ν.rd l b = some cs) : ∀ {x : AV} {c : Value}, VR μ (x.ren f) c → VR ν x c
  | .any, _, _ => .any _
  | .v x, _, k => by cases k; exact .v x
  | .ptr n o, _, k => by
    cases k with
    | ptr k => exact .ptr (h _ _ k)
  | .sl n o m s, _, k => by
    simp only [AV.ren] at k
    cases k with
    | sl k hc he => exact .sl (h _ _ k) hc he
    | sl0 a => exact .sl0 a
  | .e0, _, k => by cases k; exact .e0 _
  | .ifs, _, k => by cases k; exact .ifs _ _
  | .fz l s n xs, _, k => by
    simp only [AV.ren] at k
    generalize hx : AV.rens f xs = ys at k
    cases k with
    | fz k hl hc m =>
      subst hx
      rw [rens_length] at hl
      exact .fz (hr _ _ _ k) hl hc (VRs.unren h hr m)
    | fz0 A c =>
      cases xs with
      | nil => exact .fz0 A c
      | cons x xs => simp [AV.rens] at hx
  | .pfz l xs, _, k => by
    simp only [AV.ren] at k
    cases k with
    | pfz k m =>
      rw [rens_length] at m
      exact .pfz (hr _ _ _ k) (VRs.unren h hr m)
  | .agg cs, _, k => by
    cases k with
    | agg k => exact .agg (VRs.unren h hr k)
  | .tup cs, _, k => by
    cases k with
    | tup k => exact .tup (VRs.unren h hr k)
  | .fn g y, _, k => by
    cases k with
    | fn m => exact .fn (VRs.unren h hr m)
theorem VRs.unren {f : Nm → Nm} {μ ν : Mu} (h : ∀ i a, μ.pl (f i) = some a → ν.pl i = some a) (hr : ∀ l b cs, μ.rd l b = some cs → ν.rd l b = some cs) : ∀ {x : List AV} {c : List Value}, VRs μ (AV.rens f x) c → VRs ν x c
  | [], _, k => by cases k; exact .nil
  | x :: xs, _, k => by
    cases k with
    | cons k m => exact .cons (VR.unren h hr k) (VRs.unren h hr m)
end
/-- New name i is old name rs i. -/
def Mu.sel (μ : Mu) (rs : Nm → Option Nm) : Mu := ⟨fun i => match rs i with
  | some j => μ.pl j
  | none => none, μ.fz, μ.ln⟩
theorem Mu.sel_rd (μ : Mu) (rs : Nm → Option Nm) (l : Bool) : (μ.sel rs).rd l = μ.rd l := by cases l <;> rfl
/-- σ says what σ' says, new name i being old name rs i. -/
structure Sel (m : Nat) (rs : Nm → Option Nm) (σ σ' : St) : Prop where
  T : ∀ μ : Mu, (∀ i : Nm, σ.nx ≤ i.1 → μ.pl i = none) → ∀ t c, VR μ (tk σ.T t) c → VR (μ.sel rs) (tk σ'.T t) c
  H : ∀ i cs', hget σ'.H i = some cs' → ∃ j cs, rs i = some j ∧ hget σ.H j = some cs ∧ cs'.length = cs.length ∧ ∀ μ : Mu, (∀ i : Nm, σ.nx ≤ i.1 → μ.pl i = none) → ∀ (k : Nat) (x' : AV), cs'[k]? = some x' → ∃ x, cs[k]? = some x ∧ ∀ c, VR μ x c → VR (μ.sel rs) x' c
  inj : ∀ i i' j cs cs', hget σ'.H i = some cs → hget σ'.H i' = some cs' → rs i = some j → rs i' = some j → i = i'
  nx : ∀ i j, rs i = some j → i.1 < σ'.nx
  same : ∀ i : Nm, i.1 < m → rs i = some i
  le : m ≤ σ'.nx
section
variable {P : Program} {E : En} {Q : Exit → St → Prop} {σ : St}
theorem INV.sel {μ : Mu} {a : Act} {w : World} {rs : Nm → Option Nm} {σ' : St} (h : INV E μ σ a w) (k : Sel E.m rs σ σ') : INV E (μ.sel rs) σ' a w := by
  have hpl : ∀ i a, (μ.sel rs).pl i = some a → ∃ j, rs i = some j ∧ μ.pl j = some a := fun i a h => by
    simp only [Mu.sel] at h
    split at h
    · rename_i j e; exact ⟨j, e, h⟩
    · cases h
  have hpl' : ∀ i j, rs i = some j → (μ.sel rs).pl i = μ.pl j := fun i j e => by simp [Mu.sel, e]
  refine ⟨fun t => k.T μ h.fresh t _ (h.tmps t), h.size, h.defers, ⟨fun i cs' hi p hp => ?_, fun i cs' hi hne => ?_, fun i i' cs cs' hne hi hi' p q hp hq => ?_, fun l b cs hl => ?_, fun i cs p hi hp l => ?_⟩, fun i hi => ?_, fun i cs' hi => ?_, h.kept, fun i cs' p hi hp => ?_, h.fzn, h.fzo, h.lno.1, fun i hi => (hpl' i i (k.same i hi)).trans (h.lno.2.1 i hi), k.le⟩
  · obtain ⟨j, cs, e, hj, hlen, hv⟩ := k.H i cs' hi
    rw [hpl' i j e] at hp
    obtain ⟨c, t, g1, g2, g3, g4⟩ := h.heap.own j cs hj p hp
    refine ⟨c, t, g1, g2, by omega, fun m x' hm => ?_⟩
    obtain ⟨x, hx, hvx⟩ := hv μ h.fresh m x' hm
    obtain ⟨y, hy, hvy⟩ := g4 m x hx
    exact ⟨y, hy, hvx _ hvy⟩
  · obtain ⟨j, cs, e, hj, hlen, hv⟩ := k.H i cs' hi
    rw [hpl' i j e]
    refine h.heap.there j cs hj (fun e0 => hne ?_)
    subst e0
    exact List.eq_nil_of_length_eq_zero (by simpa using hlen)
  · obtain ⟨j, ds, e, hj, _⟩ := k.H i cs hi
    obtain ⟨j', ds', e', hj', _⟩ := k.H i' cs' hi'
    rw [hpl' i j e] at hp
    rw [hpl' i' j' e'] at hq
    exact h.heap.apart j j' ds ds' (fun g => hne (k.inj i i' j cs cs' hi hi' e (by rw [g]; exact e'))) hj hj' p q hp hq
  · rw [Mu.sel_rd] at hl
    exact h.heap.rd l b cs hl
  · rw [Mu.sel_rd]
    obtain ⟨j, ds, e, hj, _⟩ := k.H i cs hi
    rw [hpl' i j e] at hp
    exact h.heap.far j ds p hj hp l
  · cases hp : (μ.sel rs).pl i with
    | none => rfl
    | some p =>
      obtain ⟨j, e, _⟩ := hpl i p hp
      have := k.nx i j e
      omega
  · obtain ⟨j, ds, e, hj, _⟩ := k.H i cs' hi
    refine ⟨k.nx i j e, fun hm => ?_⟩
    rw [k.same i hm] at e
    obtain rfl := Option.some.inj e
    exact (h.low _ ds hj).2 hm
  · obtain ⟨j, ds, e, hj, _⟩ := k.H i cs' hi
    rw [hpl' i j e] at hp
    exact h.may j ds p hj hp
/-- Code begun in a state that says less. -/
theorem CT.sel {c : Code} {rs : Nm → Option Nm} {σ' : St} (k : Sel E.m rs σ σ') (h : CT P E c Q σ') : CT P E c Q σ := fun μ a w hi => h _ a w (hi.sel k)
/-- A change of what is known that the world does not see. -/
def Gh (E : En) (σ σ' : St) : Prop := ∀ μ a w, INV E μ σ a w → ∃ μ', INV E μ' σ' a w ∧ Sub μ μ'
theorem Gh.refl (σ : St) : Gh E σ σ := fun μ a w h => ⟨μ, h, .refl μ⟩
theorem Gh.trans {σ σ' σ'' : St} (h : Gh E σ σ') (k : Gh E σ' σ'') : Gh E σ σ'' := fun μ a w hi => by
  obtain ⟨μ1, h1, s1⟩ := h μ a w hi
  obtain ⟨μ2, h2, s2⟩ := k μ1 a w h1
  exact ⟨μ2, h2, s1.trans s2⟩
theorem CT.gh {c : Code} {σ' : St} (k : Gh E σ σ') (h : CT P E c Q σ') : CT P E c Q σ := fun μ a w hi => by
  obtain ⟨μ', hi', _⟩ := k μ a w hi
  exact h μ' a w hi'
end
end Go.BH

/- The picture by value, 4: regions, in order and in a drawn order; what only reckons. -/
set_option linter.unusedVariables false
set_option linter.unusedSimpArgs false
namespace Go.BH
open Go.RowKit
def pk (b : Bool) (x y : AV) : AV :=
  if b = true then x else y
def St.put (σ : St) (d : Option Tmp) (v : AV) : St :=
  match d with
  | some t => ⟨(t, v) :: σ.T, σ.H, σ.nx⟩
  | none => σ
def okD (n : Nat) (d : Option Tmp) : Bool :=
  match d with
  | some t => Nat.blt t n
  | none => true
/-- The blocks that kp names lie as they did, and so do those that are frozen. -/
structure SM (kp : Nat → Bool) (μ : Mu) (w w' : World) : Prop where
  own : ∀ i : Nat, kp i = true → ∀ p, μ.pl (i, 0) = some p → w'.heap[p.block]? = w.heap[p.block]?
  rd : ∀ l b cs, μ.rd l b = some cs → w'.heap[b]? = w.heap[b]?
/-- .. and where they did. -/
structure SMk (kp : Nat → Bool) (μ μ' : Mu) (w w' : World) : Prop where
  sub : Sub μ μ'
  sm : SM kp μ w w'
theorem SM.refl (kp : Nat → Bool) (μ : Mu) (w : World) : SM kp μ w w := ⟨fun _ _ _ _ => rfl, fun _ _ _ _ => rfl⟩
theorem SMk.refl (kp : Nat → Bool) (μ : Mu) (w : World) : SMk kp μ μ w w := ⟨.refl _, .refl _ _ _⟩
theorem SMk.trans {kp : Nat → Bool} {μ μ' : Mu} {w w' w'' : World} (h : SMk kp μ μ' w w') (k : SM kp μ' w' w'') : SM kp μ w w'' :=
  ⟨fun i hi p hp => (k.own i hi p (h.sub.pl _ p hp)).trans (h.sm.own i hi p hp), fun l b cs hl => (k.rd l b cs (h.sub.rd l b cs hl)).trans (h.sm.rd l b cs hl)⟩
theorem wpAnyH_mono {P : Program} {md : Region.Mode} {ops : Array Oper} {Q : Exit → Act → World → Prop} {S S' : World → Prop} (hS : ∀ w, S w → S' w) : ∀ (fuel : Nat) (listed : Array Bool) (a : Act) (w : World), wpAnyH P md ops Q S fuel listed a w → wpAnyH P md ops Q S' fuel listed a w
  | 0, _, _, _, h => h
  | fuel + 1, _, _, _, h => ⟨h.1, fun i hi => wpOp_mono (fun a' w' h' => ⟨hS w' h'.1, wpAnyH_mono hS fuel _ a' w' h'.2⟩) (h.2 i hi)⟩
section
variable {P : Program} {E : En} {σ : St} {μ : Mu} {a : Act} {w : World}
theorem INV.put (h : INV E μ σ a w) {d : Option Tmp} (hd : okD E.n d = true) {v : AV} {c : Value} (hv : VR μ v c) : INV E μ (σ.put d v) (a.put d c) w := by
  cases d with
  | none => exact h
  | some t =>
    have hlt : t < a.tmps.size := by rw [h.size]; exact Nat.le_of_ble_eq_true hd
    have ht : ∀ s, VR μ (tk ((t, v) :: σ.T) s) ((a.tmps.setIfInBounds t c).getD s undef) := fun s => by
      simp only [tk]
      cases e : Nat.beq t s with
      | true =>
        have := Nat.eq_of_beq_eq_true e
        subst this
        simp only [↓reduceIte]
        rw [Array.getD_eq_getD_getElem?, Array.getElem?_setIfInBounds_self_of_lt hlt]
        exact hv
      | false =>
        have hne : t ≠ s := Nat.ne_of_beq_eq_false e
        simp only [Bool.false_eq_true, ↓reduceIte]
        rw [Array.getD_eq_getD_getElem?, Array.getElem?_setIfInBounds_ne hne, ← Array.getD_eq_getD_getElem?]
        exact h.tmps s
    exact { h with tmps := ht, size := by simpa [Act.put] using h.size }
/-- The world has drawn. -/
theorem INV.drew (h : INV E μ σ a w) : INV E μ σ a w.drew := { h with
  heap := h.heap.world (fun _ _ _ _ _ => rfl) (fun _ _ _ _ => rfl)
  kept := h.kept.trans (Kept.drew _ _) }
/-- The operation leaves v, whatever becomes of the blocks that kp does not name, and does nothing else. -/
def OP (P : Program) (E : En) (kp : Nat → Bool) (o : Oper) (σ : St) (v : AV) : Prop :=
  ∀ μ a w, INV E μ σ a w → ∃ c, VR μ v c ∧ ∀ w', SM kp μ w w' → (execOp a.eval o).run P w' = .ok (.value c) w'
/-- The operation runs, leaves the blocks that kp names as they are, and R tells what it leaves. -/
def OX (P : Program) (E : En) (kp : Nat → Bool) (o : Oper) (σ : St) (R : AV → St → Prop) : Prop :=
  ∀ μ a w, INV E μ σ a w → ∀ (K : Act → World → Prop) (Q : Exit → Act → World → Prop),
    (∀ v σ' c μ' w', R v σ' → VR μ' v c → INV E μ' σ' a w' → SMk kp μ μ' w w' → K (a.put o.dst c) w') → o.wp P a w K Q
/-- .. and every block that had a place before, or none, has it still. -/
def OXp (P : Program) (E : En) (kp : Nat → Bool) (o : Oper) (σ : St) (R : AV → St → Prop) : Prop :=
  ∀ μ a w, INV E μ σ a w → ∀ (K : Act → World → Prop) (Q : Exit → Act → World → Prop),
    (∀ v σ' c μ' w', R v σ' → VR μ' v c → INV E μ' σ' a w' → SMk kp μ μ' w w' → (∀ i : Nm, i.1 < σ.nx → μ'.pl i = μ.pl i) → K (a.put o.dst c) w') → o.wp P a w K Q
theorem OXp.ox {P : Program} {E : En} {kp : Nat → Bool} {o : Oper} {σ : St} {R : AV → St → Prop} (h : OXp P E kp o σ R) : OX P E kp o σ R := fun μ a w hi K Q hK => h μ a w hi K Q (fun v σ' c μ' w' h1 h2 h3 h4 _ => hK v σ' c μ' w' h1 h2 h3 h4)
/-- Its value in plain words. -/
def OS (P : Program) (E : En) (kp : Nat → Bool) (o : Oper) (σ : St) (v : AV) (σ' : St) : Prop :=
  ∀ μ a w, INV E μ σ a w → ∃ c w' μ', (execOp a.eval o).run P w = .ok (.value c) w' ∧ VR μ' v c ∧ INV E μ' σ' a w' ∧ SMk kp μ μ' w w'
/-- The same of an operation that has no value. -/
def OS0 (P : Program) (E : En) (kp : Nat → Bool) (o : Oper) (σ : St) (σ' : St) : Prop :=
  ∀ μ a w, INV E μ σ a w → ∃ w' μ', (execOp a.eval o).run P w = .ok .skip w' ∧ INV E μ' σ' a w' ∧ SMk kp μ μ' w w'
variable {kp : Nat → Bool} {ops : Array Oper} {o : Oper} {r : List Oper} {K : St → Prop} {R : AV → St → Prop}
theorem OS.ox {v : AV} {σ' : St} (h : OS P E kp o σ v σ') (k : R v σ') : OX P E kp o σ R := fun μ a w hi K Q hK => by
  obtain ⟨c, w', μ', hr, hv, hi', hs⟩ := h μ a w hi
  simp only [Oper.wp, hr, Oper.upon]
  exact hK v σ' c μ' w' k hv hi' hs
theorem OS0.ox {σ' : St} (h : OS0 P E kp o σ σ') (k : R .any σ') : OX P E kp o σ R := fun μ a w hi K Q hK => by
  obtain ⟨w', μ', hr, hi', hs⟩ := h μ a w hi
  simp only [Oper.wp, hr, Oper.upon]
  exact hK .any σ' _ μ' w' k (.any _) hi' hs
theorem OP.os {v : AV} (h : OP P E kp o σ v) : OS P E kp o σ v σ := fun μ a w hi => by
  obtain ⟨c, hv, hr⟩ := h μ a w hi
  exact ⟨c, w, μ, hr w (.refl _ _ _), hv, hi, .refl _ _ _⟩
theorem OX.mono {R' : AV → St → Prop} (h : OX P E kp o σ R) (hr : ∀ v σ, R v σ → R' v σ) : OX P E kp o σ R' := fun μ a w hi K Q hK => h μ a w hi K Q (fun v σ' c μ' w' k => hK v σ' c μ' w' (hr _ _ k))
/-- As wpList, with what is to hold behind the list said apart. -/
def wpK (P : Program) (ops : Array Oper) (Q : Exit → Act → World → Prop) (K : Act → World → Prop) : List Oper → Act → World → Prop
  | [], a, w => K a w
  | o :: rest, a, w => if Region.wanted o (yielded ops a.tmps) then o.wp P a w (wpK P ops Q K rest) Q ∨ (o.asks P a w ∧ LetsOut Q) else wpK P ops Q K rest (a.put o.dst undef) w
theorem wpK_eq {P : Program} {ops : Array Oper} {Q : Exit → Act → World → Prop} : ∀ (l : List Oper), wpK P ops Q (Q .normal) l = wpList P ops Q l
  | [] => rfl
  | o :: r => by funext a w; simp only [wpK, wpList, wpK_eq r]
theorem wpK_app {P : Program} {ops : Array Oper} {Q : Exit → Act → World → Prop} {K : Act → World → Prop} : ∀ (l m : List Oper), wpK P ops Q K (l ++ m) = wpK P ops Q (wpK P ops Q K m) l
  | [], m => rfl
  | o :: r, m => by funext a w; simp only [List.cons_append, wpK, wpK_app r m]
/-- The operations l of a region (whose operations are ops), begun in σ, all run, and K holds behind them. -/
def OT (P : Program) (E : En) (ops : Array Oper) (l : List Oper) (K : St → Prop) (σ : St) : Prop :=
  ∀ (Q : Exit → Act → World → Prop) (N : Act → World → Prop), (∀ σ' μ' a' w', K σ' → INV E μ' σ' a' w' → N a' w') → ∀ μ a w, INV E μ σ a w → wpK P ops Q N l a w
theorem OT.nil (h : K σ) : OT P E ops [] K σ := fun Q N hq μ a w hi => hq σ μ a w h hi
/-- The guard of an operation, in state σ. -/
def wantsB (ops : Array Oper) (o : Oper) (σ : St) (b : Bool) : Prop :=
  match o.guard with
  | none => b = true
  | some (j, want) => ∃ oj t, ops[j]? = some oj ∧ oj.dst = some t ∧ ((∃ g, tk σ.T t = .v (.bool g) ∧ b = (g == want)) ∨ (tk σ.T t = .tup [] ∧ b = false))
theorem wanted_of {b : Bool} (hi : INV E μ σ a w) (h : wantsB ops o σ b) : Region.wanted o (yielded ops a.tmps) = b := by
  unfold wantsB at h
  cases hg : o.guard with
  | none => rw [hg] at h; simp [Region.wanted, hg, h]
  | some p =>
    obtain ⟨j, want⟩ := p
    rw [hg] at h
    obtain ⟨oj, t, hj, hd, ⟨g, ht, rfl⟩ | ⟨ht, rfl⟩⟩ := h
    · have hv := hi.tmps t
      rw [ht] at hv
      have hb := hv.bool
      have hb' : a.tmps[t]? = some (.bool g) := by
        rw [Array.getD_eq_getD_getElem?] at hb
        cases hx : a.tmps[t]? with
        | none => rw [hx] at hb; simp [undef] at hb
        | some x => rw [hx] at hb; simpa using hb
      simp [Region.wanted, hg, yielded, hj, hd, hb']
    · have hv := hi.tmps t
      rw [ht] at hv
      generalize hc : a.tmps.getD t undef = c at hv
      cases hv with
      | tup hl =>
        cases hl
        rw [Array.getD_eq_getD_getElem?] at hc
        cases hx : a.tmps[t]? with
        | none => simp [Region.wanted, hg, yielded, hj, hd, hx]
        | some x =>
          rw [hx] at hc
          simp only [Option.getD_some] at hc
          subst hc
          simp [Region.wanted, hg, yielded, hj, hd, hx]
theorem OT.step (hw : wantsB ops o σ true) (hd : okD E.n o.dst = true) (h : OX P E kp o σ (fun v σ' => OT P E ops r K (σ'.put o.dst v))) : OT P E ops (o :: r) K σ := fun Q N hq μ a w hi => by
  simp only [wpK, wanted_of hi hw, if_true]
  exact .inl (h μ a w hi _ _ (fun v σ' c μ' w' k hv hi' _ => k Q N hq μ' _ w' (hi'.put hd hv)))
theorem OT.no (hw : wantsB ops o σ false) (hd : okD E.n o.dst = true) (k : OT P E ops r K (σ.put o.dst (.tup []))) : OT P E ops (o :: r) K σ := fun Q N hq μ a w hi => by
  simp only [wpK, wanted_of hi hw, Bool.false_eq_true, if_false]
  exact k Q N hq μ _ w (hi.put hd (.tup .nil))
theorem CT.region {id : Nat} {l : List Oper} {Q : Exit → St → Prop} (h : OT P E l.toArray l (Q .normal) σ) : CT P E (.region id l.toArray false) Q σ :=
  fun μ a w hi => wp_region_lit (by
    have := h (fun e a' w' => ∃ σ' μ', Q e σ' ∧ INV E μ' σ' a' w') (fun a' w' => ∃ σ' μ', Q .normal σ' ∧ INV E μ' σ' a' w') (fun σ' μ' a' w' hk hi' => ⟨σ', μ', hk, hi'⟩) μ a w hi
    rw [← wpK_eq]
    exact this)
theorem OT.app {ops : Array Oper} {K : St → Prop} {l m : List Oper} (h : OT P E ops l (OT P E ops m K) σ) : OT P E ops (l ++ m) K σ := fun Q N hq μ a w hi => by
  rw [wpK_app]
  exact h Q _ (fun σ' μ' a' w' k hi' => k Q N hq μ' a' w' hi') μ a w hi
theorem OT.mono {ops : Array Oper} {K K' : St → Prop} {l : List Oper} (h : OT P E ops l K σ) (hk : ∀ σ, K σ → K' σ) : OT P E ops l K' σ := fun Q N hq => h Q N (fun σ' μ' a' w' k hi' => hq σ' μ' a' w' (hk _ k) hi')
/-! ### a drawn order -/
def Q0 (E : En) (K : St → Prop) : Exit → Act → World → Prop := fun e a w => e = .normal ∧ ∃ σ' μ', K σ' ∧ INV E μ' σ' a w
/-- Whatever order is picked from here on. -/
def OD (P : Program) (E : En) (ops : Array Oper) (kp : Nat → Bool) (K : St → Prop) (fuel : Nat) (listed : Array Bool) (σ : St) : Prop :=
  ∀ μ a w, INV E μ σ a w → wpAnyH P .any ops (Q0 E K) (SM kp μ w) fuel listed a w
theorem OD.done {fuel : Nat} {listed : Array Bool} (hr : Region.ready .any ops listed = []) (h : K σ) : OD P E ops kp K fuel listed σ := fun μ a w hi => wpAnyH_done hr ⟨rfl, σ, μ, h, hi⟩ _
theorem OD.take {fuel : Nat} {listed : Array Bool} (i : Nat) {oi : Oper} {v : AV} (hi : ops[i]? = some oi) (hs : Region.noSelect ops = true) (hf : Region.free .any ops listed i = true) (hr : (Region.ready .any ops listed).contains i = true)
    (hw : wantsB ops oi σ true) (hd : okD E.n oi.dst = true) (h : OP P E kp oi σ v) (k : OD P E ops kp K fuel (listed.setIfInBounds i true) (σ.put oi.dst v)) : OD P E ops kp K (fuel + 1) listed σ := fun μ a w hI => by
  obtain ⟨c, hv, hrun⟩ := h μ a w hI
  exact wpAnyH_take hi hs hf hr (fun c a w h => by cases h.1) (.inl ⟨wanted_of hI hw, hrun⟩) (.refl _ _ _) (k μ _ w (hI.put hd hv))
theorem OD.no {fuel : Nat} {listed : Array Bool} (i : Nat) {oi : Oper} (hi : ops[i]? = some oi) (hs : Region.noSelect ops = true) (hf : Region.free .any ops listed i = true) (hr : (Region.ready .any ops listed).contains i = true)
    (hw : wantsB ops oi σ false) (hd : okD E.n oi.dst = true) (k : OD P E ops kp K fuel (listed.setIfInBounds i true) (σ.put oi.dst (.tup []))) : OD P E ops kp K (fuel + 1) listed σ := fun μ a w hI =>
  wpAnyH_take hi hs hf hr (fun c a w h => by cases h.1) (.inr ⟨wanted_of hI hw, rfl⟩) (.refl _ _ _) (k μ _ w (hI.put hd (.tup .nil)))
theorem OD.next1 {fuel : Nat} {listed : Array Bool} (i : Nat) {oi : Oper} (hr : Region.ready .any ops listed = [i]) (hi : ops[i]? = some oi) (hw : wantsB ops oi σ true) (hd : okD E.n oi.dst = true)
    (h : OX P E kp oi σ (fun v σ' => OD P E ops kp K fuel (listed.setIfInBounds i true) (σ'.put oi.dst v))) : OD P E ops kp K (fuel + 1) listed σ := fun μ a w hI => by
  refine wpAnyH_all hr (by simp) (fun j hj => ?_)
  obtain rfl : j = i := by simpa using hj
  unfold wpOp
  simp only [hi, wanted_of hI hw, if_true]
  refine .inl (h μ a w hI _ _ (fun v σ' c μ' w' k hv hi' hs => ⟨hs.sm, ?_⟩))
  exact wpAnyH_mono (fun w'' hw'' => hs.trans hw'') _ _ _ _ (k μ' _ w' (hi'.put hd hv))
theorem OD.next2 {fuel : Nat} {listed : Array Bool} (i j : Nat) {oi oj : Oper} (hr : Region.ready .any ops listed = [i, j]) (hi : ops[i]? = some oi) (hj : ops[j]? = some oj) (hwi : wantsB ops oi σ true) (hwj : wantsB ops oj σ true) (hdi : okD E.n oi.dst = true) (hdj : okD E.n oj.dst = true)
    (h : OX P E kp oi σ (fun v σ' => OD P E ops kp K fuel (listed.setIfInBounds i true) (σ'.put oi.dst v)))
    (h' : OX P E kp oj σ (fun v σ' => OD P E ops kp K fuel (listed.setIfInBounds j true) (σ'.put oj.dst v))) : OD P E ops kp K (fuel + 1) listed σ := fun μ a w hI => by
  refine wpAnyH_all hr (by simp) (fun k hk => ?_)
  rcases (show k = i ∨ k = j by simpa using hk) with rfl | rfl
  · unfold wpOp
    simp only [hi, wanted_of hI hwi, if_true]
    refine .inl (h μ a w hI _ _ (fun v σ' c μ' w' k hv hi' hs => ⟨hs.sm, ?_⟩))
    exact wpAnyH_mono (fun w'' hw'' => hs.trans hw'') _ _ _ _ (k μ' _ w' (hi'.put hdi hv))
  · unfold wpOp
    simp only [hj, wanted_of hI hwj, if_true]
    refine .inl (h' μ a w hI _ _ (fun v σ' c μ' w' k hv hi' hs => ⟨hs.sm, ?_⟩))
    exact wpAnyH_mono (fun w'' hw'' => hs.trans hw'') _ _ _ _ (k μ' _ w' (hi'.put hdj hv))
theorem OD.widen {kp' : Nat → Bool} {fuel : Nat} {listed : Array Bool} (hk : ∀ i, kp i = true → kp' i = true) (h : OD P E ops kp' K fuel listed σ) : OD P E ops kp K fuel listed σ := fun μ a w hI =>
  wpAnyH_mono (fun w' hw' => ⟨fun i hi p hp => hw'.own i (hk i hi) p hp, hw'.rd⟩) _ _ _ _ (h μ a w hI)
theorem CT.draw {id : Nat} {Q : Exit → St → Prop} (hm : P.follows .mixedOrders = true) (kp : Nat → Bool) (h : OD P E ops kp (Q .normal) ops.size (Array.replicate ops.size false) σ) : CT P E (.region id ops true) Q σ := fun μ a w hi => by
  refine Code.wp_mono (fun e a' w' hq => ?_) (wp_region_held hm (h μ a _ hi.drew))
  obtain ⟨rfl, σ', μ', hk, hi'⟩ := hq
  exact ⟨σ', μ', hk, hi'⟩
/-! ### what only reckons -/
theorem OP.move {x : Operand} (ho : o.op = .move x) : OP P E kp o σ (σ.ev x) := fun μ a w hi =>
  ⟨a.eval x, hi.ev x, fun w' _ => by simp only [execOp, ho]; rfl⟩
theorem OP.assign {x : Operand} (ho : o.op = .assign x) : OP P E kp o σ (σ.ev x) := fun μ a w hi =>
  ⟨a.eval x, hi.ev x, fun w' _ => by simp only [execOp, ho]; rfl⟩
theorem OP.pick {c x y : Operand} {b : Bool} (ho : o.op = .pick c x y) (hc : σ.ev c = .v (.bool b)) : OP P E kp o σ (pk b (σ.ev x) (σ.ev y)) := fun μ a w hi => by
  have hv := hi.ev c
  rw [hc] at hv
  refine ⟨bif b then a.eval x else a.eval y, ?_, fun w' _ => ?_⟩
  · cases b
    · exact hi.ev y
    · exact hi.ev x
  · simp only [execOp, ho, hv.bool, asBool]
    cases b <;> rfl
theorem OP.bin {op : BinOp} {t t' : TypeId} {x y : Operand} {u v r : Value} (ho : o.op = .binOp op t x y t') (hx : σ.ev x = .v u) (hy : σ.ev y = .v v) (h : ∀ w : World, (do eqGuard op t x y u v; binOp op t u v : Sem Value).run P w = .ok r w) : OP P E kp o σ (.v r) := fun μ a w hi => by
  have h1 := hi.ev x
  have h2 := hi.ev y
  rw [hx] at h1
  rw [hy] at h2
  refine ⟨r, .v r, fun w' _ => ?_⟩
  simp only [execOp, ho, h1.val, h2.val]
  have := h w'
  simp only [Sem.run_bind] at this ⊢
  rw [this]
  rfl
theorem OP.un {op : UnOp} {t : TypeId} {x : Operand} {u r : Value} (ho : o.op = .unOp op t x) (hx : σ.ev x = .v u) (h : ∀ w : World, (Op.unary op u).run P w = .ok r w) : OP P E kp o σ (.v r) := fun μ a w hi => by
  have h1 := hi.ev x
  rw [hx] at h1
  refine ⟨r, .v r, fun w' _ => ?_⟩
  simp only [execOp, ho, h1.val, Sem.run_bind, h w']
  rfl
theorem OP.conv {s d : TypeId} {x : Operand} {u r : Value} (ho : o.op = .convert s d x) (hx : σ.ev x = .v u) (h : ∀ w : World, (convert s d u).run P w = .ok r w) : OP P E kp o σ (.v r) := fun μ a w hi => by
  have h1 := hi.ev x
  rw [hx] at h1
  refine ⟨r, .v r, fun w' _ => ?_⟩
  simp only [execOp, ho, h1.val, Sem.run_bind, h w']
  rfl
theorem OP.extract {x : Operand} {n : Nat} {vs : List AV} {v : AV} (ho : o.op = .extract x n) (hx : σ.ev x = .tup vs) (hn : vs[n]? = some v) : OP P E kp o σ v := fun μ a w hi => by
  have h1 := hi.ev x
  rw [hx] at h1
  generalize hc : a.eval x = c at h1
  cases h1 with
  | tup hl =>
    obtain ⟨d, hd, hv⟩ := hl.get n v hn
    refine ⟨d, hv, fun w' _ => ?_⟩
    simp only [execOp, ho, hc, Instr.extract, List.getElem?_toArray, hd]
    rfl
end
end Go.BH

/- The picture by value, 5: what reads and writes it. -/
set_option linter.unusedVariables false
set_option linter.unusedSimpArgs false
namespace Go.BH
open Go.RowKit
/-- One cell's worth. -/
def AV.one : AV → Bool
  | .v x => x.oneCell'
  | .any => false
  | .agg _ => false
  | .tup _ => false
  | _ => true
theorem VR.one {μ : Mu} {x : AV} {c : Value} (h : VR μ x c) (ho : x.one = true) : c.oneCell' = true := by
  cases h <;> simp_all [AV.one, Value.oneCell']
def AV.cells : AV → List AV
  | .agg cs => cs
  | x => [x]
theorem cells_one {c : Value} (h : c.oneCell' = true) : c.cells = #[c] := by
  cases c <;> simp_all [Value.oneCell', Value.cells]
def ones (l : List AV) : Bool := l.all AV.one
theorem ones_iff {l : List AV} : ones l = true ↔ ∀ y ∈ l, y.one = true := by simp [ones]
/-- The cells of a value that is one cell, or an aggregate of such. -/
theorem VR.cells_ {μ : Mu} {x : AV} {c : Value} (h : VR μ x c) (ho : ∀ y ∈ x.cells, y.one = true) : VRs μ x.cells c.cells.toList := by
  cases h with
  | agg k => simpa [AV.cells, Value.cells] using k
  | any => exact absurd (ho _ (List.mem_singleton.2 rfl)) (by simp [AV.one])
  | tup => exact absurd (ho _ (List.mem_singleton.2 rfl)) (by simp [AV.one])
  | v =>
    have := ho _ (List.mem_singleton.2 rfl)
    rw [cells_one (by simpa [AV.one] using this)]
    exact .cons (.v _) .nil
  | ptr k => exact .cons (.ptr k) .nil
  | sl k hc he => exact .cons (.sl k hc he) .nil
  | sl0 a => exact .cons (.sl0 a) .nil
  | e0 a => exact .cons (.e0 a) .nil
  | ifs t x => exact .cons (.ifs t x) .nil
  | fz h1 h2 h3 h4 => exact .cons (.fz h1 h2 h3 h4) .nil
  | fz0 a c => exact .cons (.fz0 a c) .nil
  | pfz h k => exact .cons (.pfz h k) .nil
  | fn m => exact .cons (.fn m) .nil
theorem VRs.ones {μ : Mu} : ∀ {x : List AV} {c : List Value}, VRs μ x c → (∀ y ∈ x, y.one = true) → ∀ d ∈ c, d.oneCell' = true
  | _, _, .nil, _ => fun d hd => by cases hd
  | _, _, .cons k m, ho => fun d hd => by
    rcases List.mem_cons.1 hd with rfl | hd
    · exact k.one (ho _ List.mem_cons_self)
    · exact VRs.ones m (fun y hy => ho y (List.mem_cons_of_mem _ hy)) d hd
def aggD : TypeDesc → Bool
  | .struct _ | .array _ _ => true
  | _ => false
theorem run_isAgg' {P : Program} {t : TypeId} {d : TypeDesc} (h : P.underlying t = some d) (w : World) : (isAgg t).run P w = .ok (aggD d) w := by
  simp only [isAgg, Sem.run_bind, run_underlying h, Result.andThen_ok]
  cases d <;> rfl
theorem run_typeInfo' {P : Program} {t : TypeId} {i : TypeInfo} (h : P.info? t = some i) (w : World) : (typeInfo t).run P w = .ok i w := by
  simp [typeInfo, program, Sem.run, h]
theorem run_sizeOf' {P : Program} {t : TypeId} {i : TypeInfo} (h : P.info? t = some i) (w : World) : (sizeOf t).run P w = .ok i.size w := by
  simp only [sizeOf, Sem.run_bind, run_typeInfo' h, Result.andThen_ok, Sem.run_pure]
theorem addr_add (b o n : Nat) : (⟨b, o, none⟩ : Addr).add n = ⟨b, o + n, none⟩ := by
  unfold Addr.add
  split
  · rename_i h
    rw [h, Nat.add_zero]
  · rfl
theorem ne_of_get {α : Type} {l : List α} {k : Nat} {x : α} (h : l[k]? = some x) : l ≠ [] := fun e => by rw [e] at h; cases h
section
variable {P : Program} {E : En} {σ : St} {o : Oper} {kp : Nat → Bool}
theorem cell_block {w w' : World} {k o : Nat} (h : w'.heap[k]? = w.heap[k]?) : w.cell? ⟨k, o, none⟩ = w'.cell? ⟨k, o, none⟩ := by
  simp [World.cell?, h]
/-- A read. -/
theorem OP.load1 {t : TypeId} {p : Operand} {d : TypeDesc} {i : Nat} {k : Nat} {cs : List AV} {x : AV} (ho : o.op = .load t p) (ht : P.underlying t = some d) (ha : aggD d = false) (hp : σ.ev p = .ptr i k) (hg : hget σ.H i = some cs) (hx : cs[k]? = some x) (hk : kp i = true) : OP P E kp o σ x := fun μ a w hi => by
  have hv := hi.ev p
  rw [hp] at hv
  obtain ⟨b, hb⟩ := hi.heap.there i cs hg (ne_of_get hx)
  obtain ⟨c0, t0, g1, g2, g3, g4⟩ := hi.heap.own i cs hg b hb
  obtain ⟨y, hy, hxy⟩ := g4 k x hx
  refine ⟨y, hxy, fun w' hw' => ?_⟩
  generalize hc : a.eval p = c at hv
  cases hv with
  | ptr hm =>
    rename_i d'
    obtain rfl : b = d' := Option.some.inj (hb.symm.trans hm)
    have hy' : w'.cell? ⟨b.block, b.base + k, none⟩ = some y := (cell_block (hw'.own i hk b hb)).symm.trans (cell_of g1 hy)
    simp only [execOp, ho, hc, Instr.loadAt, Instr.sureAddr, loadVar, Sem.run_bind, Sem.run_pure, Result.andThen_ok, run_isAgg' ht, ha, Bool.false_eq_true, if_false, run_load, hy']
/-- The cells of a block of the world, as a list. -/
theorem seg_cells {w : World} {b k n : Nat} {c : Array Value} {t : TypeId} {r : Nat × Nat} (h : w.heap[b]? = some (.cells c t r)) (hk : k + n ≤ c.size) : ((c.toList.drop k).take n).length = n ∧ ∀ (j : Nat) (v : Value), ((c.toList.drop k).take n)[j]? = some v → w.cell? ⟨b, k + j, none⟩ = some v := by
  refine ⟨by simp; omega, fun j v hj => ?_⟩
  obtain ⟨h1, h2⟩ := take_get hj
  exact cell_of h (by simpa using h1)
theorem rel_cells {μ : Mu} {cs : List AV} {c : Array Value} {b0 : Nat} (h : ∀ (j : Nat) (x : AV), cs[j]? = some x → ∃ y, c[b0 + j]? = some y ∧ VR μ x y) (hs : b0 + cs.length ≤ c.size) : VRs μ cs ((c.toList.drop b0).take cs.length) :=
  VRs.of (by simp; omega) (fun j x hj => by
    obtain ⟨y, hy, hv⟩ := h j x hj
    have : j < cs.length := by
      rcases Nat.lt_or_ge j cs.length with g | g
      · exact g
      · rw [List.getElem?_eq_none g] at hj; cases hj
    exact ⟨y, by rw [List.getElem?_take_of_lt this, List.getElem?_drop]; simpa using hy, hv⟩)
theorem take_drop_take {α : Type} (l : List α) (k n m : Nat) (h : k + n ≤ m) : ((l.take m).drop k).take n = (l.drop k).take n := by
  rw [List.drop_take, List.take_take, Nat.min_eq_left (by omega)]
theorem OP.loadN {t : TypeId} {p : Operand} {d : TypeDesc} {info : TypeInfo} {i : Nat} {k : Nat} {cs : List AV} (ho : o.op = .load t p) (ht : P.underlying t = some d) (ha : aggD d = true) (hs : P.info? t = some info) (hp : σ.ev p = .ptr i k) (hg : hget σ.H i = some cs) (h0 : info.size ≠ 0) (hx : k + info.size ≤ cs.length) (hk : kp i = true) :
    OP P E kp o σ (.agg ((cs.drop k).take info.size)) := fun μ a w hi => by
  have hv := hi.ev p
  rw [hp] at hv
  obtain ⟨b, hb⟩ := hi.heap.there i cs hg (fun e => by rw [e] at hx; simp at hx; omega)
  obtain ⟨c0, t0, g1, g2, g3, g4⟩ := hi.heap.own i cs hg b hb
  have hrel := (rel_cells g4 (by omega)).seg k info.size
  rw [take_drop_take _ _ _ _ hx, List.drop_drop] at hrel
  obtain ⟨hll, hcell⟩ := seg_cells (w := w) (k := b.base + k) (n := info.size) g1 (by omega)
  refine ⟨.agg ((c0.toList.drop (b.base + k)).take info.size).toArray, .agg hrel, fun w' hw' => ?_⟩
  generalize hc : a.eval p = c at hv
  cases hv with
  | ptr hm =>
    rename_i d'
    obtain rfl : b = d' := Option.some.inj (hb.symm.trans hm)
    have hld := run_loadCells_list (P := P) w' ⟨b.block, b.base + k, none⟩ ((c0.toList.drop (b.base + k)).take info.size) (fun j v hj => by rw [addr_add, ← cell_block (hw'.own i hk b hb)]; exact hcell j v hj)
    rw [hll] at hld
    simp only [execOp, ho, hc, Instr.loadAt, Instr.sureAddr, loadVar, Sem.run_bind, Sem.run_pure, Result.andThen_ok, run_isAgg' ht, ha, if_true, run_sizeOf' hs, hld]
/-- A read of frozen memory. -/
theorem OP.loadF1 {t : TypeId} {p : Operand} {d : TypeDesc} {l : Bool} {xs : List AV} {x : AV} (ho : o.op = .load t p) (ht : P.underlying t = some d) (ha : aggD d = false) (hp : σ.ev p = .pfz l xs) (hx : xs[0]? = some x) : OP P E kp o σ x := fun μ a w hi => by
  have hv := hi.ev p
  rw [hp] at hv
  generalize hc : a.eval p = c at hv
  cases hv with
  | @pfz _ off b cs _ hr hk =>
    obtain ⟨c0, t0, r0, g1, g2⟩ := hi.heap.rd _ _ _ hr
    subst g2
    obtain ⟨y, hy, hxy⟩ := hk.get 0 x hx
    obtain ⟨hy1, _⟩ := take_get hy
    refine ⟨y, hxy, fun w' hw' => ?_⟩
    have hy' : w'.cell? ⟨b, off, none⟩ = some y := (cell_block (hw'.rd _ _ _ hr)).symm.trans (cell_of g1 (by simpa using hy1))
    simp only [execOp, ho, hc, Instr.loadAt, Instr.sureAddr, loadVar, Sem.run_bind, Sem.run_pure, Result.andThen_ok, run_isAgg' ht, ha, Bool.false_eq_true, if_false, run_load, hy']
theorem OP.loadFN {t : TypeId} {p : Operand} {d : TypeDesc} {info : TypeInfo} {l : Bool} {xs : List AV} (ho : o.op = .load t p) (ht : P.underlying t = some d) (ha : aggD d = true) (hs : P.info? t = some info) (hp : σ.ev p = .pfz l xs) (h0 : info.size ≠ 0) (hx : info.size ≤ xs.length) :
    OP P E kp o σ (.agg (xs.take info.size)) := fun μ a w hi => by
  have hv := hi.ev p
  rw [hp] at hv
  generalize hc : a.eval p = c at hv
  cases hv with
  | @pfz _ off b cs _ hr hk =>
    obtain ⟨c0, t0, r0, g1, g2⟩ := hi.heap.rd _ _ _ hr
    subst g2
    have hlen := hk.length
    have hrel := hk.take info.size
    rw [List.take_take, Nat.min_eq_left hx] at hrel
    obtain ⟨hll, hcell⟩ := seg_cells (w := w) (k := off) (n := info.size) g1 (by simp at hlen; have := List.length_drop (i := off) (l := c0.toList); simp at this; omega)
    refine ⟨.agg ((c0.toList.drop off).take info.size).toArray, .agg hrel, fun w' hw' => ?_⟩
    have hld := run_loadCells_list (P := P) w' ⟨b, off, none⟩ ((c0.toList.drop off).take info.size) (fun j v hj => by rw [addr_add, ← cell_block (hw'.rd _ _ _ hr)]; exact hcell j v hj)
    rw [hll] at hld
    simp only [execOp, ho, hc, Instr.loadAt, Instr.sureAddr, loadVar, Sem.run_bind, Sem.run_pure, Result.andThen_ok, run_isAgg' ht, ha, if_true, run_sizeOf' hs, hld]
/-- xs from place k on. -/
def upd (cs : List AV) (k : Nat) : List AV → List AV
  | [] => cs
  | x :: xs => upd (cs.set k x) (k + 1) xs
theorem upd_length (xs : List AV) : ∀ (cs : List AV) (k : Nat), (upd cs k xs).length = cs.length := by
  induction xs with
  | nil => intro cs k; rfl
  | cons x xs ih => intro cs k; simp [upd, ih]
theorem hput_put : ∀ (H : Hp) (i : Nm) (cs ds : List AV), hput (hput H i cs) i ds = hput H i ds
  | [], _, _, _ => rfl
  | (k, es) :: r, i, cs, ds => by
    by_cases e : k = i
    · subst e; simp [hput]
    · simp only [hput, beq_ne e, Bool.false_eq_true, if_false]
      rw [hput_put r]
theorem hput_same : ∀ {H : Hp} {i : Nm} {cs : List AV}, hget H i = some cs → hput H i cs = H
  | [], _, _, h => rfl
  | (k, es) :: r, i, cs, h => by
    by_cases e : k = i
    · subst e
      simp only [hget, nbeq_refl, if_true, Option.some.injEq] at h
      subst h
      simp [hput]
    · simp only [hget, beq_ne e, Bool.false_eq_true, if_false] at h
      simp only [hput, beq_ne e, Bool.false_eq_true, if_false]
      rw [hput_same h]
theorem hput_none : ∀ {H : Hp} {i : Nm} {cs : List AV}, hget H i = none → hput H i cs = H
  | [], i, cs, h => rfl
  | (k, es) :: r, i, cs, h => by
    by_cases e : k = i
    · subst e; simp [hget] at h
    · simp only [hget, beq_ne e, Bool.false_eq_true, if_false] at h
      simp only [hput, beq_ne e, Bool.false_eq_true, if_false]
      rw [hput_none h]
theorem hput_alive {H : Hp} {i j : Nm} {cs ds : List AV} (h : hget (hput H i cs) j = some ds) : ∃ es, hget H j = some es := by
  by_cases e : i = j
  · subst e
    cases hg : hget H i with
    | some es => exact ⟨es, rfl⟩
    | none => rw [hput_none hg, hg] at h; cases h
  · rw [hget_hput_ne e] at h; exact ⟨ds, h⟩
theorem INV.write {μ : Mu} {a : Act} {w : World} {i : Nm} {cs : List AV} (h : INV E μ σ a w) (hi : hget σ.H i = some cs) {k : Nat} (hk : k < cs.length) {b : Pl} (hb : μ.pl i = some b) {x : AV} {c : Value} (hx : VR μ x c) :
    INV E μ ⟨σ.T, hput σ.H i (cs.set k x), σ.nx⟩ a (w.setCell ⟨b.block, b.base + k, none⟩ c) := by
  refine ⟨h.tmps, h.size, h.defers, h.heap.write hi hk hb hx, h.fresh, fun j ds hj => ?_, ?_, fun j ds p hj hp => ?_, h.fzn, h.fzo, h.lno⟩
  · obtain ⟨es, hj'⟩ := hput_alive hj
    exact h.low j es hj'
  · refine ⟨h.kept.os, h.kept.tape, h.kept.output, by simpa [World.setCell] using h.kept.size, fun m hm hmm => ?_⟩
    rw [Below.heap_setCell]
    · exact h.kept.block m hm hmm
    · rintro rfl
      rcases h.may i cs b hi hb with g | g
      · simp only at hm; omega
      · exact hmm g
  · obtain ⟨es, hj'⟩ := hput_alive hj
    exact h.may j es p hj' hp
theorem INV.writes {μ : Mu} {a : Act} {i : Nm} {b : Pl} (hb : μ.pl i = some b) : ∀ (xs : List AV) (vs : List Value) (σ : St) (w : World) (cs : List AV) (k j : Nat), INV E μ σ a w → hget σ.H i = some cs → k + j + xs.length ≤ cs.length → VRs μ xs vs → (∀ y ∈ xs, y.one = true) →
    ∃ w', (storeCells ⟨b.block, b.base + k, none⟩ vs j).run P w = .ok () w' ∧ INV E μ ⟨σ.T, hput σ.H i (upd cs (k + j) xs), σ.nx⟩ a w' ∧ ∀ m, m ≠ b.block → w'.heap[m]? = w.heap[m]? := by
  intro xs
  induction xs with
  | nil =>
    intro vs σ w cs k j hi hg hlen hv _
    cases hv
    refine ⟨w, rfl, ?_, fun _ _ => rfl⟩
    rw [show upd cs (k + j) [] = cs from rfl, hput_same hg]
    exact hi
  | cons x xs ih =>
    intro vs σ w cs k j hi hg hlen hv hone
    cases hv with
    | cons hx hxs =>
      rename_i c cs'
      have h1 := hone x List.mem_cons_self
      simp only [List.length_cons] at hlen
      have hkj : k + j < cs.length := by omega
      obtain ⟨c0, t0, g1, g2, g3, g4⟩ := hi.heap.own i cs hg b hb
      have hw := hi.write hg hkj hb hx
      have hg' : hget (hput σ.H i (cs.set (k + j) x)) i = some (cs.set (k + j) x) := hget_hput_same (by rw [hg]; simp)
      obtain ⟨w', hr, hi', hk'⟩ := ih cs' ⟨σ.T, hput σ.H i (cs.set (k + j) x), σ.nx⟩ _ (cs.set (k + j) x) k (j + 1) hw hg' (by simp; omega) hxs (fun y hy => hone y (List.mem_cons_of_mem _ hy))
      refine ⟨w', ?_, ?_, fun m hm => (hk' m hm).trans (Below.heap_setCell _ _ _ _ hm)⟩
      · have hcell : w.cell? ⟨b.block, b.base + k + j, none⟩ = some c0[b.base + k + j] := cell_of g1 (by rw [Array.getElem?_eq_getElem (by omega)])
        have hfro : w.frozen? ⟨b.block, b.base + k + j, none⟩ = false := by simp [World.frozen?, g1]
        have hst : (store ((⟨b.block, b.base + k, none⟩ : Addr).add j) c).run P w = .ok () (w.setCell ⟨b.block, b.base + (k + j), none⟩ c) := by
          rw [addr_add, ← Nat.add_assoc, run_store P w _ c _ (hx.one h1), hcell]
          simp [hfro]
        simp only [storeCells, Sem.run_bind, hst, Result.andThen_ok]
        exact hr
      · simp only [hput_put] at hi'
        exact hi'
/-- A write. -/
theorem OS0.store {t : TypeId} {p x : Operand} {info : TypeInfo} {i : Nat} {k : Nat} {cs : List AV} (ho : o.op = .store t p x) (hs : P.info? t = some info) (h0 : info.size ≠ 0) (hp : σ.ev p = .ptr i k) (hg : hget σ.H i = some cs) (hlen : (σ.ev x).cells.length = info.size) (hk : k + info.size ≤ cs.length) (hone : ∀ y ∈ (σ.ev x).cells, y.one = true) (hkp : ∀ j, kp j = true → (hget σ.H j).isSome = true ∧ j ≠ i) :
    OS0 P E kp o σ ⟨σ.T, hput σ.H i (upd cs k (σ.ev x).cells), σ.nx⟩ := fun μ a w hi => by
  have hv := hi.ev p
  rw [hp] at hv
  have hc := (hi.ev x).cells_ hone
  obtain ⟨b, hb⟩ := hi.heap.there i cs hg (fun e => by rw [e] at hk; simp at hk; omega)
  obtain ⟨w', hr, hi', hrest⟩ := INV.writes (P := P) hb (σ.ev x).cells _ σ w cs k 0 hi hg (by omega) hc hone
  refine ⟨w', μ, ?_, hi', .refl _, fun j hj q hq => hrest _ (fun e => ?_), fun l q qs hq => hrest _ (fun e => ?_)⟩
  · generalize hcp : a.eval p = c at hv
    cases hv with
    | ptr hm =>
      rename_i d'
      obtain rfl : b = d' := Option.some.inj (hb.symm.trans hm)
      have hsz : ¬ (a.eval x).cells.size ≠ info.size := by
        have := hc.length
        simp only [Array.length_toList] at this
        simp [this, hlen]
      simp only [execOp, ho, hcp, Instr.storeAt, Instr.sureAddr, storeVar, Sem.run_bind, Sem.run_pure, Result.andThen_ok, run_sizeOf' hs, if_neg hsz, hr]
  · obtain ⟨h1, h2⟩ := hkp j hj
    obtain ⟨ds, hds⟩ := Option.isSome_iff_exists.1 h1
    exact hi.heap.apart _ _ cs ds (nm_ne (Ne.symm h2)) hg hds b q hb hq e.symm
  · subst e
    rw [hi.heap.far i cs b hg hb l] at hq
    cases hq
end
end Go.BH

/- The picture by value, 6: new blocks, places, parts, literals. -/
set_option linter.unusedVariables false
set_option linter.unusedSimpArgs false
namespace Go.BH
open Go.RowKit
section
variable {P : Program} {E : En} {σ : St} {o : Oper} {kp : Nat → Bool}
theorem no_name {μ : Mu} {a : Act} {w : World} (h : INV E μ σ a w) : hget σ.H σ.nx = none := by
  cases e : hget σ.H σ.nx with
  | none => rfl
  | some cs => exact absurd (h.low _ cs e).1 (Nat.lt_irrefl _)
/-- A new block, under the next name, that the world has had before only as another's room, or not at all. -/
theorem INV.name {μ : Mu} {a : Act} {w w' : World} {cs : List AV} {p : Pl} {c : Array Value} {t : TypeId} (h : INV E μ σ a w) (hc : w'.heap[p.block]? = some (.cells c t (0, 0))) (h1 : p.base + p.ext ≤ c.size) (h2 : cs.length ≤ p.ext) (h3 : ∀ (j : Nat) (x : AV), cs[j]? = some x → ∃ y, c[p.base + j]? = some y ∧ VR μ x y)
    (hb : ∀ j ds, hget σ.H j = some ds → ∀ b, μ.pl j = some b → b.block ≠ p.block ∧ w'.heap[b.block]? = w.heap[b.block]?) (hr : ∀ l b ds, μ.rd l b = some ds → b ≠ p.block ∧ w'.heap[b]? = w.heap[b]?) (hk : Kept E.may w w') (hm : E.w.heap.size ≤ p.block ∨ E.may p.block) :
    INV E (μ.put σ.nx p) ⟨σ.T, σ.H ++ [((σ.nx, 0), cs)], σ.nx + 1⟩ a w' := by
  have hno := h.fresh σ.nx (Nat.le_refl _)
  have hsub := Mu.put_sub hno p
  have hn := no_name h
  refine ⟨fun t => (h.tmps t).mono hsub, h.size, h.defers, h.heap.name hno hn hc h1 h2 h3 hb hr, fun i hi => ?_, fun i ds hi => ?_, h.kept.trans hk, fun i ds b hi hb' => ?_, h.fzn, h.fzo, h.lno.1, fun i hi => ?_, by have := h.lno.2.2; simp only; omega⟩
  · simp only at hi
    rw [Mu.put_ne _ _ (nm_of (show i.1 ≠ σ.nx by omega))]
    exact h.fresh i (by omega)
  · rw [hget_snoc hn] at hi
    by_cases e : i = (σ.nx, 0)
    · subst e; exact ⟨Nat.lt_succ_self _, fun hm => absurd hm (by have := h.lno.2.2; simp only; omega)⟩
    · rw [if_neg e] at hi
      exact ⟨Nat.lt_succ_of_lt (h.low i ds hi).1, (h.low i ds hi).2⟩
  · rw [hget_snoc hn] at hi
    by_cases e : i = (σ.nx, 0)
    · subst e
      rw [Mu.put_same] at hb'
      obtain rfl := Option.some.inj hb'
      exact hm
    · rw [if_neg e] at hi
      rw [Mu.put_ne _ _ e] at hb'
      exact h.may i ds b hi hb'
  · have := h.lno.2.2
    rw [Mu.put_ne _ _ (nm_of (show i.1 ≠ σ.nx by omega))]
    exact h.lno.2.1 i hi
theorem INV.alloc {μ : Mu} {a : Act} {w : World} (h : INV E μ σ a w) {cs : List AV} {l : List Value} (hv : VRs μ cs l) (rest : Array Value) (t : TypeId) :
    INV E (μ.put σ.nx ⟨w.heap.size, 0, l.length + rest.size⟩) ⟨σ.T, σ.H ++ [((σ.nx, 0), cs)], σ.nx + 1⟩ a (w.alloc (.cells (l.toArray ++ rest) t)) := by
  have hlen := hv.length
  refine h.name (alloc_self _ _ _) (by simp) (by simp; omega) (fun j x hj => ?_) (fun j ds hj b hb => ?_) (fun l b ds hl => ?_) (Kept.alloc _ _ _) (.inl h.kept.size)
  · obtain ⟨d, hd, hvd⟩ := hv.get j x hj
    have hml : j < l.length := by
      rcases Nat.lt_or_ge j l.length with g | g
      · exact g
      · rw [List.getElem?_eq_none g] at hd; cases hd
    exact ⟨d, by rw [Nat.zero_add, Array.getElem?_append_left (by simpa using hml)]; simpa using hd, hvd⟩
  · obtain ⟨c, t, g, _⟩ := h.heap.own j ds hj b hb
    have := lt_of_heap g
    exact ⟨by simp only; omega, Below.heap_alloc _ _ _ this⟩
  · obtain ⟨c, t, r, g, _⟩ := h.heap.rd l b ds hl
    have := lt_of_heap g
    exact ⟨by simp only; omega, Below.heap_alloc _ _ _ this⟩
theorem smk_alloc {μ : Mu} {a : Act} {w : World} (h : INV E μ σ a w) (hk : ∀ j, kp j = true → (hget σ.H j).isSome = true) (p : Pl) (ob : Obj) : SMk kp μ (μ.put σ.nx p) w (w.alloc ob) := by
  refine ⟨Mu.put_sub (h.fresh _ (Nat.le_refl _)) p, fun i hi q hq => ?_, fun l b cs hl => ?_⟩
  · obtain ⟨ds, hds⟩ := Option.isSome_iff_exists.1 (hk i hi)
    obtain ⟨c, t, g, _⟩ := h.heap.own i ds hds q hq
    exact Below.heap_alloc _ _ _ (lt_of_heap g)
  · obtain ⟨c, t, r, g, _⟩ := h.heap.rd l b cs hl
    exact Below.heap_alloc _ _ _ (lt_of_heap g)
theorem SMk.drew {μ μ' : Mu} {w w' : World} (h : SMk kp μ μ' w.drew w') : SMk kp μ μ' w w' := ⟨h.sub, ⟨h.sm.own, h.sm.rd⟩⟩
theorem run_zeroValue' {t : TypeId} {i : TypeInfo} {z : Value} (h : P.info? t = some i) (hz : i.zero = some z) (w : World) : (zeroValue t).run P w = .ok z w := by
  simp only [zeroValue, Sem.run_bind, run_typeInfo' h, Result.andThen_ok, hz]
  rfl
def vals (l : List Value) : List AV := l.map .v
theorem VRs.vals {μ : Mu} : ∀ l : List Value, VRs μ (vals l) l
  | [] => .nil
  | x :: xs => .cons (.v x) (VRs.vals xs)
/-- A new variable. -/
theorem OS.alloc {t : TypeId} {info : TypeInfo} {z : Value} (ho : o.op = .alloc t) (hs : P.info? t = some info) (hz : info.zero = some z) (hk : ∀ j, kp j = true → (hget σ.H j).isSome = true) :
    OS P E kp o σ (.ptr σ.nx 0) ⟨σ.T, σ.H ++ [((σ.nx, 0), vals z.cells.toList)], σ.nx + 1⟩ := fun μ a w hi => by
  have := hi.alloc (VRs.vals z.cells.toList) #[] t
  refine ⟨.pointer (some ⟨w.heap.size, 0, none⟩), _, _, ?_, ?_, this, smk_alloc hi hk _ _⟩
  · simp only [execOp, ho, Instr.alloc, Sem.run_bind, run_zeroValue' hs hz, Result.andThen_ok, newVar, newRow, run_newObj_alloc, Sem.run_pure, Array.append_empty]
  · exact .ptr (o := 0) (Mu.put_same _ _ _)
theorem OS.box {t : TypeId} {x : Operand} (ho : o.op = .box t x) (hone : ∀ y ∈ (σ.ev x).cells, y.one = true) (hk : ∀ j, kp j = true → (hget σ.H j).isSome = true) :
    OS P E kp o σ (.ptr σ.nx 0) ⟨σ.T, σ.H ++ [((σ.nx, 0), (σ.ev x).cells)], σ.nx + 1⟩ := fun μ a w hi => by
  have := hi.alloc ((hi.ev x).cells_ hone) #[] t
  refine ⟨.pointer (some ⟨w.heap.size, 0, none⟩), _, _, ?_, ?_, this, smk_alloc hi hk _ _⟩
  · simp only [execOp, ho, Instr.box, Sem.run_bind, Result.andThen_ok, newVar, newRow, run_newObj_alloc, Sem.run_pure, Array.append_empty]
  · exact .ptr (o := 0) (Mu.put_same _ _ _)
theorem OP.fieldAddr {s : TypeId} {x : Operand} {f : Nat} {fs : Array Field} {fd : Field} {info : TypeInfo} {i : Nat} {k : Nat} (ho : o.op = .fieldAddr s x f) (ht : P.underlying s = some (.struct fs)) (hf : fs[f]? = some fd) (hs : P.info? fd.type = some info) (h0 : info.size ≠ 0) (hx : σ.ev x = .ptr i k) :
    OP P E kp o σ (.ptr i (k + fd.offset)) := fun μ a w hi => by
  have hv := hi.ev x
  rw [hx] at hv
  generalize hc : a.eval x = c at hv
  cases hv with
  | ptr hm =>
    rename_i b
    refine ⟨.pointer (some ⟨b.block, b.base + (k + fd.offset), none⟩), .ptr hm, fun w' _ => ?_⟩
    simp only [execOp, ho, hc, Instr.fieldAt, Sem.run_bind, run_underlying ht, Result.andThen_ok, hf, Instr.sureAddr, Sem.run_pure, fieldPlace, run_sizeOf' hs, if_neg h0, addr_add, Nat.add_assoc]
theorem OP.fieldAddrF {s : TypeId} {x : Operand} {f : Nat} {fs : Array Field} {fd : Field} {info : TypeInfo} {l : Bool} {xs : List AV} (ho : o.op = .fieldAddr s x f) (ht : P.underlying s = some (.struct fs)) (hf : fs[f]? = some fd) (hs : P.info? fd.type = some info) (h0 : info.size ≠ 0) (hx : σ.ev x = .pfz l xs) :
    OP P E kp o σ (.pfz l (xs.drop fd.offset)) := fun μ a w hi => by
  have hv := hi.ev x
  rw [hx] at hv
  generalize hc : a.eval x = c at hv
  cases hv with
  | @pfz _ off b cs _ hr hk =>
    refine ⟨.pointer (some ⟨b, off + fd.offset, none⟩), .pfz hr ?_, fun w' _ => ?_⟩
    · have := hk.drop fd.offset
      rw [List.drop_take, List.drop_drop] at this
      rw [List.length_drop]
      exact this
    · simp only [execOp, ho, hc, Instr.fieldAt, Sem.run_bind, run_underlying ht, Result.andThen_ok, hf, Instr.sureAddr, Sem.run_pure, fieldPlace, run_sizeOf' hs, if_neg h0, addr_add]
theorem OP.indexAddr {t e : TypeId} {x ix : Operand} {info : TypeInfo} {i : Nat} {k n s : Nat} {kd : IntKind} {z : Int} (ho : o.op = .indexAddr t x ix) (ht : P.underlying t = some (.slice e)) (hs : P.info? e = some info) (hx : σ.ev x = .sl i k n s) (hz : σ.ev ix = .v (.int kd z)) (h0 : 0 ≤ z) (h1 : z < n) :
    OP P E kp o σ (.ptr i (k + z.toNat * info.size)) := fun μ a w hi => by
  have hv := hi.ev x
  have hw := hi.ev ix
  rw [hx] at hv
  rw [hz] at hw
  generalize hc : a.eval x = c at hv
  cases hv with
  | sl hm hcap he =>
    rename_i cap b
    refine ⟨.pointer (some ⟨b.block, b.base + (k + z.toNat * info.size), none⟩), .ptr hm, fun w' _ => ?_⟩
    simp only [execOp, ho, hc, hw.val, Instr.indexAt, asIntOf, Sem.run_bind, Sem.run_pure, run_underlying ht, Result.andThen_ok, if_pos (And.intro h0 h1), run_sizeOf' hs, addr_add, Nat.add_assoc]
  | sl0 => omega
theorem OP.indexAddrF {t e : TypeId} {x ix : Operand} {info : TypeInfo} {l : Bool} {n : Nat} {xs : List AV} {kd : IntKind} {z : Int} (ho : o.op = .indexAddr t x ix) (ht : P.underlying t = some (.slice e)) (hs : P.info? e = some info) (hx : σ.ev x = .fz l info.size n xs) (hz : σ.ev ix = .v (.int kd z)) (h0 : 0 ≤ z) (h1 : z < n) :
    OP P E kp o σ (.pfz l (xs.drop (z.toNat * info.size))) := fun μ a w hi => by
  have hv := hi.ev x
  have hw := hi.ev ix
  rw [hx] at hv
  rw [hz] at hw
  generalize hc : a.eval x = c at hv
  cases hv with
  | @fz _ _ _ cap off b cs _ hr hl hcap hk =>
    refine ⟨.pointer (some ⟨b, off + z.toNat * info.size, none⟩), .pfz hr ?_, fun w' _ => ?_⟩
    · have := hk.drop (z.toNat * info.size)
      rw [List.drop_take, List.drop_drop] at this
      rw [List.length_drop, hl]
      exact this
    · simp only [execOp, ho, hc, hw.val, Instr.indexAt, asIntOf, Sem.run_bind, Sem.run_pure, run_underlying ht, Result.andThen_ok, if_pos (And.intro h0 h1), run_sizeOf' hs, addr_add]
  | fz0 => omega
/-- A part of an aggregate. -/
theorem OP.field1 {s : TypeId} {x : Operand} {f : Nat} {fs : Array Field} {fd : Field} {d : TypeDesc} {cs : List AV} {v : AV} (ho : o.op = .field s x f) (ht : P.underlying s = some (.struct fs)) (hf : fs[f]? = some fd) (hd : P.underlying fd.type = some d) (ha : aggD d = false) (hx : σ.ev x = .agg cs) (hv : cs[fd.offset]? = some v) :
    OP P E kp o σ v := fun μ a w hi => by
  have h := hi.ev x
  rw [hx] at h
  generalize hc : a.eval x = c at h
  cases h with
  | agg hl =>
    obtain ⟨y, hy, hvy⟩ := hl.get _ _ hv
    refine ⟨y, hvy, fun w' _ => ?_⟩
    simp only [execOp, ho, hc, Instr.field, Sem.run_bind, run_underlying ht, Result.andThen_ok, hf, asAgg, Sem.run_pure, part, run_isAgg' hd, ha, Bool.false_eq_true, if_false, List.getElem?_toArray, hy]
theorem OP.fieldN {s : TypeId} {x : Operand} {f : Nat} {fs : Array Field} {fd : Field} {d : TypeDesc} {info : TypeInfo} {cs : List AV} (ho : o.op = .field s x f) (ht : P.underlying s = some (.struct fs)) (hf : fs[f]? = some fd) (hd : P.underlying fd.type = some d) (ha : aggD d = true) (hs : P.info? fd.type = some info) (hx : σ.ev x = .agg cs) :
    OP P E kp o σ (.agg ((cs.drop fd.offset).take info.size)) := fun μ a w hi => by
  have h := hi.ev x
  rw [hx] at h
  generalize hc : a.eval x = c at h
  cases h with
  | agg hl =>
    rename_i l
    refine ⟨.agg (l.toArray.extract fd.offset (fd.offset + info.size)), ?_, fun w' _ => ?_⟩
    · have := hl.seg fd.offset info.size
      rw [show l.toArray.extract fd.offset (fd.offset + info.size) = ((l.drop fd.offset).take info.size).toArray by simp [List.extract_toArray, List.extract_eq_take_drop]]
      exact .agg this
    · simp only [execOp, ho, hc, Instr.field, Sem.run_bind, run_underlying ht, Result.andThen_ok, hf, asAgg, Sem.run_pure, part, run_isAgg' hd, ha, if_true, run_sizeOf' hs]
theorem OP.lenS {x : Operand} {t e : TypeId} {i : Nm} {k n s : Nat} (ho : o.op = .call ⟨.builtin .len, #[x], #[t]⟩) (ht : P.underlying t = some (.slice e)) (hx : σ.ev x = .sl i k n s) : OP P E kp o σ (.v (goInt n)) := fun μ a w hi => by
  have hv := hi.ev x
  rw [hx] at hv
  refine ⟨goInt n, .v _, fun w' _ => ?_⟩
  generalize hc : a.eval x = c at hv
  cases hv <;> simp [execOp, ho, resolve, invoke, builtin, Builtin.len_, hc, run_underlying ht]
theorem OP.lenF {x : Operand} {t e : TypeId} {l : Bool} {s n : Nat} {xs : List AV} (ho : o.op = .call ⟨.builtin .len, #[x], #[t]⟩) (ht : P.underlying t = some (.slice e)) (hx : σ.ev x = .fz l s n xs) : OP P E kp o σ (.v (goInt n)) := fun μ a w hi => by
  have hv := hi.ev x
  rw [hx] at hv
  refine ⟨goInt n, .v _, fun w' _ => ?_⟩
  generalize hc : a.eval x = c at hv
  cases hv <;> simp [execOp, ho, resolve, invoke, builtin, Builtin.len_, hc, run_underlying ht]
theorem OP.lenV {x : Operand} {t e : TypeId} {b : Option Addr} {n c : Nat} (ho : o.op = .call ⟨.builtin .len, #[x], #[t]⟩) (ht : P.underlying t = some (.slice e)) (hx : σ.ev x = .v (.slice b n c)) : OP P E kp o σ (.v (goInt n)) := fun μ a w hi => by
  have hv := hi.ev x
  rw [hx] at hv
  refine ⟨goInt n, .v _, fun w' _ => ?_⟩
  simp [execOp, ho, resolve, invoke, builtin, Builtin.len_, hv.val, run_underlying ht]
theorem OP.lenE {x : Operand} {t e : TypeId} (ho : o.op = .call ⟨.builtin .len, #[x], #[t]⟩) (ht : P.underlying t = some (.slice e)) (hx : σ.ev x = .e0) : OP P E kp o σ (.v (goInt 0)) := fun μ a w hi => by
  have hv := hi.ev x
  rw [hx] at hv
  refine ⟨goInt 0, .v _, fun w' _ => ?_⟩
  generalize hc : a.eval x = c at hv
  cases hv <;> simp [execOp, ho, resolve, invoke, builtin, Builtin.len_, hc, run_underlying ht]
theorem OP.lenStr {x : Operand} {t : TypeId} {z : ByteArray} (ho : o.op = .call ⟨.builtin .len, #[x], #[t]⟩) (ht : P.underlying t = some .string) (hx : σ.ev x = .v (.string z)) : OP P E kp o σ (.v (goInt z.size)) := fun μ a w hi => by
  have hv := hi.ev x
  rw [hx] at hv
  refine ⟨goInt z.size, .v _, fun w' _ => ?_⟩
  simp [execOp, ho, resolve, invoke, builtin, Builtin.len_, hv.val, run_underlying ht]
theorem OP.max {x y : Operand} {ts : Array TypeId} {k k' : IntKind} {a b : Int} (ho : o.op = .call ⟨.builtin .max, #[x, y], ts⟩) (hx : σ.ev x = .v (.int k a)) (hy : σ.ev y = .v (.int k' b)) : OP P E kp o σ (.v (.int k (if b > a then b else a))) := fun μ c w hi => by
  have h1 := hi.ev x
  have h2 := hi.ev y
  rw [hx] at h1
  rw [hy] at h2
  refine ⟨_, .v _, fun w' _ => ?_⟩
  simp [execOp, ho, resolve, invoke, builtin, Builtin.max_, Builtin.max2, h1.val, h2.val]
theorem OP.min {x y : Operand} {ts : Array TypeId} {k k' : IntKind} {a b : Int} (ho : o.op = .call ⟨.builtin .min, #[x, y], ts⟩) (hx : σ.ev x = .v (.int k a)) (hy : σ.ev y = .v (.int k' b)) : OP P E kp o σ (.v (.int k (if b < a then b else a))) := fun μ c w hi => by
  have h1 := hi.ev x
  have h2 := hi.ev y
  rw [hx] at h1
  rw [hy] at h2
  refine ⟨_, .v _, fun w' _ => ?_⟩
  simp [execOp, ho, resolve, invoke, builtin, Builtin.min_, Builtin.min2, h1.val, h2.val]
/-! ### literals -/
theorem fill_one {μ : Mu} : ∀ (xs : List AV) (vs : List Value) (cs : List AV) (cells : Array Value) (off m : Nat), VRs μ xs vs → VRs μ cs cells.toList → VRs μ (upd cs (off + m) xs) (((vs.zipIdx m).foldl (fun cs (p : Value × Nat) => cs.setIfInBounds (off + p.2) p.1) cells).toList)
  | [], _, cs, cells, off, m, .nil, h => by simpa [upd] using h
  | x :: xs, v :: vs, cs, cells, off, m, .cons hx k, h => by
    simp only [upd, List.zipIdx_cons, List.foldl_cons]
    rw [Nat.add_assoc]
    refine fill_one xs vs _ _ off (m + 1) k ?_
    rw [Array.toList_setIfInBounds]
    exact h.set _ hx
def fillA (place : Nat → Option (Nat × Nat)) (cs : List AV) : List (Nat × AV) → Option (List AV)
  | [] => some cs
  | (i, x) :: r =>
    match place i with
    | none => none
    | some (off, size) => if (Nat.beq x.cells.length size && Nat.ble (off + size) cs.length && ones x.cells) = true then fillA place (upd cs off x.cells) r else none
theorem fill_ok {μ : Mu} {place : Nat → Option (Nat × Nat)} {ρ : Operand → Value} {ev : Operand → AV} (hev : ∀ x, VR μ (ev x) (ρ x)) : ∀ (ps : List (Nat × Operand)) (cs ds : List AV) (cells : Array Value), VRs μ cs cells.toList → fillA place cs (ps.map fun p => (p.1, ev p.2)) = some ds →
    ∃ out, Instr.fill place cells (ps.map fun p => (p.1, ρ p.2)) = some out ∧ VRs μ ds out.toList ∧ ds.length = cs.length
  | [], cs, ds, cells, h, hf => by
    cases hf
    exact ⟨cells, rfl, h, rfl⟩
  | (i, x) :: r, cs, ds, cells, h, hf => by
    simp only [List.map_cons, fillA] at hf
    simp only [List.map_cons, Instr.fill]
    cases hp : place i with
    | none => rw [hp] at hf; cases hf
    | some q =>
      obtain ⟨off, size⟩ := q
      rw [hp] at hf
      simp only at hf ⊢
      cases hb : (Nat.beq (ev x).cells.length size && Nat.ble (off + size) cs.length && ones (ev x).cells) with
      | false => rw [hb] at hf; cases hf
      | true =>
        rw [hb] at hf
        simp only [Bool.and_eq_true] at hb
        obtain ⟨⟨h1, h2⟩, h3⟩ := hb
        have h1 := Nat.eq_of_beq_eq_true h1
        have h2 := Nat.le_of_ble_eq_true h2
        have hv := (hev x).cells_ (ones_iff.1 h3)
        have hl := hv.length
        have hl2 := h.length
        simp only [Array.length_toList] at hl hl2
        have hne : ¬ ((ρ x).cells.size ≠ size || decide (off + (ρ x).cells.size > cells.size)) = true := by
          simp only [Bool.or_eq_true, decide_eq_true_eq, not_or, Decidable.not_not]
          omega
        have hstep := fill_one _ _ cs cells off 0 hv h
        simp only [Nat.add_zero] at hstep
        obtain ⟨out, ho, hr, hlen⟩ := fill_ok hev r _ ds _ hstep hf
        refine ⟨out, ?_, hr, by rw [hlen, upd_length]⟩
        rw [if_neg (by simpa using hne), ← Array.foldl_toList, Array.toList_zipIdx]
        exact ho
theorem OP.build {t : TypeId} {parts : List (Nat × Operand)} {fs : Array Field} {info : TypeInfo} {z : Value} {pl : Array (Nat × Nat)} {ds : List AV} (ho : o.op = .build t parts.toArray) (ht : P.underlying t = some (.struct fs)) (hs : P.info? t = some info) (hz : info.zero = some z) (hpl : ∀ w, (fs.mapM fun f => do pure (f.offset, ← sizeOf f.type) : Sem (Array (Nat × Nat))).run P w = .ok pl w)
    (hf : fillA (pl[·]?) (vals z.cells.toList) (parts.map fun p => (p.1, σ.ev p.2)) = some ds) : OP P E kp o σ (.agg ds) := fun μ a w hi => by
  obtain ⟨out, hout, hr, _⟩ := fill_ok (ρ := a.eval) (fun x => hi.ev x) parts _ ds z.cells (VRs.vals _) hf
  have : VR μ (.agg ds) (.agg out) := by
    have := VR.agg hr
    simpa using this
  refine ⟨.agg out, this, fun w' _ => ?_⟩
  simp only [execOp, ho, Instr.build, Sem.run_bind, run_zeroValue' hs hz, run_underlying ht, Result.andThen_ok, hpl w', List.map_toArray, hout]
  rfl
/-- A slice literal: a new block. -/
theorem OS.buildSlice {t e : TypeId} {n : Nat} {parts : List (Nat × Operand)} {info : TypeInfo} {z : Value} {ds : List AV} (ho : o.op = .buildSlice t n parts.toArray) (ht : P.underlying t = some (.slice e)) (hs : P.info? e = some info) (hz : info.zero = some z) (hn : n * info.size ≤ 16777216) (h0 : n * info.size ≠ 0) (hzl : z.cells.size = info.size)
    (hf : fillA (fun i => some (i * info.size, info.size)) (vals ((List.range (n * info.size)).map (z.cells[· % z.cells.size]!))) (parts.map fun p => (p.1, σ.ev p.2)) = some ds) (hk : ∀ j, kp j = true → (hget σ.H j).isSome = true) :
    OS P E kp o σ (.sl σ.nx 0 n info.size) ⟨σ.T, σ.H ++ [((σ.nx, 0), ds)], σ.nx + 1⟩ := fun μ a w hi => by
  obtain ⟨out, hout, hr, hlen⟩ := fill_ok (ρ := a.eval) (fun x => hi.ev x) parts _ ds ((Array.range (n * info.size)).map (z.cells[· % z.cells.size]!)) (by simpa using VRs.vals (μ := μ) ((List.range (n * info.size)).map (z.cells[· % z.cells.size]!))) hf
  have hal := hi.alloc hr #[] e
  have hsz : out.toList.length = n * info.size := by
    have := hr.length
    rw [hlen] at this
    simpa [vals] using this
  refine ⟨.slice (some ⟨w.heap.size, 0, none⟩) n n, _, _, ?_, ?_, hal, smk_alloc hi hk _ _⟩
  · simp only [execOp, ho, Instr.buildSlice, Sem.run_bind, run_underlying ht, run_sizeOf' hs, Result.andThen_ok, if_neg (show ¬ n * info.size > 2 ^ 24 by omega), if_neg h0, run_zeroValue' hs hz, Sem.run_pure, List.map_toArray, hout, newRow, run_newObj_alloc, Array.append_empty]
  · refine .sl (o := 0) (Mu.put_same _ _ _) (Nat.le_refl _) ?_
    simp [hsz]
/-- The world has got a block that the picture does not name. -/
theorem INV.extra {μ : Mu} {a : Act} {w : World} (hi : INV E μ σ a w) (ob : Obj) : INV E μ σ a (w.alloc ob) := { hi with
  heap := hi.heap.world (fun i cs hg b hb => by
      obtain ⟨c, t, g, _⟩ := hi.heap.own i cs hg b hb
      exact Below.heap_alloc _ _ _ (lt_of_heap g)) (fun l b cs hl => by
      obtain ⟨c, t, r, g, _⟩ := hi.heap.rd l b cs hl
      exact Below.heap_alloc _ _ _ (lt_of_heap g))
  kept := hi.kept.trans (Kept.alloc _ _ _) }
theorem smk_extra {μ : Mu} {a : Act} {w : World} (h : INV E μ σ a w) (hk : ∀ j, kp j = true → (hget σ.H j).isSome = true) (ob : Obj) : SMk kp μ μ w (w.alloc ob) := by
  refine ⟨.refl _, fun i hi q hq => ?_, fun l b cs hl => ?_⟩
  · obtain ⟨ds, hds⟩ := Option.isSome_iff_exists.1 (hk i hi)
    obtain ⟨c, t, g, _⟩ := h.heap.own i ds hds q hq
    exact Below.heap_alloc _ _ _ (lt_of_heap g)
  · obtain ⟨c, t, r, g, _⟩ := h.heap.rd l b cs hl
    exact Below.heap_alloc _ _ _ (lt_of_heap g)
/-- An empty one. -/
theorem OS.buildSlice0 {t e : TypeId} {info : TypeInfo} (ho : o.op = .buildSlice t 0 #[]) (ht : P.underlying t = some (.slice e)) (hs : P.info? e = some info) (hk : ∀ j, kp j = true → (hget σ.H j).isSome = true) :
    OS P E kp o σ .e0 σ := fun μ a w hi => by
  refine ⟨.slice (some ⟨w.heap.size, 0, none⟩) 0 0, w.alloc (.cells #[] e), μ, ?_, .e0 _, hi.extra _, smk_extra hi hk _⟩
  simp [execOp, ho, Instr.buildSlice, run_underlying ht, run_sizeOf' hs, newRow, Instr.fill]
  congr 2
  apply Array.ext <;> simp
end
end Go.BH

/- The picture by value, 7: names changed, blocks frozen, append, cuts. -/
set_option linter.unusedVariables false
set_option linter.unusedSimpArgs false
namespace Go.BH
open Go.RowKit
theorem hdel_snoc {i n : Nm} {cs : List AV} (h : n ≠ i) : ∀ H : Hp, hdel (H ++ [(n, cs)]) i = hdel H i ++ [(n, cs)]
  | [] => by simp [hdel, beq_ne h]
  | (k, es) :: r => by
    simp only [List.cons_append, hdel]
    by_cases e : k = i
    · subst e; simp [hdel_snoc h r]
    · simp [beq_ne e, hdel_snoc h r]
theorem hdel_hput {i : Nm} {cs : List AV} : ∀ H : Hp, hdel (hput H i cs) i = hdel H i
  | [] => rfl
  | (k, es) :: r => by
    by_cases e : k = i
    · subst e; simp [hput, hdel]
    · simp [hput, hdel, beq_ne e, hdel_hput r]
theorem hdel_none : ∀ {H : Hp} {i j : Nm}, hget H j = none → hget (hdel H i) j = none := fun {H i j} h => by
  cases e : hget (hdel H i) j with
  | none => rfl
  | some cs => rw [(hget_hdel e).2] at h; cases h
section
variable {P : Program} {E : En} {σ : St} {o : Oper} {kp : Nat → Bool}
theorem INV.del {μ : Mu} {a : Act} {w : World} (h : INV E μ σ a w) (i : Nm) : INV E μ ⟨σ.T, hdel σ.H i, σ.nx⟩ a w := { h with
  heap := h.heap.del i
  low := fun j cs hj => h.low j cs (hget_hdel hj).2
  may := fun j cs p hj => h.may j cs p (hget_hdel hj).2 }
theorem INV.ghost {μ : Mu} {a : Act} {w : World} (h : INV E μ σ a w) : INV E μ ⟨σ.T, σ.H ++ [((σ.nx, 0), [])], σ.nx + 1⟩ a w := by
  have hn := no_name h
  have hno := h.fresh σ.nx (Nat.le_refl _)
  have hcase : ∀ j ds, hget (σ.H ++ [((σ.nx, 0), [])]) j = some ds → (j = σ.nx ∧ ds = []) ∨ hget σ.H j = some ds := fun j ds hj => by
    rw [hget_snoc hn] at hj
    by_cases e : j = (σ.nx, 0)
    · rw [if_pos e] at hj; exact .inl ⟨e, (Option.some.inj hj).symm⟩
    · rw [if_neg e] at hj; exact .inr hj
  refine ⟨h.tmps, h.size, h.defers, ⟨fun j ds hj b hb => ?_, fun j ds hj hne => ?_, fun j k ds es hjk hj hk b d hb hd => ?_, h.heap.rd, fun j ds b hj hb => ?_⟩, fun j hj => h.fresh j (by simp only at hj; omega), fun j ds hj => ?_, h.kept, fun j ds p hj hp => ?_, h.fzn, h.fzo, h.lno.1, h.lno.2.1, Nat.le_succ_of_le h.lno.2.2⟩
  · rcases hcase j ds hj with ⟨rfl, rfl⟩ | hj
    · rw [hno] at hb; cases hb
    · exact h.heap.own j ds hj b hb
  · rcases hcase j ds hj with ⟨rfl, rfl⟩ | hj
    · exact absurd rfl hne
    · exact h.heap.there j ds hj hne
  · rcases hcase j ds hj with ⟨rfl, rfl⟩ | hj
    · rw [hno] at hb; cases hb
    · rcases hcase k es hk with ⟨rfl, rfl⟩ | hk
      · rw [hno] at hd; cases hd
      · exact h.heap.apart j k ds es hjk hj hk b d hb hd
  · rcases hcase j ds hj with ⟨rfl, rfl⟩ | hj
    · rw [hno] at hb; cases hb
    · exact h.heap.far j ds b hj hb
  · rcases hcase j ds hj with ⟨rfl, rfl⟩ | hj
    · exact ⟨Nat.lt_succ_self _, fun hm => absurd hm (by have := h.lno.2.2; simp only; omega)⟩
    · exact ⟨Nat.lt_succ_of_lt (h.low j ds hj).1, (h.low j ds hj).2⟩
  · rcases hcase j ds hj with ⟨rfl, rfl⟩ | hj
    · rw [hno] at hp; cases hp
    · exact h.may j ds p hj hp
/-- Block i under the next name. -/
theorem INV.rename {μ : Mu} {a : Act} {w : World} (h : INV E μ σ a w) {i : Nm} {cs : List AV} (hi : hget σ.H i = some cs) : ∃ μ', INV E μ' ⟨σ.T, hdel σ.H i ++ [((σ.nx, 0), cs)], σ.nx + 1⟩ a w ∧ Sub μ μ' ∧ μ'.pl σ.nx = μ.pl i := by
  have hd := h.del i
  have hno := h.fresh σ.nx (Nat.le_refl _)
  cases hp : μ.pl i with
  | none =>
    have hcs : cs = [] := by
      cases cs with
      | nil => rfl
      | cons x xs =>
        obtain ⟨a, ha⟩ := h.heap.there i _ hi (by simp)
        rw [hp] at ha; cases ha
    subst hcs
    exact ⟨μ, hd.ghost, .refl μ, hno⟩
  | some p =>
    obtain ⟨c, t, g1, g2, g3, g4⟩ := h.heap.own i cs hi p hp
    refine ⟨μ.put σ.nx p, hd.name g1 g2 g3 g4 (fun j ds hj b hb => ?_) (fun l b ds hl => ?_) (Kept.refl _ _) (h.may i cs p hi hp), Mu.put_sub hno p, Mu.put_same _ _ _⟩
    · obtain ⟨hne, hj'⟩ := hget_hdel hj
      exact ⟨(h.heap.apart i j cs ds hne hi hj' p b hp hb).symm, rfl⟩
    · refine ⟨fun e => ?_, rfl⟩
      subst e
      rw [h.heap.far i cs p hi hp l] at hl
      cases hl
/-- A part of block i under the next name; the old name is gone. -/
theorem INV.window {μ : Mu} {a : Act} {w : World} (h : INV E μ σ a w) {i : Nm} {cs : List AV} (hi : hget σ.H i = some cs) (o n : Nat) (hon : o + n ≤ cs.length) : ∃ μ', INV E μ' ⟨σ.T, hdel σ.H i ++ [((σ.nx, 0), (cs.drop o).take n)], σ.nx + 1⟩ a w ∧ Sub μ μ' ∧ (∀ p, μ.pl i = some p → μ'.pl σ.nx = some ⟨p.block, p.base + o, p.ext - o⟩) := by
  have hd := h.del i
  have hno := h.fresh σ.nx (Nat.le_refl _)
  cases hp : μ.pl i with
  | none =>
    have hcs : cs = [] := by
      cases cs with
      | nil => rfl
      | cons x xs =>
        obtain ⟨a, ha⟩ := h.heap.there i _ hi (by simp)
        rw [hp] at ha; cases ha
    subst hcs
    simp only [List.drop_nil, List.take_nil]
    exact ⟨μ, hd.ghost, .refl μ, fun p hp' => by cases hp'⟩
  | some p =>
    obtain ⟨c, t, g1, g2, g3, g4⟩ := h.heap.own i cs hi p hp
    refine ⟨μ.put σ.nx ⟨p.block, p.base + o, p.ext - o⟩, hd.name g1 (by simp only; omega) (by simp; omega) (fun j x hj => ?_) (fun j ds hj b hb => ?_) (fun l b ds hl => ?_) (Kept.refl _ _) (h.may i cs p hi hp), Mu.put_sub hno _, fun q hq => ?_⟩
    · obtain ⟨h1, h2⟩ := take_get hj
      obtain ⟨y, hy, hv⟩ := g4 _ x h1
      exact ⟨y, by rw [Nat.add_assoc]; exact hy, hv⟩
    · obtain ⟨hne, hj'⟩ := hget_hdel hj
      exact ⟨(h.heap.apart i j cs ds hne hi hj' p b hp hb).symm, rfl⟩
    · refine ⟨fun e => ?_, rfl⟩
      subst e
      rw [h.heap.far i cs p hi hp l] at hl
      cases hl
    · obtain rfl := Option.some.inj hq
      exact Mu.put_same _ _ _
theorem INV.extend1 {μ : Mu} {a : Act} {w : World} {i : Nm} {cs : List AV} (h : INV E μ σ a w) (hi : hget σ.H i = some cs) {b : Pl} (hb : μ.pl i = some b) (ho : cs.length < b.ext) {x : AV} {c : Value} (hx : VR μ x c) :
    INV E μ ⟨σ.T, hput σ.H i (cs ++ [x]), σ.nx⟩ a (w.setCell ⟨b.block, b.base + cs.length, none⟩ c) := by
  refine ⟨h.tmps, h.size, h.defers, h.heap.extend1 hi hb ho hx, h.fresh, fun j ds hj => ?_, ?_, fun j ds p hj hp => ?_, h.fzn, h.fzo, h.lno⟩
  · obtain ⟨es, hj'⟩ := hput_alive hj
    exact h.low j es hj'
  · refine ⟨h.kept.os, h.kept.tape, h.kept.output, by simpa [World.setCell] using h.kept.size, fun m hm hmm => ?_⟩
    rw [Below.heap_setCell]
    · exact h.kept.block m hm hmm
    · rintro rfl
      rcases h.may i cs b hi hb with g | g
      · simp only at hm; omega
      · exact hmm g
  · obtain ⟨es, hj'⟩ := hput_alive hj
    exact h.may j es p hj' hp
theorem INV.extend {μ : Mu} {a : Act} {i : Nm} {b : Pl} (hb : μ.pl i = some b) : ∀ (xs : List AV) (vs : List Value) (σ : St) (w : World) (cs : List AV), INV E μ σ a w → hget σ.H i = some cs → cs.length + xs.length ≤ b.ext → VRs μ xs vs →
    INV E μ ⟨σ.T, hput σ.H i (cs ++ xs), σ.nx⟩ a (w.setCells b.block (b.base + cs.length) vs) ∧ ∀ m, m ≠ b.block → (w.setCells b.block (b.base + cs.length) vs).heap[m]? = w.heap[m]?
  | [], _, σ, w, cs, hi, hg, hlen, .nil => by
    rw [List.append_nil, hput_same hg]
    exact ⟨hi, fun _ _ => rfl⟩
  | x :: xs, v :: vs, σ, w, cs, hi, hg, hlen, .cons hx k => by
    simp only [List.length_cons] at hlen
    have h1 := hi.extend1 hg hb (by omega) hx
    have hg' : hget (hput σ.H i (cs ++ [x])) i = some (cs ++ [x]) := hget_hput_same (by rw [hg]; simp)
    have h2 := INV.extend hb xs vs ⟨σ.T, hput σ.H i (cs ++ [x]), σ.nx⟩ _ (cs ++ [x]) h1 hg' (by simp; omega) k
    simp only [hput_put, List.append_assoc, List.singleton_append, List.length_append, List.length_cons, List.length_nil, Nat.zero_add] at h2
    refine ⟨h2.1, fun m hm => ?_⟩
    rw [show (w.setCells b.block (b.base + cs.length) (v :: vs)) = (w.setCell ⟨b.block, b.base + cs.length, none⟩ v).setCells b.block (b.base + (cs.length + 1)) vs from rfl, h2.2 m hm]
    exact Below.heap_setCell _ _ _ _ hm
/-- What is appended: m elements of s cells each. -/
inductive Src (σ : St) (s : Nat) : AV → Nat → List AV → Prop where
  | sl {i : Nm} {k m : Nat} {cs : List AV} (hg : hget σ.H i = some cs) (h : k + m * s ≤ cs.length) : Src σ s (.sl i k m s) m ((cs.drop k).take (m * s))
  | fz {l : Bool} {m : Nat} {xs : List AV} (h : xs.length = m * s) : Src σ s (.fz l s m xs) m xs
  | nil : Src σ s (.v (.slice none 0 0)) 0 []
  | e0 : Src σ s .e0 0 []
theorem Src.val {μ : Mu} {a : Act} {w : World} (hi : INV E μ σ a w) {s m : Nat} {x : AV} {news : List AV} (h : Src σ s x m news) {c : Value} (hv : VR μ x c) :
    ∃ b n l, c = .slice b m n ∧ l.length = m * s ∧ VRs μ news l ∧ (0 < m * s → ∃ p, b = some p ∧ ∀ (j : Nat) (v : Value), l[j]? = some v → w.cell? (p.add j) = some v) := by
  cases h with
  | @sl i k _ cs hg hk =>
    rcases Nat.eq_zero_or_pos (m * s) with e | e
    · have hnil : (cs.drop k).take (m * s) = [] := by rw [e]; simp
      rw [hnil]
      cases hv
      · exact ⟨_, _, [], rfl, by simp [e], .nil, by omega⟩
      · exact ⟨_, _, [], rfl, by simp, .nil, by omega⟩
    · obtain ⟨b, hb⟩ := hi.heap.there i cs hg (fun h0 => by rw [h0] at hk; simp at hk; omega)
      obtain ⟨c0, t0, g1, g2, g3, g4⟩ := hi.heap.own i cs hg b hb
      have hrel := (rel_cells g4 (by omega)).seg k (m * s)
      rw [take_drop_take _ _ _ _ hk, List.drop_drop] at hrel
      obtain ⟨hll, hcell⟩ := seg_cells (w := w) (k := b.base + k) (n := m * s) g1 (by omega)
      cases hv with
      | sl hm hcap he =>
        rename_i d
        obtain rfl : b = d := Option.some.inj (hb.symm.trans hm)
        exact ⟨_, _, _, rfl, hll, hrel, fun _ => ⟨_, rfl, fun j v hj => by rw [addr_add]; exact hcell j v hj⟩⟩
      | sl0 => omega
  | fz hl =>
    cases hv with
    | @fz _ _ _ cap off b cs _ hr hl' hcap hk =>
      obtain ⟨c0, t0, r0, g1, g2⟩ := hi.heap.rd _ _ _ hr
      subst g2
      have hlen := hk.length
      refine ⟨_, _, _, rfl, by rw [hlen, hl], hk, fun _ => ⟨_, rfl, fun j v hj => ?_⟩⟩
      obtain ⟨h1, h2⟩ := take_get hj
      rw [addr_add]
      exact cell_of g1 (by simpa using h1)
    | fz0 A c => exact ⟨_, _, [], rfl, by simp, .nil, by omega⟩
  | nil => cases hv; exact ⟨_, _, [], rfl, by simp, .nil, by omega⟩
  | e0 => cases hv; exact ⟨_, _, [], rfl, by simp, .nil, by omega⟩
theorem run_append_zero {P : Program} {t ty e : TypeId} {i : TypeInfo} (ht : P.underlying t = some (.slice e)) (hs : P.info? e = some i) (b b' : Option Addr) (n c c' : Nat) (hc : n ≤ c) (w : World) :
    (Builtin.append_ #[t, t] ty #[.slice b n c, .slice b' 0 c']).run P w = .ok (.slice b n c) w := by
  cases b' <;> cases b <;> simp [Builtin.append_, run_underlying ht, run_sizeOf' hs, Builtin.lenOf, Builtin.firstCells, hc, storeCells, loadCells, loadCellsFrom]
theorem run_bi {P : Program} {t : TypeId} {ρ : Operand → Value} {o : Oper} {x y : Operand} (ho : o.op = .call ⟨.builtin .append, #[x, y], #[t, t]⟩) (w : World) :
    (execOp ρ o).run P w = ((do pure (.value (← Builtin.append_ #[t, t] o.type #[ρ x, ρ y])) : Sem Next)).run P w := by
  simp [execOp, ho, resolve, invoke, builtin]
theorem grown_ext {z : Value} {s m c k : Nat} (hz : z.cells.size = s) (hk : k = m * s) (hc : m ≤ c) : 0 + c * s ≤ k + (Builtin.zeroCells z.cells (c - m)).size := by
  rw [size_zeroCells, hz, hk, ← Nat.add_mul]
  have : m + (c - m) = c := by omega
  rw [this]
  omega
theorem INV.drew' {μ : Mu} {a : Act} {w : World} (h : INV E μ σ a w) : INV E μ σ a w.drew := h.drew
/-- An append to nothing: a new block. -/
theorem OS.appendNew {x y : Operand} {t et : TypeId} {info : TypeInfo} {z : Value} {m : Nat} {news : List AV} (ho : o.op = .call ⟨.builtin .append, #[x, y], #[t, t]⟩) (ht : P.underlying t = some (.slice et)) (hs : P.info? et = some info) (hz : info.zero = some z) (hzs : z.cells.size = info.size) (h0 : info.size ≠ 0) (hx : σ.ev x = .v (.slice none 0 0) ∨ σ.ev x = .e0) (hy : Src σ info.size (σ.ev y) m news) (hones : ones news = true) (hm : m < 9223372036854775808) (hbytes : m * info.bytes ≤ 140737488355328) (hk : ∀ j, kp j = true → (hget σ.H j).isSome = true) :
    OS P E kp o σ (.sl σ.nx 0 m info.size) ⟨σ.T, σ.H ++ [((σ.nx, 0), news)], σ.nx + 1⟩ := fun μ a w hi => by
  have hvx := hi.ev x
  have hvy := hi.ev y
  obtain ⟨b, n, l, hc, hl, hr, hp⟩ := hy.val hi hvy
  have hA : ∃ A, a.eval x = .slice A 0 0 := by
    rcases hx with e | e <;> rw [e] at hvx <;> (generalize a.eval x = cx at hvx ⊢; cases hvx) <;> exact ⟨_, rfl⟩
  obtain ⟨A, hcx⟩ := hA
  rcases Nat.eq_zero_or_pos m with rfl | hpos
  · have hl0 : l = [] := by simpa using hl
    subst hl0
    have hnews : news = [] := by cases hr; rfl
    subst hnews
    refine ⟨a.eval x, w, μ, ?_, ?_, hi.ghost, .refl _ _ _⟩
    · rw [run_bi ho, hc, hcx]
      simp [run_append_zero ht hs]
    · rw [hcx]; exact .sl0 _
  · obtain ⟨p, rfl, hcells⟩ := hp (Nat.mul_pos hpos (Nat.pos_of_ne_zero h0))
    have hal := hi.drew.alloc hr (Builtin.zeroCells z.cells (grownCap w m 0 et - m)) et
    refine ⟨.slice (some ⟨w.heap.size, 0, none⟩) m (grownCap w m 0 et), _, _, ?_, .sl (o := 0) (Mu.put_same _ _ _) (grownCap_ge w m 0 et) (grown_ext hzs hl (grownCap_ge w m 0 et)), hal, (smk_alloc hi.drew hk _ _).drew⟩
    rw [run_bi ho, hc, hcx]
    cases A with
    | none =>
      have hrun := run_append_nil (P := P) w t o.type et info z ht hs hz p m n l hl hcells hpos (by omega) (by omega)
      simp only [Sem.run_bind, hrun, Result.andThen_ok, Sem.run_pure]
    | some q =>
      have hrun := run_append_grow (P := P) w t o.type et info z ht hs hz q 0 0 [] (by simp) (by simp) p m n l hl hcells (by omega) (by omega) (growslice_fits (by omega) (by simpa using hbytes))
      simp only [Nat.zero_add] at hrun
      simp only [Sem.run_bind, hrun, Result.andThen_ok, Sem.run_pure]
      simp
/-- An append to a block of the call's own: the result has a new name, the old one is gone. -/
theorem OS.appendTo {x y : Operand} {t et : TypeId} {info : TypeInfo} {z : Value} {i n m : Nat} {cs news : List AV} (ho : o.op = .call ⟨.builtin .append, #[x, y], #[t, t]⟩) (ht : P.underlying t = some (.slice et)) (hs : P.info? et = some info) (hz : info.zero = some z) (hzs : z.cells.size = info.size) (h0 : info.size ≠ 0) (hx : σ.ev x = .sl i 0 n info.size) (hg : hget σ.H i = some cs) (hcs : cs.length = n * info.size) (hy : Src σ info.size (σ.ev y) m news) (hones : ones news = true)
    (hm : n + m < 9223372036854775808) (hbytes : (n + m) * info.bytes ≤ 140737488355328) (hkp : ∀ j, kp j = true → (hget σ.H j).isSome = true ∧ j ≠ i) :
    OS P E kp o σ (.sl σ.nx 0 (n + m) info.size) ⟨σ.T, hdel σ.H i ++ [((σ.nx, 0), cs ++ news)], σ.nx + 1⟩ := fun μ a w hi => by
  have hvx := hi.ev x
  have hvy := hi.ev y
  have hne : ((σ.nx, 0) : Nm) ≠ i := nm_ne (fun e => by have : i < σ.nx := (hi.low i cs hg).1; omega)
  obtain ⟨b, n', l, hc, hl, hr, hp⟩ := hy.val hi hvy
  rw [hx] at hvx
  rcases Nat.eq_zero_or_pos m with rfl | hpos
  · have hl0 : l = [] := by simpa using hl
    subst hl0
    have hnews : news = [] := by cases hr; rfl
    subst hnews
    rw [List.append_nil, Nat.add_zero]
    obtain ⟨μ', h1, h2, h3⟩ := hi.rename hg
    generalize hcx : a.eval x = cx at hvx
    refine ⟨cx, w, μ', ?_, ?_, h1, h2, .refl _ _ _⟩
    · rw [run_bi ho, hc, hcx]
      cases hvx with
      | sl hm' hcap he => simp [run_append_zero ht hs _ _ _ _ _ hcap]
      | sl0 => simp [run_append_zero ht hs]
    · cases hvx with
      | sl hm' hcap he => exact .sl (h3.trans hm') hcap he
      | sl0 A => exact .sl0 A
  · obtain ⟨p, rfl, hcells⟩ := hp (Nat.mul_pos hpos (Nat.pos_of_ne_zero h0))
    generalize hcx : a.eval x = cx at hvx
    cases hvx with
    | @sl _ _ _ cap _ q hm' hcap he =>
      obtain ⟨c0, t0, h2, h3, h4, h5⟩ := hi.heap.own i cs hg q hm'
      by_cases hroom : n + m ≤ cap
      · -- in its room
        have hle : (n + m) * info.size ≤ cap * info.size := Nat.mul_le_mul_right _ hroom
        rw [Nat.add_mul] at hle
        have hlr := hr.length
        have hin : ∀ j, j < l.length → (w.cell? ⟨q.block, q.base + 0 + n * info.size + j, none⟩).isSome = true := fun j hj => by
          simp only [World.cell?, h2, Option.isSome_none, Bool.false_eq_true, if_false]
          have hlt : q.base + 0 + n * info.size + j < c0.size := by omega
          rw [Array.getElem?_eq_getElem hlt]; rfl
        have hrun := run_append_room_cells (P := P) (w := w) t o.type et info ht hs q.block (q.base + 0) n cap p m n' l hl hcells (hr.ones (ones_iff.1 hones)) hroom hin (fun j _ => by simp [World.frozen?, h2])
        have hext := INV.extend hm' news l σ w cs hi hg (by omega) hr
        rw [hcs] at hext
        obtain ⟨μ', g1, g2, g3⟩ := hext.1.rename (i := i) (cs := cs ++ news) (hget_hput_same (by rw [hg]; simp))
        rw [hdel_hput] at g1
        refine ⟨.slice (some ⟨q.block, q.base + 0, none⟩) (n + m) cap, _, μ', ?_, .sl (o := 0) (g3.trans hm') hroom he, g1, g2, fun j hj r hr' => ?_, fun l' r rs hr' => ?_⟩
        · rw [run_bi ho, hc, hcx]
          simp only [Nat.add_zero] at hrun ⊢
          simp only [Sem.run_bind, hrun, Result.andThen_ok, Sem.run_pure]
        · obtain ⟨k1, k2⟩ := hkp j hj
          obtain ⟨ds, hds⟩ := Option.isSome_iff_exists.1 k1
          exact hext.2 _ (fun e => hi.heap.apart i j cs ds (nm_ne (Ne.symm k2)) hg hds q r hm' hr' e.symm)
        · refine hext.2 _ (fun e => ?_)
          subst e
          rw [hi.heap.far i cs q hg hm' l'] at hr'
          cases hr'
      · -- a new block
        have hro := rel_cells h5 (by omega)
        have hrun := run_append_grow (P := P) w t o.type et info z ht hs hz ⟨q.block, q.base + 0, none⟩ n cap ((c0.toList.drop q.base).take cs.length) (by simp; omega) (fun j v hj => by
          rw [addr_add, Nat.add_zero]
          have : j < cs.length := by
            rcases Nat.lt_or_ge j cs.length with g | g
            · exact g
            · rw [List.getElem?_eq_none (by simp; omega)] at hj; cases hj
          rw [List.getElem?_take_of_lt this, List.getElem?_drop] at hj
          exact cell_of h2 (by simpa using hj)) p m n' l hl hcells (by omega) (by omega) (growslice_fits (by omega) hbytes)
        have hal := (hi.drew.alloc (hro.append hr) (Builtin.zeroCells z.cells (grownCap w (n + m) cap et - (n + m))) et).del i
        rw [hdel_snoc hne] at hal
        refine ⟨.slice (some ⟨w.heap.size, 0, none⟩) (n + m) (grownCap w (n + m) cap et), _, _, ?_, ?_, hal, (smk_alloc hi.drew (fun j hj => (hkp j hj).1) _ _).drew⟩
        · rw [run_bi ho, hc, hcx]
          simp only [Sem.run_bind, hrun, Result.andThen_ok, Sem.run_pure]
          simp
        · exact .sl (o := 0) (Mu.put_same _ _ _) (grownCap_ge w _ _ et) (grown_ext hzs (by rw [List.length_append, hl, Nat.add_mul]; simp; omega) (grownCap_ge w _ _ et))
    | sl0 A =>
      have hcs0 : cs = [] := List.eq_nil_of_length_eq_zero (by rw [hcs]; simp)
      subst hcs0
      have hal := (hi.drew.alloc hr (Builtin.zeroCells z.cells (grownCap w m 0 et - m)) et).del i
      rw [hdel_snoc hne] at hal
      simp only [Nat.zero_add, List.nil_append] at hbytes ⊢
      refine ⟨.slice (some ⟨w.heap.size, 0, none⟩) m (grownCap w m 0 et), _, _, ?_, ?_, hal, (smk_alloc hi.drew (fun j hj => (hkp j hj).1) _ _).drew⟩
      · rw [run_bi ho, hc, hcx]
        cases A with
        | none =>
          have hrun := run_append_nil (P := P) w t o.type et info z ht hs hz p m n' l hl hcells hpos (by omega) (by omega)
          simp only [Sem.run_bind, hrun, Result.andThen_ok, Sem.run_pure]
        | some q =>
          have hrun := run_append_grow (P := P) w t o.type et info z ht hs hz q 0 0 [] (by simp) (by simp) p m n' l hl hcells (by omega) (by omega) (growslice_fits (by omega) (by simpa using hbytes))
          simp only [Nat.zero_add] at hrun
          simp only [Sem.run_bind, hrun, Result.andThen_ok, Sem.run_pure]
          simp
      · exact .sl (o := 0) (Mu.put_same _ _ _) (grownCap_ge w m 0 et) (grown_ext hzs hl (grownCap_ge w m 0 et))
end
end Go.BH

/- The picture by value, 8: make, cuts, strings, what is frozen. -/
set_option linter.unusedVariables false
set_option linter.unusedSimpArgs false
namespace Go.BH
open Go.RowKit
section
variable {P : Program} {E : En} {σ : St} {o : Oper} {kp : Nat → Bool}
theorem OS.makeSlice {t e : TypeId} {lx cx : Operand} {info : TypeInfo} {z : Value} {k k' : IntKind} {n : Nat} (ho : o.op = .makeSlice t lx cx) (ht : P.underlying t = some (.slice e)) (hs : P.info? e = some info) (hz : info.zero = some z) (hl : σ.ev lx = .v (.int k n)) (hc : σ.ev cx = .v (.int k' n)) (hn : n < 9223372036854775808) (hb : info.bytes * n ≤ 281474976710656) (hk : ∀ j, kp j = true → (hget σ.H j).isSome = true) :
    OS P E kp o σ (.sl σ.nx 0 n info.size) ⟨σ.T, σ.H ++ [((σ.nx, 0), vals (madeCells z.cells (n * info.size)).toList)], σ.nx + 1⟩ := fun μ a w hi => by
  have h1 := hi.ev lx
  have h2 := hi.ev cx
  rw [hl] at h1
  rw [hc] at h2
  have hal := hi.alloc (VRs.vals (madeCells z.cells (n * info.size)).toList) #[] e
  have hrun := run_make (P := P) w t e info z ht hs hz k k' (n : Int) (n : Int) (by omega) (Int.le_refl _) (by rw [← Int.natCast_mul]; exact Int.ofNat_le.2 hb) (by omega)
  simp only [Int.toNat_natCast] at hrun
  refine ⟨.slice (some ⟨w.heap.size, 0, none⟩) n n, _, _, ?_, ?_, hal, smk_alloc hi hk _ _⟩
  · simp only [execOp, ho, h1.val, h2.val, Sem.run_bind, hrun, Result.andThen_ok, Sem.run_pure, Array.append_empty]
  · refine .sl (o := 0) (Mu.put_same _ _ _) (Nat.le_refl _) ?_
    simp [size_madeCells]
/-- A bound of a cut: what it is, if nothing is said. -/
def bd (σ : St) (dflt : Nat) : Option Operand → Nat → Prop
  | none, l => l = dflt
  | some x, l => ∃ k, σ.ev x = .v (.int k l)
theorem run_cut {P : Program} {t e : TypeId} {info : TypeInfo} (ht : P.underlying t = some (.slice e)) (hs : P.info? e = some info) {μ : Mu} {a : Act} {w0 : World} (hi : INV E μ σ a w0) {lo hh : Option Operand} {A : Option Addr} {n c l h : Nat} (hl : bd σ 0 lo l) (hd : bd σ n hh h) (h1 : l ≤ h) (h2 : h ≤ n) (h3 : n ≤ c) (w : World) :
    (Instr.sliceAt t (.slice A n c) (lo.map a.eval) (hh.map a.eval) none).run P w = .ok (sliced A l h c info.size) w := by
  have hel : P.elem t = e := by simp [Program.elem, ht]
  have ht' : P.underlying t = some (.slice (P.elem t)) := by rw [hel]; exact ht
  have hsz : (sizeOf (P.elem t)).run P w = .ok info.size w := by rw [hel]; exact run_sizeOf' hs w
  have hc : ∀ (x : Operand) (k : IntKind) (m : Nat), σ.ev x = .v (.int k m) → a.eval x = .int k m := fun x k m hx => by
    have := hi.ev x
    rw [hx] at this
    exact this.val
  rw [run_sliceAt_slice _ _ _ _ _ _ ht']
  cases lo with
  | none =>
    obtain rfl : l = 0 := hl
    cases hh with
    | none =>
      obtain rfl : h = n := hd
      rw [show (none : Option Operand).map a.eval = none from rfl, run_slice_all w t A h c ht', hsz, Result.andThen_ok]
    | some y =>
      obtain ⟨k, hy⟩ := hd
      rw [show (none : Option Operand).map a.eval = none from rfl, Option.map_some, hc y k h hy, run_slice_h w t A n c ht' k h (by omega) (by omega), hsz, Result.andThen_ok, Int.toNat_natCast]
  | some x =>
    obtain ⟨k, hx⟩ := hl
    cases hh with
    | none =>
      obtain rfl : h = n := hd
      rw [show (none : Option Operand).map a.eval = none from rfl, Option.map_some, hc x k l hx, run_slice_l w t A h c ht' k l (by omega) (by omega), hsz, Result.andThen_ok, Int.toNat_natCast]
    | some y =>
      obtain ⟨k', hy⟩ := hd
      rw [Option.map_some, Option.map_some, hc x k l hx, hc y k' h hy, run_slice_lh w t A n c ht' k k' l h (by omega) (by omega) (by omega), hsz, Result.andThen_ok, Int.toNat_natCast, Int.toNat_natCast]
theorem OP.cut {t e : TypeId} {x : Operand} {lo hh : Option Operand} {info : TypeInfo} {i : Nm} {k n l h : Nat} (ho : o.op = .slice t x lo hh none) (ht : P.underlying t = some (.slice e)) (hs : P.info? e = some info) (hx : σ.ev x = .sl i k n info.size) (hl : bd σ 0 lo l) (hd : bd σ n hh h) (h1 : l ≤ h) (h2 : h ≤ n) :
    OP P E kp o σ (.sl i (k + l * info.size) (h - l) info.size) := fun μ a w hi => by
  have hv := hi.ev x
  rw [hx] at hv
  generalize hc : a.eval x = c at hv
  cases hv with
  | @sl _ _ _ cap _ b hm hcap he =>
    refine ⟨sliced (some ⟨b.block, b.base + k, none⟩) l h cap info.size, ?_, fun w' _ => ?_⟩
    · unfold sliced
      by_cases e : cap = l
      · have : h - l = 0 := by omega
        rw [this, if_pos e]
        have : cap - l = 0 := by omega
        rw [this]
        exact .sl0 _
      · rw [if_neg e]
        simp only [Option.map_some, addr_add, Nat.add_assoc]
        refine .sl hm (by omega) ?_
        have : k + l * info.size + (cap - l) * info.size = k + cap * info.size := by rw [Nat.add_assoc, ← Nat.add_mul]; congr 2; omega
        omega
    · simp only [execOp, ho, hc, Option.map_none, run_cut ht hs hi hl hd h1 h2 hcap w', Sem.run_bind, Result.andThen_ok, Sem.run_pure]
  | sl0 A =>
    obtain rfl : h = 0 := by omega
    obtain rfl : l = 0 := by omega
    refine ⟨.slice A 0 0, ?_, fun w' _ => ?_⟩
    · simp only [Nat.sub_self]; exact .sl0 A
    · simp only [execOp, ho, hc, Option.map_none, run_cut ht hs hi hl hd h1 h2 (Nat.le_refl _) w', Sem.run_bind, Result.andThen_ok, Sem.run_pure]
      simp [sliced]
/-- A cut of a block of the call's own: the part has a new name, the old one is gone. -/
theorem OS.win {t e : TypeId} {x : Operand} {lo hh : Option Operand} {info : TypeInfo} {i n l h : Nat} {cs : List AV} (ho : o.op = .slice t x lo hh none) (ht : P.underlying t = some (.slice e)) (hs : P.info? e = some info) (hx : σ.ev x = .sl i 0 n info.size) (hg : hget σ.H i = some cs) (hcs : h * info.size ≤ cs.length) (hl : bd σ 0 lo l) (hd : bd σ n hh h) (h1 : l ≤ h) (h2 : h ≤ n) :
    OS P E kp o σ (.sl σ.nx 0 (h - l) info.size) ⟨σ.T, hdel σ.H i ++ [((σ.nx, 0), (cs.drop (l * info.size)).take ((h - l) * info.size))], σ.nx + 1⟩ := fun μ a w hi => by
  obtain ⟨c, hv, hrun⟩ := OP.cut (P := P) (kp := kp) ho ht hs hx hl hd h1 h2 μ a w hi
  have hle : l * info.size + (h - l) * info.size ≤ cs.length := by
    rw [← Nat.add_mul, show l + (h - l) = h by omega]; exact hcs
  obtain ⟨μ', k1, k2, k3⟩ := hi.window hg (l * info.size) ((h - l) * info.size) hle
  refine ⟨c, w, μ', hrun w (SM.refl _ _ _), ?_, k1, k2, SM.refl _ _ _⟩
  rw [Nat.zero_add] at hv
  generalize h - l = r at hv
  cases hv with
  | @sl _ _ _ cap _ b hm hcap he => exact .sl (o := 0) (k3 b hm) hcap (by simp only; omega)
  | sl0 A => exact .sl0 A
theorem OP.cutF {t e : TypeId} {x : Operand} {lo hh : Option Operand} {info : TypeInfo} {b : Bool} {n l h : Nat} {xs : List AV} (ho : o.op = .slice t x lo hh none) (ht : P.underlying t = some (.slice e)) (hs : P.info? e = some info) (hx : σ.ev x = .fz b info.size n xs) (hl : bd σ 0 lo l) (hd : bd σ n hh h) (h1 : l ≤ h) (h2 : h ≤ n) :
    OP P E kp o σ (.fz b info.size (h - l) ((xs.drop (l * info.size)).take ((h - l) * info.size))) := fun μ a w hi => by
  have hv := hi.ev x
  rw [hx] at hv
  generalize hc : a.eval x = c at hv
  cases hv with
  | @fz _ _ _ cap off bk cs _ hr hlen hcap hk =>
    refine ⟨sliced (some ⟨bk, off, none⟩) l h cap info.size, ?_, fun w' _ => ?_⟩
    · unfold sliced
      by_cases e : h - l = 0
      · have : (xs.drop (l * info.size)).take ((h - l) * info.size) = [] := by rw [e]; simp
        rw [this, e]
        split
        · exact .fz0 _ _
        · exact .fz0 _ _
      · rw [if_neg (show ¬ cap = l by omega)]
        simp only [Option.map_some, addr_add]
        have hle : (h - l) * info.size + l * info.size ≤ n * info.size := by rw [← Nat.add_mul]; exact Nat.mul_le_mul_right _ (by omega)
        refine .fz hr (by simp; omega) (by omega) ?_
        have := (hk.drop (l * info.size)).take ((h - l) * info.size)
        rw [List.drop_take, List.take_take, List.drop_drop, Nat.min_eq_left (by omega)] at this
        exact this
    · simp only [execOp, ho, hc, Option.map_none, run_cut ht hs hi hl hd h1 h2 hcap w', Sem.run_bind, Result.andThen_ok, Sem.run_pure]
  | fz0 A cap =>
    obtain rfl : h = 0 := by omega
    obtain rfl : l = 0 := by omega
    refine ⟨sliced A 0 0 cap info.size, ?_, fun w' _ => ?_⟩
    · simp only [List.drop_nil, List.take_nil, sliced, Nat.sub_self]; exact .fz0 _ _
    · simp only [execOp, ho, hc, Option.map_none, run_cut ht hs hi hl hd h1 h2 (Nat.zero_le _) w', Sem.run_bind, Result.andThen_ok, Sem.run_pure]
/-- Comparison with nil, of a slice that is not empty. -/
theorem OP.eqNilS {op : BinOp} {t e t' : TypeId} {x : Operand} {i : Nm} {j n s : Nat} {r : Bool} (ho : o.op = .binOp op t x (.const (.slice none 0 0)) t') (ht : P.underlying t = some (.slice e)) (hx : σ.ev x = .sl i j n s ∨ ∃ l xs, σ.ev x = .fz l s n xs) (hn : n ≠ 0) (hr : (op = .eql ∧ r = false) ∨ (op = .neq ∧ r = true)) : OP P E kp o σ (.v (.bool r)) := fun μ a w hi => by
  have hv := hi.ev x
  obtain ⟨b, c, hc⟩ : ∃ b c, a.eval x = .slice (some b) n c := by
    rcases hx with hx | ⟨l, xs, hx⟩ <;> rw [hx] at hv <;> (generalize a.eval x = cx at hv ⊢; cases hv) <;> first | exact ⟨_, _, rfl⟩ | exact absurd rfl hn
  refine ⟨.bool r, .v _, fun w' _ => ?_⟩
  have he := run_equal_slice_nil (P := P) w' t e (some b) n c ht
  have hy : a.eval (.const (.slice none 0 0)) = .slice none 0 0 := rfl
  rcases hr with ⟨rfl, rfl⟩ | ⟨rfl, rfl⟩ <;> (simp only [execOp, ho, hc, hy]; simp [eqGuard, binOp, he])
/-- .. of one that is frozen: where it is empty, either may be the answer. -/
theorem OX.nilB {t e t' : TypeId} {x : Operand} {l : Bool} {n s : Nat} {xs : List AV} {R : AV → St → Prop} (ho : o.op = .binOp .eql t x (.const (.slice none 0 0)) t') (ht : P.underlying t = some (.slice e)) (hx : σ.ev x = .fz l s n xs) (hf : R (.v (.bool false)) σ) (htr : n = 0 → R (.v (.bool true)) σ) : OX P E kp o σ R := by
  intro μ a w hi K Q hK
  have hv := hi.ev x
  rw [hx] at hv
  have hy : a.eval (.const (.slice none 0 0)) = .slice none 0 0 := rfl
  have key : ∀ (A : Option Addr) (c : Nat), a.eval x = .slice A n c → (A = none → n = 0) → o.wp P a w K Q := fun A c hc hA => by
    cases A with
    | none =>
      have he := run_equal_slice_nil (P := P) w t e none n c ht
      have hrun : (execOp a.eval o).run P w = .ok (.value (.bool true)) w := by
        simp only [execOp, ho, hc, hy]; simp [eqGuard, binOp, he]
      simp only [Oper.wp, hrun, Oper.upon]
      exact hK _ σ _ μ w (htr (hA rfl)) (.v _) hi (.refl _ _ _)
    | some b =>
      have he := run_equal_slice_nil (P := P) w t e (some b) n c ht
      have hrun : (execOp a.eval o).run P w = .ok (.value (.bool false)) w := by
        simp only [execOp, ho, hc, hy]; simp [eqGuard, binOp, he]
      simp only [Oper.wp, hrun, Oper.upon]
      exact hK _ σ _ μ w hf (.v _) hi (.refl _ _ _)
  generalize hcx : a.eval x = cx at hv
  cases hv with
  | fz h hl hc k => exact key _ _ hcx (fun h => by cases h)
  | fz0 A c => exact key _ _ hcx (fun _ => rfl)
theorem OP.indexStr {t : TypeId} {x ix : Operand} {z : ByteArray} {kd : IntKind} {i : Int} {b : UInt8} (ho : o.op = .index t x ix) (ht : P.underlying t = some .string) (hx : σ.ev x = .v (.string z)) (hz : σ.ev ix = .v (.int kd i)) (h0 : 0 ≤ i) (hb : z[i.toNat]? = some b) : OP P E kp o σ (.v (.int .u8 b.toNat)) := fun μ a w hi => by
  have h1 := hi.ev x
  have h2 := hi.ev ix
  rw [hx] at h1
  rw [hz] at h2
  refine ⟨_, .v _, fun w' _ => ?_⟩
  simp [execOp, ho, h1.val, h2.val, Instr.index, asIntOf, run_underlying ht, if_pos h0, hb]
theorem run_cutStr {P : Program} {t : TypeId} (ht : P.underlying t = some .string) {μ : Mu} {a : Act} {w0 : World} (hi : INV E μ σ a w0) {lo hh : Option Operand} {z : ByteArray} {l h : Nat} (hl : bd σ 0 lo l) (hd : bd σ z.size hh h) (h1 : l ≤ h) (h2 : h ≤ z.size) (w : World) :
    (Instr.sliceAt t (.string z) (lo.map a.eval) (hh.map a.eval) none).run P w = .ok (.string (z.extract l h)) w := by
  have hc : ∀ (x : Operand) (k : IntKind) (m : Nat), σ.ev x = .v (.int k m) → a.eval x = .int k m := fun x k m hx => by
    have := hi.ev x
    rw [hx] at this
    exact this.val
  rw [run_sliceAt_string _ _ _ _ _ _ ht]
  cases lo with
  | none =>
    obtain rfl : l = 0 := hl
    cases hh with
    | none =>
      obtain rfl : h = z.size := hd
      simp [Instr.slice, run_underlying ht, Instr.sliceBounds]
    | some y =>
      obtain ⟨k, hy⟩ := hd
      simp [Instr.slice, run_underlying ht, Instr.sliceBounds, hc y k h hy, run_sliceBound w k h z.size _ (Int.natCast_nonneg _) (by omega)]
  | some x =>
    obtain ⟨k, hx⟩ := hl
    cases hh with
    | none =>
      obtain rfl : h = z.size := hd
      simp [Instr.slice, run_underlying ht, Instr.sliceBounds, hc x k l hx, run_sliceBound w k l z.size _ (Int.natCast_nonneg _) (by omega)]
    | some y =>
      obtain ⟨k', hy⟩ := hd
      simp [Instr.slice, run_underlying ht, Instr.sliceBounds, hc x k l hx, hc y k' h hy, run_sliceBound w k' h z.size _ (Int.natCast_nonneg _) (by omega), run_sliceBound w k l h _ (Int.natCast_nonneg _) (by omega)]
theorem OP.cutStr {t : TypeId} {x : Operand} {lo hh : Option Operand} {z : ByteArray} {l h : Nat} (ho : o.op = .slice t x lo hh none) (ht : P.underlying t = some .string) (hx : σ.ev x = .v (.string z)) (hl : bd σ 0 lo l) (hd : bd σ z.size hh h) (h1 : l ≤ h) (h2 : h ≤ z.size) : OP P E kp o σ (.v (.string (z.extract l h))) := fun μ a w hi => by
  have h3 := hi.ev x
  rw [hx] at h3
  refine ⟨_, .v _, fun w' _ => ?_⟩
  simp only [execOp, ho, h3.val, Option.map_none, run_cutStr ht hi hl hd h1 h2 w', Sem.run_bind, Result.andThen_ok, Sem.run_pure]
/-! ### a block frozen -/
end
mutual
/-- What names block i (which holds cs) by value. -/
def AV.frz (i : Nm) (cs : List AV) : AV → AV
  | .any => .any
  | .v x => .v x
  | .ptr j o => if nbeq j i = true then .pfz false (cs.drop o) else .ptr j o
  | .sl j o n s => if nbeq j i = true then (if Nat.ble (o + n * s) cs.length = true then .fz false s n ((cs.drop o).take (n * s)) else .any) else .sl j o n s
  | .e0 => .e0
  | .ifs => .ifs
  | .fz l s n xs => .fz l s n (AV.frzs i cs xs)
  | .pfz l xs => .pfz l (AV.frzs i cs xs)
  | .agg xs => .agg (AV.frzs i cs xs)
  | .tup xs => .tup (AV.frzs i cs xs)
  | .fn g xs => .fn g (AV.frzs i cs xs)
def AV.frzs (i : Nm) (cs : List AV) : List AV → List AV
  | [] => []
  | x :: xs => AV.frz i cs x :: AV.frzs i cs xs
end
theorem frzs_map (i : Nm) (cs : List AV) (l : List AV) : AV.frzs i cs l = l.map (AV.frz i cs) := by
  induction l with
  | nil => rfl
  | cons x xs ih => simp [AV.frzs, ih]
mutual
theorem VR.frz {i : Nm} {cs : List AV} {μ ν : Mu} (h : Sub μ ν) (hp : ∀ a, μ.pl i = some a → ∃ l, ν.fz a.block = some l ∧ VRs ν cs ((l.drop a.base).take cs.length)) : ∀ {x : AV} {c : Value}, VR μ x c → VR ν (x.frz i cs) c
  | _, _, .any c => .any c
  | _, _, .v x => .v x
  | .ptr j o, _, .ptr k => by
    simp only [AV.frz]
    split
    · rename_i e
      obtain rfl := nbeq_eq e
      obtain ⟨l, h1, h2⟩ := hp _ k
      refine .pfz (l := false) h1 ?_
      have := h2.drop o
      rw [List.drop_take, List.drop_drop] at this
      rw [List.length_drop]
      exact this
    · exact .ptr (h.pl _ _ k)
  | .sl j o n s, _, .sl k hc he => by
    simp only [AV.frz]
    split
    · rename_i e
      obtain rfl := nbeq_eq e
      split
      · rename_i e2
        have e2 := Nat.le_of_ble_eq_true e2
        obtain ⟨l, h1, h2⟩ := hp _ k
        refine .fz (l := false) h1 (by simp; omega) hc ?_
        have := h2.seg o (n * s)
        rw [take_drop_take _ _ _ _ e2, List.drop_drop] at this
        exact this
      · exact .any _
    · exact .sl (h.pl _ _ k) hc he
  | .sl j o _ s, _, .sl0 A => by
    simp only [AV.frz]
    split
    · split
      · simp only [Nat.zero_mul, List.take_zero]; exact .fz0 A 0
      · exact .any _
    · exact .sl0 A
  | _, _, .e0 A => .e0 A
  | _, _, .ifs t x => .ifs t x
  | .fz l s n xs, _, .fz k hl hc m => by
    simp only [AV.frz]
    exact .fz (h.rd _ _ _ k) (by rw [frzs_map, List.length_map]; exact hl) hc (VRs.frz h hp m)
  | _, _, .fz0 A c => .fz0 A c
  | .pfz l xs, _, .pfz k m => by
    simp only [AV.frz]
    refine .pfz (h.rd _ _ _ k) ?_
    rw [frzs_map, List.length_map, ← frzs_map]
    exact VRs.frz h hp m
  | .agg _, _, .agg k => .agg (VRs.frz h hp k)
  | .tup _, _, .tup k => .tup (VRs.frz h hp k)
  | .fn _ _, _, .fn m => .fn (VRs.frz h hp m)
theorem VRs.frz {i : Nm} {cs : List AV} {μ ν : Mu} (h : Sub μ ν) (hp : ∀ a, μ.pl i = some a → ∃ l, ν.fz a.block = some l ∧ VRs ν cs ((l.drop a.base).take cs.length)) : ∀ {x : List AV} {c : List Value}, VRs μ x c → VRs ν (AV.frzs i cs x) c
  | _, _, .nil => .nil
  | _, _, .cons k m => .cons (VR.frz h hp k) (VRs.frz h hp m)
end
def frzT (i : Nm) (cs : List AV) : List (Nat × AV) → List (Nat × AV)
  | [] => []
  | (t, x) :: r => (t, x.frz i cs) :: frzT i cs r
theorem tk_frzT (i : Nm) (cs : List AV) (t : Nat) : ∀ T : List (Nat × AV), tk (frzT i cs T) t = (tk T t).frz i cs
  | [] => rfl
  | (d, x) :: r => by
    simp only [frzT, tk]
    split
    · rfl
    · exact tk_frzT i cs t r
def frzH (i : Nm) (cs : List AV) : Hp → Hp
  | [] => []
  | (k, x) :: r => (k, AV.frzs i cs x) :: frzH i cs r
theorem hget_frzH (i : Nm) (cs : List AV) (t : Nm) : ∀ T : Hp, hget (frzH i cs T) t = (hget T t).map (AV.frzs i cs)
  | [] => rfl
  | (d, x) :: r => by
    simp only [frzH, hget]
    split
    · rfl
    · exact hget_frzH i cs t r
def St.freeze (σ : St) (i : Nm) (cs : List AV) : St := ⟨frzT i cs σ.T, frzH i cs (hdel σ.H i), σ.nx⟩
section
variable {E : En} {σ : St}
theorem Gh.freeze {i : Nm} {cs : List AV} (hg : hget σ.H i = some cs) : Gh E σ (σ.freeze i cs) := fun μ a w hi => by
  obtain ⟨ν, hsub, hHR, hpl, hln, hfz, hp⟩ : ∃ ν : Mu, Sub μ ν ∧ HR ν (hdel σ.H i) w ∧ ν.pl = μ.pl ∧ ν.ln = μ.ln ∧ (∀ b l, ν.fz b = some l → μ.fz b = some l ∨ E.w.heap.size ≤ b ∨ E.may b) ∧ (∀ p, μ.pl i = some p → ∃ l, ν.fz p.block = some l ∧ VRs ν cs ((l.drop p.base).take cs.length)) := by
    cases hp : μ.pl i with
    | none => exact ⟨μ, .refl μ, hi.heap.del i, rfl, rfl, fun b l h => .inl h, fun p h => by cases h⟩
    | some p =>
      obtain ⟨c, t, g1, g2, g3, g4⟩ := hi.heap.own i cs hg p hp
      obtain ⟨h1, h2⟩ := hi.heap.freeze hg hp g1
      refine ⟨_, h1, h2, rfl, rfl, fun b l h => ?_, fun q hq => ?_⟩
      · by_cases e : b = p.block
        · subst e; exact .inr (hi.may i cs p hg hp)
        · have : (if b = p.block then some c.toList else μ.fz b) = some l := h
          rw [if_neg e] at this
          exact .inl this
      · obtain rfl := Option.some.inj hq
        refine ⟨c.toList, if_pos rfl, ?_⟩
        exact (rel_cells g4 (by omega)).mono h1
  have hget : ∀ j ds, hget (σ.freeze i cs).H j = some ds → ∃ es, hget (hdel σ.H i) j = some es ∧ ds = AV.frzs i cs es := fun j ds hj => by
    rw [show (σ.freeze i cs).H = frzH i cs (hdel σ.H i) from rfl, hget_frzH] at hj
    obtain ⟨es, h1, h2⟩ := Option.map_eq_some_iff.1 hj
    exact ⟨es, h1, h2.symm⟩
  refine ⟨ν, ⟨fun t => ?_, hi.size, hi.defers, ⟨fun j ds hj b hb => ?_, fun j ds hj hne => ?_, fun j k ds es hjk hj hk => ?_, hHR.rd, fun j ds b hj hb => ?_⟩, fun j hj => by rw [hpl]; exact hi.fresh j hj, fun j ds hj => ?_, hi.kept, fun j ds p hj hp' => ?_, fun b l h => ?_, fun b l h => hsub.rd false b l (hi.fzo b l h), hln.trans hi.lno.1, fun j hj => by rw [hpl]; exact hi.lno.2.1 j hj, hi.lno.2.2⟩, hsub⟩
  · rw [show (σ.freeze i cs).T = frzT i cs σ.T from rfl, tk_frzT]
    exact (hi.tmps t).frz hsub hp
  · obtain ⟨es, h1, rfl⟩ := hget j ds hj
    rw [hpl] at hb
    obtain ⟨c, t, g1, g2, g3, g4⟩ := hi.heap.own j es (hget_hdel h1).2 b hb
    refine ⟨c, t, g1, g2, by rw [frzs_map, List.length_map]; exact g3, fun m x hm => ?_⟩
    rw [frzs_map, List.getElem?_map] at hm
    obtain ⟨y, hy, rfl⟩ := Option.map_eq_some_iff.1 hm
    obtain ⟨z, hz, hv⟩ := g4 m y hy
    exact ⟨z, hz, hv.frz hsub hp⟩
  · obtain ⟨es, h1, rfl⟩ := hget j ds hj
    exact hHR.there j es h1 (fun e => hne (by rw [e]; rfl))
  · obtain ⟨ds', h1, _⟩ := hget j ds hj
    obtain ⟨es', h2, _⟩ := hget k es hk
    exact hHR.apart j k ds' es' hjk h1 h2
  · obtain ⟨ds', h1, _⟩ := hget j ds hj
    exact hHR.far j ds' b h1 hb
  · obtain ⟨ds', h1, _⟩ := hget j ds hj
    exact hi.low j ds' (hget_hdel h1).2
  · obtain ⟨ds', h1, _⟩ := hget j ds hj
    rw [hpl] at hp'
    exact hi.may j ds' p (hget_hdel h1).2 hp'
  · rcases hfz b l h with k | k
    · exact hi.fzn b l k
    · exact .inr k
theorem Gh.ghost : Gh E σ ⟨σ.T, σ.H ++ [((σ.nx, 0), [])], σ.nx + 1⟩ := fun μ a w hi => ⟨μ, hi.ghost, .refl μ⟩
end
end Go.BH

/- The picture by value, 9: functions: what a call does, and how that is shown. -/
set_option linter.unusedVariables false
set_option linter.unusedSimpArgs false
namespace Go.BH
open Go.RowKit
mutual
/-- Nothing that is lent for a call alone. -/
def AV.nl : AV → Bool
  | .fz l _ _ xs => !l && AV.nls xs
  | .pfz l xs => !l && AV.nls xs
  | .agg xs => AV.nls xs
  | .tup xs => AV.nls xs
  | .fn _ xs => AV.nls xs
  | _ => true
def AV.nls : List AV → Bool
  | [] => true
  | x :: xs => AV.nl x && AV.nls xs
end
theorem nls_iff {l : List AV} : AV.nls l = true ↔ ∀ x ∈ l, x.nl = true := by
  induction l with
  | nil => simp [AV.nls]
  | cons x xs ih => simp [AV.nls, ih]
/-- Which blocks of the world a call may write: those handed over by name. -/
def mayH (μ : Mu) (H : Hp) (k : Nat) : Prop := ∃ i cs p, hget H i = some cs ∧ μ.pl i = some p ∧ p.block = k
/-- The function f, called with these arguments over these blocks, returns; R tells what, and the blocks then. -/
def FT (P : Program) (f : FuncId) (args : List AV) (H : Hp) (m : Nat) (R : AV → Hp → Nat → Prop) : Prop :=
  ∀ (μ : Mu) (w : World) (vs : List Value), HR μ H w → (∀ i : Nm, m ≤ i.1 → μ.pl i = none) → (∀ i cs, hget H i = some cs → i.1 < m) → VRs μ args vs → GK μ.ln →
    Calls P f vs.toArray w (fun e w' => ∃ c r H' nx μ', e = .returned c ∧ R r H' nx ∧ r.nl = true ∧ (∀ i cs, hget H' i = some cs → AV.nls cs = true) ∧ VR μ' r c ∧ HR μ' H' w' ∧ (∀ i : Nm, nx ≤ i.1 → μ'.pl i = none) ∧ (∀ i cs, hget H' i = some cs → i.1 < nx) ∧
      Kept (mayH μ H) w w' ∧ (∀ i cs p, hget H' i = some cs → μ'.pl i = some p → w.heap.size ≤ p.block ∨ mayH μ H p.block) ∧
      (∀ b cs, μ'.fz b = some cs → μ.fz b = some cs ∨ w.heap.size ≤ b ∨ mayH μ H b) ∧ (∀ b cs, μ.fz b = some cs → μ'.fz b = some cs) ∧ (∀ i : Nm, i.1 < m → μ'.pl i = μ.pl i) ∧ m ≤ nx ∧ (∀ n cs, hget H' n = some cs → n.1 < m → (hget H n).isSome = true))
theorem FT.mono {P : Program} {f : FuncId} {args : List AV} {H : Hp} {m : Nat} {R R' : AV → Hp → Nat → Prop} (h : FT P f args H m R) (hr : ∀ r g n, R r g n → R' r g n) : FT P f args H m R' := fun μ w vs h1 h2 h3 h4 h5 =>
  Calls.mono (h μ w vs h1 h2 h3 h4 h5) (fun e w' ⟨c, r, H', nx, μ', a, b, d⟩ => ⟨c, r, H', nx, μ', a, hr _ _ _ b, d⟩)
/-! ### a body -/
def argT : Nat → List AV → List (Nat × AV)
  | _, [] => []
  | n, x :: xs => (n, x) :: argT (n + 1) xs
theorem argT_ok {μ : Mu} : ∀ {x : List AV} {c : List Value} (n : Nat) (pre : List Value) (post : List Value), VRs μ x c → pre.length = n → ∀ t, VR μ (tk (argT n x) t) ((pre ++ c ++ post).toArray.getD t undef)
  | _, _, n, pre, post, .nil, _, t => .any _
  | x :: xs, c :: cs, n, pre, post, .cons h k, hp, t => by
    simp only [argT, tk]
    cases e : Nat.beq n t with
    | true =>
      have := Nat.eq_of_beq_eq_true e
      subst this
      subst hp
      simpa using h
    | false =>
      have := argT_ok (n + 1) (pre ++ [c]) post k (by simp [hp]) t
      simpa using this
/-- What a result variable holds. -/
inductive RV (P : Program) (σ : St) : ResultVar → AV → Prop where
  | tmp (t : Tmp) {v : AV} (h : tk σ.T t = v) : RV P σ (.tmp t) v
  | cell1 {a : Tmp} {t : TypeId} {d : TypeDesc} {i : Nat} {k : Nat} {cs : List AV} {x : AV} (ht : P.underlying t = some d) (ha : aggD d = false) (hp : tk σ.T a = .ptr i k) (hg : hget σ.H i = some cs) (hx : cs[k]? = some x) : RV P σ (.cell a t) x
  | cellN {a : Tmp} {t : TypeId} {d : TypeDesc} {info : TypeInfo} {i : Nat} {k : Nat} {cs ds : List AV} (ht : P.underlying t = some d) (ha : aggD d = true) (hs : P.info? t = some info) (h0 : info.size ≠ 0) (hp : tk σ.T a = .ptr i k) (hg : hget σ.H i = some cs) (hx : k + info.size ≤ cs.length) (hc : (cs.drop k).take info.size = ds) : RV P σ (.cell a t) (.agg ds)
inductive RVs (P : Program) (σ : St) : List ResultVar → List AV → Prop where
  | nil : RVs P σ [] []
  | cons {x : ResultVar} {v : AV} {xs : List ResultVar} {vs : List AV} (h : RV P σ x v) (k : RVs P σ xs vs) : RVs P σ (x :: xs) (v :: vs)
/-- The one result, or the tuple of them. -/
def oneOf : List AV → AV
  | [x] => x
  | l => .tup l
/-- The body has come to its end, and R tells what it returns. -/
def RQ (P : Program) (rs : List ResultVar) (R : AV → Hp → Nat → Prop) : Exit → St → Prop := fun e σ =>
  (e = .ret ∨ e = .normal) ∧ (∀ i cs, hget σ.H i = some cs → AV.nls cs = true) ∧ ∃ vs, RVs P σ rs vs ∧ AV.nls vs = true ∧ R (oneOf vs) σ.H σ.nx
def resF (tmps : Array Value) : ResultVar → Sem Value
  | .tmp t => pure (tmps.getD t undef)
  | .cell b t => do loadVar t (← asAddr (tmps.getD b undef))
theorem results_eq (fn : Func) (tmps : Array Value) : results fn tmps = (do let vs ← fn.results.mapM (resF tmps); pure (if h : vs.size = 1 then vs[0] else .tuple vs) : Sem Value) := rfl
section
variable {P : Program} {E : En} {σ : St}
theorem RV.run {μ : Mu} {a : Act} {w : World} (hi : INV E μ σ a w) {r : ResultVar} {v : AV} (h : RV P σ r v) :
    ∃ c, (resF a.tmps r).run P w = .ok c w ∧ VR μ v c := by
  cases h with
  | tmp t h =>
    subst h
    exact ⟨_, rfl, hi.tmps t⟩
  | @cell1 b t d i k cs x ht ha hp hg hx =>
    have := OP.load1 (P := P) (E := E) (σ := σ) (kp := fun _ => true) (o := ⟨none, .load t (.tmp b), t, "", #[], none⟩) rfl ht ha hp hg hx rfl μ a w hi
    obtain ⟨c, hc, hr⟩ := this
    refine ⟨c, ?_, hc⟩
    have hr := hr w (.refl _ _ _)
    have hv := hi.tmps b
    rw [hp] at hv
    generalize hcx : a.tmps.getD b undef = cx at hv
    cases hv with
    | ptr hm =>
      simp only [execOp, Act.eval, hcx, Instr.loadAt, Instr.sureAddr, Sem.run_bind, Sem.run_pure, Result.andThen_ok] at hr
      simp only [resF, hcx, asAddr, Sem.run_bind, Sem.run_pure, Result.andThen_ok]
      generalize hq : (loadVar t _).run P w = q at hr ⊢
      cases q with
      | ok u w' =>
        simp only [Result.andThen_ok, Result.ok.injEq, Next.value.injEq] at hr
        rw [hr.1, hr.2]
      | halt x w' => simp [Result.andThen] at hr
  | @cellN b t d info i k cs ds ht ha hs h0 hp hg hx hcs =>
    have := OP.loadN (P := P) (E := E) (σ := σ) (kp := fun _ => true) (o := ⟨none, .load t (.tmp b), t, "", #[], none⟩) rfl ht ha hs hp hg h0 hx rfl μ a w hi
    obtain ⟨c, hc, hr⟩ := this
    rw [hcs] at hc
    refine ⟨c, ?_, hc⟩
    have hr := hr w (.refl _ _ _)
    have hv := hi.tmps b
    rw [hp] at hv
    generalize hcx : a.tmps.getD b undef = cx at hv
    cases hv with
    | ptr hm =>
      simp only [execOp, Act.eval, hcx, Instr.loadAt, Instr.sureAddr, Sem.run_bind, Sem.run_pure, Result.andThen_ok] at hr
      simp only [resF, hcx, asAddr, Sem.run_bind, Sem.run_pure, Result.andThen_ok]
      generalize hq : (loadVar t _).run P w = q at hr ⊢
      cases q with
      | ok u w' =>
        simp only [Result.andThen_ok, Result.ok.injEq, Next.value.injEq] at hr
        rw [hr.1, hr.2]
      | halt x w' => simp [Result.andThen] at hr
theorem RVs.run {μ : Mu} {a : Act} {w : World} (hi : INV E μ σ a w) : ∀ {rs : List ResultVar} {vs : List AV}, RVs P σ rs vs → ∃ cs : List Value, (rs.mapM (resF a.tmps)).run P w = .ok cs w ∧ VRs μ vs cs
  | _, _, .nil => ⟨[], rfl, .nil⟩
  | _, _, .cons h k => by
    obtain ⟨c, h1, h2⟩ := h.run hi
    obtain ⟨cs, k1, k2⟩ := RVs.run hi k
    refine ⟨c :: cs, ?_, .cons h2 k2⟩
    rw [List.mapM_cons]
    simp only [Sem.run_bind, h1, Result.andThen_ok, k1, Sem.run_pure]
theorem FT.of_body {f : FuncId} {fn : Func} {c : Code} {args : List AV} {H : Hp} {m : Nat} {R : AV → Hp → Nat → Prop} (hf : P.funcs[f]? = some fn) (hb : fn.body = some c) (hn : args.length ≤ fn.ntmps)
    (h : ∀ μ w g, CT P ⟨μ, w, mayH μ H, fn.ntmps, m, g, fun i => (hget H i).isSome = true⟩ c (RQ P fn.results.toList R) ⟨argT 0 args, H, m⟩) : FT P f args H m R := fun μ w vs hh hfr hlo hv hgk => by
  have hlen := hv.length
  refine calls_of_wp hf hb (Code.wp_mono (fun e a w' hq => ?_) (h μ w hgk μ _ w ?_))
  · obtain ⟨σ', μ', ⟨he, hcl, rvs, hr, hnl, hR⟩, hi⟩ := hq
    obtain ⟨cs, hrun, hcs⟩ := hr.run hi
    have hres : (results fn a.tmps).run P w' = .ok (if h : cs.toArray.size = 1 then cs.toArray[0] else .tuple cs.toArray) w' := by
      have hm : (fn.results.mapM (resF a.tmps)).run P w' = .ok cs.toArray w' := by
        rw [Array.mapM_eq_mapM_toList]
        simp only [map_eq_pure_bind, Sem.run_bind, hrun, Result.andThen_ok, Sem.run_pure]
      rw [results_eq]
      simp only [Sem.run_bind, Sem.run_pure, hm, Result.andThen_ok]
    have hrv : VR μ' (oneOf rvs) (if h : cs.toArray.size = 1 then cs.toArray[0] else .tuple cs.toArray) ∧ (oneOf rvs).nl = true := by
      cases hcs with
      | nil => exact ⟨.tup .nil, rfl⟩
      | cons h k =>
        cases k with
        | nil => exact ⟨h, by simpa [oneOf, AV.nls] using hnl⟩
        | cons h' k' => exact ⟨by simpa [oneOf] using VR.tup (.cons h (.cons h' k')), by simpa [oneOf, AV.nl] using hnl⟩
    have hall : a.defers = [] ∧ ∃ v, (results fn a.tmps).run P w' = .ok v w' ∧ ∃ c r H' nx μ'', (Ending.returned v) = .returned c ∧ R r H' nx ∧ r.nl = true ∧ (∀ i cs, hget H' i = some cs → AV.nls cs = true) ∧ VR μ'' r c ∧ HR μ'' H' w' ∧ (∀ i : Nm, nx ≤ i.1 → μ''.pl i = none) ∧ (∀ i cs, hget H' i = some cs → i.1 < nx) ∧
      Kept (mayH μ H) w w' ∧ (∀ i cs p, hget H' i = some cs → μ''.pl i = some p → w.heap.size ≤ p.block ∨ mayH μ H p.block) ∧
      (∀ b cs, μ''.fz b = some cs → μ.fz b = some cs ∨ w.heap.size ≤ b ∨ mayH μ H b) ∧ (∀ b cs, μ.fz b = some cs → μ''.fz b = some cs) ∧ (∀ i : Nm, i.1 < m → μ''.pl i = μ.pl i) ∧ m ≤ nx ∧ (∀ n cs, hget H' n = some cs → n.1 < m → (hget H n).isSome = true) :=
      ⟨hi.defers, _, hres, _, _, _, _, μ', rfl, hR, hrv.2, hcl, hrv.1, hi.heap, hi.fresh, fun i cs hg => (hi.low i cs hg).1, hi.kept, hi.may, hi.fzn, hi.fzo, hi.lno.2.1, hi.lno.2.2, fun n cs hg hn => (hi.low n cs hg).2 hn⟩
    rcases he with rfl | rfl
    · exact hall
    · exact hall
  · refine ⟨fun t => ?_, by simp; omega, rfl, hh, hfr, fun i cs hg => ⟨hlo i cs hg, fun _ => by show (hget H i).isSome = true; rw [show hget H i = some cs from hg]; rfl⟩, Kept.refl _ _, fun i cs p hi hp => .inr ⟨i, cs, p, hi, hp, rfl⟩, fun b cs h => .inl h, fun b cs h => h, rfl, fun i hi => rfl, Nat.le_refl _⟩
    have := argT_ok 0 [] (List.replicate (fn.ntmps - vs.length) undef) hv rfl t
    rw [show vs.toArray ++ Array.replicate (fn.ntmps - vs.toArray.size) undef = (vs ++ List.replicate (fn.ntmps - vs.length) undef).toArray by simp]
    exact this
end
end Go.BH
