/- A plain picture of a call's memory: blocks named by numbers, each a list of plain values; what a world has to do with it. (The author's own words; nothing here is trusted.) -/
import Derived.WalkKit
import Derived.OrdersHeld
import Derived.Below
set_option linter.unusedVariables false
set_option linter.unusedSimpArgs false
namespace Go.AH
open Go.RowKit
/-- The name of a block: one of the machine's (g), or a variable of this very call (l: named by the temporary that holds its address). -/
inductive Id where
  | g (n : Nat)
  | l (n : Nat)
  deriving DecidableEq
/-- Where a block lies, and how many cells from there on are its own. -/
structure Pl where
  block : Nat
  off : Nat
  ext : Nat
/-- A plain value. 'any': nothing is known of it. 'e0': a slice that is not nil, of length and capacity 0. 'sl i o n s': n elements of s cells each, from cell o of block i on; where n is 0 the slice may be nil. -/
inductive AV where
  | any
  | v (x : Value)
  | ptr (i : Id) (o : Nat)
  | sl (i : Id) (o n s : Nat)
  | e0
  | agg (cs : List AV)
  | tup (cs : List AV)
  | fn (f : Fn) (first captured : List AV)
mutual
/-- The plain value tells the value, the blocks lying where μ says. -/
inductive VR (μ : Id → Option Pl) : AV → Value → Prop where
  | any (c : Value) : VR μ .any c
  | v (x : Value) : VR μ (.v x) x
  | ptr {i : Id} {o : Nat} {a : Pl} (h : μ i = some a) : VR μ (.ptr i o) (.pointer (some ⟨a.block, a.off + o, none⟩))
  | sl {i : Id} {o n c s : Nat} {a : Pl} (h : μ i = some a) (hc : n ≤ c) (he : o + c * s ≤ a.ext) : VR μ (.sl i o n s) (.slice (some ⟨a.block, a.off + o, none⟩) n c)
  | sl0 {i : Id} {o s : Nat} (a : Addr) : VR μ (.sl i o 0 s) (.slice (some a) 0 0)
  | nl {i : Id} {o s : Nat} : VR μ (.sl i o 0 s) (.slice none 0 0)
  | e0 (a : Addr) : VR μ .e0 (.slice (some a) 0 0)
  | agg {cs : List AV} {l : List Value} (h : VRs μ cs l) : VR μ (.agg cs) (.agg l.toArray)
  | tup {cs : List AV} {l : List Value} (h : VRs μ cs l) : VR μ (.tup cs) (.tuple l.toArray)
  | fn {f : Fn} {x y : List AV} {l m : List Value} (h : VRs μ x l) (k : VRs μ y m) : VR μ (.fn f x y) (.func f l.toArray m.toArray)
inductive VRs (μ : Id → Option Pl) : List AV → List Value → Prop where
  | nil : VRs μ [] []
  | cons {x : AV} {c : Value} {xs : List AV} {cs : List Value} (h : VR μ x c) (k : VRs μ xs cs) : VRs μ (x :: xs) (c :: cs)
end
mutual
/-- No variable of the call's own is named in it. -/
def AV.noL : AV → Bool
  | .ptr (.l _) _ => false
  | .sl (.l _) _ _ _ => false
  | .agg cs => AV.noLs cs
  | .tup cs => AV.noLs cs
  | .fn _ x y => AV.noLs x && AV.noLs y
  | _ => true
def AV.noLs : List AV → Bool
  | [] => true
  | x :: xs => AV.noL x && AV.noLs xs
end
theorem noLs_iff {l : List AV} : AV.noLs l = true ↔ ∀ x ∈ l, x.noL = true := by
  induction l with
  | nil => simp [AV.noLs]
  | cons x xs ih => simp [AV.noLs, ih]
mutual
/-- Two placings that agree on all blocks that are placed by the first. -/
theorem VR.mono {μ ν : Id → Option Pl} (h : ∀ i a, μ i = some a → ν i = some a) : ∀ {x : AV} {c : Value}, VR μ x c → VR ν x c
  | _, _, .any c => .any c
  | _, _, .v x => .v x
  | _, _, .ptr k => .ptr (h _ _ k)
  | _, _, .sl k hc he => .sl (h _ _ k) hc he
  | _, _, .sl0 a => .sl0 a
  | _, _, .nl => .nl
  | _, _, .e0 a => .e0 a
  | _, _, .agg k => .agg (VRs.mono h k)
  | _, _, .tup k => .tup (VRs.mono h k)
  | _, _, .fn k m => .fn (VRs.mono h k) (VRs.mono h m)
theorem VRs.mono {μ ν : Id → Option Pl} (h : ∀ i a, μ i = some a → ν i = some a) : ∀ {x : List AV} {c : List Value}, VRs μ x c → VRs ν x c
  | _, _, .nil => .nil
  | _, _, .cons k m => .cons (VR.mono h k) (VRs.mono h m)
end
mutual
/-- The same for values in which no variable of the call's own is named: the placings agree on the machine's blocks. -/
theorem VR.monoG {μ ν : Id → Option Pl} (h : ∀ n a, μ (.g n) = some a → ν (.g n) = some a) : ∀ {x : AV} {c : Value}, x.noL = true → VR μ x c → VR ν x c
  | _, _, _, .any c => .any c
  | _, _, _, .v x => .v x
  | _, _, n, .ptr (i := .g _) k => .ptr (h _ _ k)
  | _, _, n, .ptr (i := .l _) k => by simp [AV.noL] at n
  | _, _, n, .sl (i := .g _) k hc he => .sl (h _ _ k) hc he
  | _, _, n, .sl (i := .l _) k hc he => by simp [AV.noL] at n
  | _, _, _, .sl0 a => .sl0 a
  | _, _, _, .nl => .nl
  | _, _, _, .e0 a => .e0 a
  | _, _, n, .agg k => .agg (VRs.monoG h (by simpa [AV.noL] using n) k)
  | _, _, n, .tup k => .tup (VRs.monoG h (by simpa [AV.noL] using n) k)
  | _, _, n, .fn k m => .fn (VRs.monoG h (by simp [AV.noL] at n; exact n.1) k) (VRs.monoG h (by simp [AV.noL] at n; exact n.2) m)
theorem VRs.monoG {μ ν : Id → Option Pl} (h : ∀ n a, μ (.g n) = some a → ν (.g n) = some a) : ∀ {x : List AV} {c : List Value}, AV.noLs x = true → VRs μ x c → VRs ν x c
  | _, _, _, .nil => .nil
  | _, _, n, .cons k m => .cons (VR.monoG h (by simp [AV.noLs] at n; exact n.1) k) (VRs.monoG h (by simp [AV.noLs] at n; exact n.2) m)
end
theorem VRs.length {μ : Id → Option Pl} : ∀ {x : List AV} {c : List Value}, VRs μ x c → c.length = x.length
  | _, _, .nil => rfl
  | _, _, .cons _ m => by simp [VRs.length m]
theorem VRs.get {μ : Id → Option Pl} : ∀ {x : List AV} {c : List Value}, VRs μ x c → ∀ (j : Nat) (y : AV), x[j]? = some y → ∃ d, c[j]? = some d ∧ VR μ y d
  | _, _, .nil, j, y, h => by simp at h
  | _, _, .cons k m, 0, y, h => by
    simp at h
    subst h
    exact ⟨_, rfl, k⟩
  | _, _, .cons k m, j + 1, y, h => by
    simp at h
    obtain ⟨d, hd, hv⟩ := VRs.get m j y h
    exact ⟨d, by simpa using hd, hv⟩
theorem VRs.of {μ : Id → Option Pl} : ∀ {x : List AV} {c : List Value}, c.length = x.length → (∀ (j : Nat) (y : AV), x[j]? = some y → ∃ d, c[j]? = some d ∧ VR μ y d) → VRs μ x c
  | [], [], _, _ => .nil
  | [], _ :: _, h, _ => by simp at h
  | _ :: _, [], h, _ => by simp at h
  | x :: xs, c :: cs, h, k => .cons (by
      obtain ⟨d, hd, hv⟩ := k 0 x rfl
      simp at hd
      subst hd
      exact hv) (VRs.of (by simpa using h) (fun j y hj => by simpa using k (j + 1) y (by simpa using hj)))
theorem VRs.append {μ : Id → Option Pl} : ∀ {x y : List AV} {c d : List Value}, VRs μ x c → VRs μ y d → VRs μ (x ++ y) (c ++ d)
  | _, _, _, _, .nil, k => k
  | _, _, _, _, .cons h m, k => .cons h (VRs.append m k)
/-- A block: gone; read alone; the call's own. -/
inductive Blk where
  | dead
  | ro (cs : List AV)
  | own (cs : List AV)
/-- The blocks that a call may name: the machine's, in order; its own variables. -/
structure Hp where
  g : List Blk
  l : List (Nat × List AV)
def lget : List (Nat × List AV) → Nat → Option (List AV)
  | [], _ => none
  | (k, cs) :: r, n => if k = n then some cs else lget r n
def Hp.get (H : Hp) : Id → Blk
  | .g n => (H.g[n]?).getD .dead
  | .l n => match lget H.l n with
    | some cs => .own cs
    | none => .dead
def Blk.alive : Blk → Bool
  | .dead => false
  | _ => true
def Blk.isOwn : Blk → Bool
  | .own _ => true
  | _ => false
def Blk.cells : Blk → List AV
  | .dead => []
  | .ro cs => cs
  | .own cs => cs
/-- What lies in memory from a on. -/
def At (μ : Id → Option Pl) (w : World) (a : Pl) (cs : List AV) : Prop := ∀ j x, cs[j]? = some x → ∃ y, w.cell? ⟨a.block, a.off + j, none⟩ = some y ∧ VR μ x y
/-- An own block lies in a block of cells that nobody has frozen. -/
def Room (w : World) (a : Pl) : Prop := ∃ c t, w.heap[a.block]? = some (.cells c t (0, 0)) ∧ a.off + a.ext ≤ c.size
/-- What a world has to do with the picture. 'base': from there on the blocks are the call's. -/
structure HR (base : Nat) (μ : Id → Option Pl) (H : Hp) (w : World) : Prop where
  there : ∀ i, (H.get i).cells ≠ [] → ∃ a, μ i = some a ∧ a.block < w.heap.size ∧ At μ w a (H.get i).cells
  own : ∀ i, (H.get i).isOwn = true → ∀ a, μ i = some a → base ≤ a.block ∧ Room w a ∧ (H.get i).cells.length ≤ a.ext
  apart : ∀ i j, i ≠ j → (H.get i).isOwn = true → (H.get j).alive = true → ∀ a b, μ i = some a → μ j = some b → a.block ≠ b.block
  clean : ∀ i, ∀ x ∈ (H.get i).cells, x.noL = true
  old : ∀ i a, μ i = some a → a.block < w.heap.size
theorem At.mono {μ ν : Id → Option Pl} {w w' : World} {a : Pl} {cs : List AV} (h : At μ w a cs) (hw : ∀ j, w.cell? ⟨a.block, a.off + j, none⟩ = w'.cell? ⟨a.block, a.off + j, none⟩) (hv : ∀ x ∈ cs, ∀ c, VR μ x c → VR ν x c) : At ν w' a cs := fun j x hj => by
  obtain ⟨y, hy, hr⟩ := h j x hj
  exact ⟨y, (hw j).symm.trans hy, hv x (List.mem_of_getElem? hj) _ hr⟩
theorem cell_block {w w' : World} {k o : Nat} (h : w'.heap[k]? = w.heap[k]?) : w.cell? ⟨k, o, none⟩ = w'.cell? ⟨k, o, none⟩ := by
  simp [World.cell?, h]
/-- From w to w' only blocks of those that 'm' lets may have turned; new ones may have come. -/
structure Kept (m : Nat → Prop) (w w' : World) : Prop where
  os : w'.os = w.os
  tape : w'.tape = w.tape
  output : w'.output = w.output
  size : w.heap.size ≤ w'.heap.size
  block : ∀ k, k < w.heap.size → ¬ m k → w'.heap[k]? = w.heap[k]?
theorem Kept.refl (m : Nat → Prop) (w : World) : Kept m w w := ⟨rfl, rfl, rfl, Nat.le_refl _, fun _ _ _ => rfl⟩
theorem Kept.trans {m : Nat → Prop} {a b c : World} (h : Kept m a b) (k : Kept m b c) : Kept m a c :=
  ⟨k.os.trans h.os, k.tape.trans h.tape, k.output.trans h.output, Nat.le_trans h.size k.size, fun i hi hm => (k.block i (by have := h.size; omega) hm).trans (h.block i hi hm)⟩
theorem Kept.mono {m n : Nat → Prop} {a b : World} (h : Kept m a b) (hm : ∀ k, k < a.heap.size → m k → n k) : Kept n a b := ⟨h.os, h.tape, h.output, h.size, fun k hk hn => h.block k hk (fun g => hn (hm k hk g))⟩
theorem Kept.drew (m : Nat → Prop) (w : World) : Kept m w w.drew := ⟨rfl, rfl, rfl, Nat.le_refl _, fun _ _ _ => rfl⟩
theorem Kept.alloc (m : Nat → Prop) (w : World) (o : Obj) : Kept m w (w.alloc o) := ⟨rfl, rfl, rfl, by simp, fun k hk _ => Below.heap_alloc _ _ _ hk⟩
theorem Kept.setCell {m : Nat → Prop} (w : World) (a : Addr) (u : Value) (h : m a.block) : Kept m w (w.setCell a u) :=
  ⟨rfl, rfl, rfl, by simp [World.setCell], fun k hk hm => Below.heap_setCell _ _ _ _ (fun e => hm (e ▸ h))⟩
end Go.AH
