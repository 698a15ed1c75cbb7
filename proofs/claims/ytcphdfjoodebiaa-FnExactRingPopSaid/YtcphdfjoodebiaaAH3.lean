/- The plain picture of a call's memory, 3: what holds all through a call; the rules for its code. -/
import Derived.Test.YtcphdfjoodebiaaAH2
set_option linter.unusedVariables false
set_option linter.unusedSimpArgs false
namespace Go.AH
open Go.RowKit
/-- A call's plain state: its temporaries (the last entry for a temporary counts; what is not named is unknown), its blocks. -/
structure St where
  T : List (Nat × AV)
  H : Hp
def tk : List (Nat × AV) → Nat → AV
  | [], _ => .any
  | (d, v) :: r, t => if Nat.beq d t = true then v else tk r t
/-- Where a call began: the placing, the world, the machine's blocks, and which of them it may write; how many temporaries it has. -/
structure En where
  μ : Id → Option Pl
  w : World
  g : List Blk
  M : Nat → Prop
  n : Nat
def En.may (E : En) (k : Nat) : Prop := ∃ n a, E.M n ∧ E.μ (.g n) = some a ∧ a.block = k
/-- What holds all through a call. -/
structure INV (base : Nat) (E : En) (μ : Id → Option Pl) (σ : St) (a : Act) (w : World) : Prop where
  tmps : ∀ t, VR μ (tk σ.T t) (a.tmps.getD t undef)
  size : a.tmps.size = E.n
  defers : a.defers = []
  heap : HR base μ σ.H w
  fresh : Fresh μ σ.H
  le : base ≤ w.heap.size
  same : ∀ n, n < E.g.length → μ (.g n) = E.μ (.g n)
  kept : Kept E.may E.w w
  new : ∀ i, (σ.H.get i).alive = true → (∀ n, i = .g n → E.g.length ≤ n) → ∀ a, μ i = some a → E.w.heap.size ≤ a.block
  len : E.g.length ≤ σ.H.g.length
/-- The code, begun in σ, ends in a way that Q lets. -/
def CT (P : Program) (base : Nat) (E : En) (c : Code) (Q : Exit → St → Prop) (σ : St) : Prop :=
  ∀ μ a w, INV base E μ σ a w → c.wp P (fun e a' w' => ∃ σ' μ', Q e σ' ∧ INV base E μ' σ' a' w') a w
section
variable {P : Program} {base : Nat} {E : En} {Q : Exit → St → Prop} {σ : St}
theorem CT.mono {c : Code} {Q' : Exit → St → Prop} (h : CT P base E c Q σ) (hq : ∀ e σ, Q e σ → Q' e σ) : CT P base E c Q' σ :=
  fun μ a w hi => Code.wp_mono (fun e a w ⟨s, ν, q, i⟩ => ⟨s, ν, hq _ _ q, i⟩) (h μ a w hi)
theorem CT.skip (h : Q .normal σ) : CT P base E .skip Q σ := fun μ a w hi => wp_skip ⟨σ, μ, h, hi⟩
theorem CT.exit {id : Nat} (h : Q (.exit id) σ) : CT P base E (.exit id) Q σ := fun μ a w hi => wp_exit ⟨σ, μ, h, hi⟩
theorem CT.ret (h : Q .ret σ) : CT P base E .ret Q σ := fun μ a w hi => wp_ret ⟨σ, μ, h, hi⟩
/-- What follows a piece of code. -/
def nxt (K : St → Prop) (Q : Exit → St → Prop) : Exit → St → Prop
  | .normal, σ => K σ
  | e, σ => Q e σ
theorem CT.seq {x y : Code} (h : CT P base E x (nxt (CT P base E y Q) Q) σ) : CT P base E (.seq x y) Q σ := fun μ a w hi => by
  refine wp_seq (Code.wp_mono (fun e a w ⟨s, ν, q, i⟩ => ?_) (h μ a w hi))
  cases e with
  | normal => exact q ν a w i
  | _ => exact ⟨s, ν, q, i⟩
def blkQ (id : Nat) (Q : Exit → St → Prop) : Exit → St → Prop
  | .exit j, σ => if j = id then Q .normal σ else Q (.exit j) σ
  | e, σ => Q e σ
theorem CT.block {id : Nat} {c : Code} (h : CT P base E c (blkQ id Q) σ) : CT P base E (.block id c) Q σ := fun μ a w hi => by
  refine wp_block (Code.wp_mono (fun e a w ⟨s, ν, q, i⟩ => ?_) (h μ a w hi))
  cases e with
  | exit j =>
    simp only [Exit.inBlock]
    simp only [blkQ] at q
    split
    · rw [if_pos ‹_›] at q; exact ⟨s, ν, q, i⟩
    · rw [if_neg ‹_›] at q; exact ⟨s, ν, q, i⟩
  | _ => exact ⟨s, ν, q, i⟩
/-- A place's plain value. -/
def St.ev (σ : St) : Operand → AV
  | .tmp t => tk σ.T t
  | .const v => .v v
  | .global _ => .any
  | .func f => .fn (.func f) [] []
theorem INV.ev {μ : Id → Option Pl} {a : Act} {w : World} (h : INV base E μ σ a w) (x : Operand) : VR μ (σ.ev x) (a.eval x) := by
  cases x with
  | tmp t => exact h.tmps t
  | const v => exact .v v
  | global g => exact .any _
  | func f => exact .fn (l := []) (m := []) .nil .nil
theorem VR.bool {μ : Id → Option Pl} {b : Bool} {c : Value} (h : VR μ (.v (.bool b)) c) : c = .bool b := by cases h; rfl
theorem VR.val {μ : Id → Option Pl} {v c : Value} (h : VR μ (.v v) c) : c = v := by cases h; rfl
theorem CT.cond {o : Operand} {x y : Code} {b : Bool} (hb : σ.ev o = .v (.bool b)) (ht : b = true → CT P base E x Q σ) (hf : b = false → CT P base E y Q σ) : CT P base E (.cond o x y) Q σ := fun μ a w hi => by
  have hv := hi.ev o
  rw [hb] at hv
  exact wp_cond_split hv.bool (fun t => ht t μ a w hi) (fun t => hf t μ a w hi)
/-- y says no more than x. -/
def Lev (x y : AV) : Prop := (∀ μ c, VR μ x c → VR μ y c) ∧ (x.noL = true → y.noL = true)
theorem Lev.refl (x : AV) : Lev x x := ⟨fun _ _ h => h, id⟩
theorem Lev.any (x : AV) : Lev x .any := ⟨fun _ c _ => .any c, fun _ => rfl⟩
theorem Lev.nil (n o s : Nat) : Lev (.v (.slice none 0 0)) (.sl (.g n) o 0 s) := ⟨fun _ c h => by cases h; exact .nl, fun _ => rfl⟩
theorem Lev.e0 (n o s : Nat) : Lev .e0 (.sl (.g n) o 0 s) := ⟨fun _ c h => by cases h; exact .sl0 _, fun _ => rfl⟩
theorem Lev.of {x y : AV} (h : x = y) : Lev x y := h ▸ .refl x
inductive Levs : List AV → List AV → Prop where
  | nil : Levs [] []
  | cons {x y : AV} {xs ys : List AV} (h : Lev x y) (k : Levs xs ys) : Levs (x :: xs) (y :: ys)
theorem Levs.refl : ∀ l : List AV, Levs l l
  | [] => .nil
  | x :: xs => .cons (.refl x) (Levs.refl xs)
theorem Levs.of {l m : List AV} (h : l = m) : Levs l m := h ▸ .refl l
theorem Levs.length : ∀ {l m : List AV}, Levs l m → m.length = l.length
  | _, _, .nil => rfl
  | _, _, .cons _ k => by simp [Levs.length k]
theorem Levs.get : ∀ {l m : List AV}, Levs l m → ∀ (j : Nat) (y : AV), m[j]? = some y → ∃ x, l[j]? = some x ∧ Lev x y
  | _, _, .nil, j, y, h => by simp at h
  | _, _, .cons h k, 0, y, hj => by simp at hj; subst hj; exact ⟨_, rfl, h⟩
  | _, _, .cons h k, j + 1, y, hj => by
    obtain ⟨x, hx, hl⟩ := Levs.get k j y (by simpa using hj)
    exact ⟨x, by simpa using hx, hl⟩
theorem Levs.mem {l m : List AV} (h : Levs l m) {y : AV} (hy : y ∈ m) : ∃ x ∈ l, Lev x y := by
  obtain ⟨j, hj, rfl⟩ := List.mem_iff_getElem.1 hy
  obtain ⟨x, hx, hl⟩ := h.get j _ (List.getElem?_eq_getElem hj)
  exact ⟨x, List.mem_of_getElem? hx, hl⟩
inductive LeB : Blk → Blk → Prop where
  | refl (b : Blk) : LeB b b
  | dead (b : Blk) : LeB b .dead
  | own {x y : List AV} (h : Levs x y) : LeB (.own x) (.own y)
inductive LeG : List Blk → List Blk → Prop where
  | nil : LeG [] []
  | refl (l : List Blk) : LeG l l
  | cons {x y : Blk} {xs ys : List Blk} (h : LeB x y) (k : LeG xs ys) : LeG (x :: xs) (y :: ys)
theorem LeG.of {l m : List Blk} (h : l = m) : LeG l m := h ▸ .refl l
theorem LeG.length : ∀ {l m : List Blk}, LeG l m → m.length = l.length
  | _, _, .nil => rfl
  | _, _, .refl _ => rfl
  | _, _, .cons _ k => by simp [LeG.length k]
theorem LeG.get : ∀ {l m : List Blk}, LeG l m → ∀ n : Nat, LeB ((l[n]?).getD .dead) ((m[n]?).getD .dead)
  | _, _, .nil, n => .refl _
  | _, _, .refl _, n => .refl _
  | _, _, .cons h k, 0 => by simpa using h
  | _, _, .cons h k, n + 1 => by simpa using LeG.get k n
theorem LeG.snoc {l m : List Blk} (h : LeG l m) {x y : Blk} (k : LeB x y) : LeG (l ++ [x]) (m ++ [y]) := by
  induction h with
  | nil => exact .cons k .nil
  | refl l =>
    induction l with
    | nil => exact .cons k .nil
    | cons z zs ih => exact .cons (.refl z) ih
  | cons h _ ih => exact .cons h ih
inductive LeL (l : List (Nat × List AV)) : List (Nat × List AV) → Prop where
  | nil : LeL l []
  | cons {n : Nat} {cs ds : List AV} {r : List (Nat × List AV)} (h : lget l n = some cs) (k : Levs cs ds) (m : LeL l r) : LeL l ((n, ds) :: r)
theorem LeL.get {l m : List (Nat × List AV)} (h : LeL l m) : ∀ n ds, lget m n = some ds → ∃ cs, lget l n = some cs ∧ Levs cs ds := by
  induction h with
  | nil => intro n ds h; cases h
  | cons h k _ ih =>
    intro n ds hn
    simp only [lget] at hn
    split at hn
    · rename_i e
      subst e
      cases hn
      exact ⟨_, h, k⟩
    · exact ih n ds hn
inductive LeT (T : List (Nat × AV)) : List (Nat × AV) → Prop where
  | nil : LeT T []
  | cons {t : Nat} {v : AV} {r : List (Nat × AV)} (h : Lev (tk T t) v) (k : LeT T r) : LeT T ((t, v) :: r)
theorem LeT.get {T T' : List (Nat × AV)} (h : LeT T T') : ∀ t, Lev (tk T t) (tk T' t) := by
  induction h with
  | nil => exact fun t => .any _
  | @cons d v r h k ih =>
    intro t
    simp only [tk]
    cases e : Nat.beq d t with
    | true =>
      have := Nat.eq_of_beq_eq_true e
      subst this
      exact h
    | false => exact ih t
/-- σ' says no more than σ. -/
structure Le (σ σ' : St) : Prop where
  T : LeT σ.T σ'.T
  g : LeG σ.H.g σ'.H.g
  l : LeL σ.H.l σ'.H.l
theorem Le.get {σ σ' : St} (h : Le σ σ') (i : Id) : LeB (σ.H.get i) (σ'.H.get i) := by
  cases i with
  | g n => exact h.g.get n
  | l n =>
    simp only [Hp.get]
    cases hn : lget σ'.H.l n with
    | none => exact .dead _
    | some ds =>
      obtain ⟨cs, hc, hl⟩ := h.l.get n ds hn
      rw [hc]
      exact .own hl
theorem LeB.alive {b c : Blk} (h : LeB b c) (hc : c.alive = true) : b.alive = true := by
  cases h with
  | refl => exact hc
  | dead => cases hc
  | own => rfl
theorem LeB.isOwn {b c : Blk} (h : LeB b c) (hc : c.isOwn = true) : b.isOwn = true := by
  cases h with
  | refl => exact hc
  | dead => cases hc
  | own => rfl
theorem LeB.levs {b c : Blk} (h : LeB b c) : c = .dead ∨ Levs b.cells c.cells := by
  cases h with
  | refl => exact .inr (.refl _)
  | dead => exact .inl rfl
  | own k => exact .inr k
theorem LeB.get {b c : Blk} (h : LeB b c) (j : Nat) (y : AV) (hj : c.cells[j]? = some y) : ∃ x, b.cells[j]? = some x ∧ Lev x y := by
  rcases h.levs with e | k
  · rw [e] at hj; cases hj
  · exact k.get j y hj
theorem INV.le_ {μ : Id → Option Pl} {a : Act} {w : World} {σ' : St} (h : INV base E μ σ a w) (k : Le σ σ') : INV base E μ σ' a w := by
  refine ⟨fun t => (k.T.get t).1 _ _ (h.tmps t), h.size, h.defers, ⟨fun i hi => ?_, fun i hi b hb => ?_, fun i j hij hi hj => h.heap.apart i j hij ((k.get i).isOwn hi) ((k.get j).alive hj), fun i x hx => ?_, h.heap.old⟩, fun n hn => h.fresh n (by rw [← k.g.length]; exact hn), h.le, h.same, h.kept, fun i hi => h.new i ((k.get i).alive hi), by rw [k.g.length]; exact h.len⟩
  · have hne : (σ.H.get i).cells ≠ [] := fun e => by
      rcases (k.get i).levs with d | d
      · rw [d] at hi; exact hi rfl
      · have := d.length; rw [e] at this; exact hi (List.eq_nil_of_length_eq_zero this)
    obtain ⟨p, hp, hl, hat⟩ := h.heap.there i hne
    refine ⟨p, hp, hl, fun j y hy => ?_⟩
    obtain ⟨x, hx, hlev⟩ := (k.get i).get j y hy
    obtain ⟨z, hz, hv⟩ := hat j x hx
    exact ⟨z, hz, hlev.1 _ _ hv⟩
  · obtain ⟨h1, h2, h3⟩ := h.heap.own i ((k.get i).isOwn hi) b hb
    refine ⟨h1, h2, ?_⟩
    rcases (k.get i).levs with d | d
    · rw [d] at hi; cases hi
    · rw [d.length]; exact h3
  · rcases (k.get i).levs with d | d
    · rw [d] at hx; cases hx
    · obtain ⟨y, hy, hl⟩ := d.mem hx
      exact hl.2 (h.heap.clean i y hy)
theorem CT.weaken {c : Code} {σ' : St} (k : Le σ σ') (h : CT P base E c Q σ') : CT P base E c Q σ := fun μ a w hi => h μ a w (hi.le_ k)
theorem INV.ghost {μ : Id → Option Pl} {a : Act} {w : World} (hi : INV base E μ σ a w) : INV base E μ ⟨σ.T, σ.H.push (.own [])⟩ a w := by
  have hno : μ (.g σ.H.g.length) = none := hi.fresh _ (Nat.le_refl _)
  have hcase : ∀ i, (σ.H.push (.own [])).get i = σ.H.get i ∨ (i = .g σ.H.g.length ∧ (σ.H.push (.own [])).get i = .own []) := fun i => by
    by_cases e : i = .g σ.H.g.length
    · subst e; exact .inr ⟨rfl, get_push_new _ _⟩
    · exact .inl (get_push_ne _ _ e)
  refine ⟨hi.tmps, hi.size, hi.defers, ⟨fun i hc => ?_, fun i hc b hb => ?_, fun i j hij hc hd b e hb he => ?_, fun i x hx => ?_, hi.heap.old⟩, fun n hn => hi.fresh n (by simp [Hp.push] at hn; omega), hi.le, hi.same, hi.kept, fun i hc hne b hb => ?_, by have := hi.len; simp [Hp.push]; omega⟩
  · rcases hcase i with e | ⟨e, f⟩
    · rw [e] at hc ⊢; exact hi.heap.there i hc
    · rw [f] at hc; exact absurd rfl hc
  · rcases hcase i with e | ⟨e, f⟩
    · rw [e] at hc ⊢; exact hi.heap.own i hc b hb
    · rw [e, hno] at hb; cases hb
  · rcases hcase i with e1 | ⟨e1, _⟩
    · rcases hcase j with e2 | ⟨e2, _⟩
      · rw [e1] at hc; rw [e2] at hd; exact hi.heap.apart i j hij hc hd b e hb he
      · rw [e2, hno] at he; cases he
    · rw [e1, hno] at hb; cases hb
  · rcases hcase i with e | ⟨e, f⟩
    · rw [e] at hx; exact hi.heap.clean i x hx
    · rw [f] at hx; cases hx
  · rcases hcase i with e | ⟨e, f⟩
    · rw [e] at hc; exact hi.new i hc hne b hb
    · rw [e, hno] at hb; cases hb
theorem CT.ghost {c : Code} (h : CT P base E c Q ⟨σ.T, σ.H.push (.own [])⟩) : CT P base E c Q σ := fun μ a w hi => h μ a w hi.ghost
/-- A loop: the state is I x at each round's head, for an x that Y lets, and the measure goes down. -/
theorem CT.loop {c : Code} {α : Type} (I : α → St) (Y : α → Prop) (m : α → Nat) (x₀ : α) (h0 : Le σ (I x₀)) (hy : Y x₀) (round : ∀ x, Y x → CT P base E c (nxt (fun σ' => ∃ y, Y y ∧ m y < m x ∧ Le σ' (I y)) Q) (I x)) : CT P base E (.loop c) Q σ := fun μ a w hi => by
  intro b k cs
  have key : ∀ (n : Nat) (x : α) μ a w, m x = n → Y x → INV base E μ (I x) a w →
      ∃ e a' w', (∃ σ' μ', Q e σ' ∧ INV base E μ' σ' a' w') ∧ Arrives P (lone (b.at a (.code c :: .inLoop c :: k)) cs w) b k cs e a' w' := by
    intro n
    induction n using Nat.strongRecOn with
    | _ n ih =>
      intro x μ a w hn hI hi
      obtain ⟨e, a₁, w₁, ⟨s, ν, q, i⟩, harr⟩ := round x hI μ a w hi b (.inLoop c :: k) cs
      cases e with
      | normal =>
        obtain ⟨y, hY, hlt, hle⟩ := q
        obtain ⟨e₂, a₂, w₂, hq₂, harr₂⟩ := ih (m y) (hn ▸ hlt) y ν a₁ w₁ rfl hY (i.le_ hle)
        exact ⟨e₂, a₂, w₂, hq₂, .of_steps (Steps.trans harr (.one step_inLoop)) harr₂⟩
      | exit id => exact ⟨_, a₁, w₁, ⟨s, ν, q, i⟩, .pass (x := .inLoop c) rfl (fun _ _ => .inl (by simp)) harr⟩
      | goto l => exact ⟨_, a₁, w₁, ⟨s, ν, q, i⟩, .pass (x := .inLoop c) rfl (fun _ _ => .inl (by simp)) harr⟩
      | ret => exact ⟨_, a₁, w₁, ⟨s, ν, q, i⟩, .pass (x := .inLoop c) rfl (fun _ _ => .inl (by simp)) harr⟩
      | panic ch => exact ⟨_, a₁, w₁, ⟨s, ν, q, i⟩, .pass (x := .inLoop c) rfl (fun _ _ => .inl (by simp)) harr⟩
      | outgrown => exact ⟨_, a₁, w₁, ⟨s, ν, q, i⟩, .pass (x := .inLoop c) rfl (fun _ _ => .inl (by simp)) harr⟩
  obtain ⟨e, a', w', hq, harr⟩ := key _ x₀ μ a w rfl hy (hi.le_ h0)
  exact ⟨e, a', w', hq, .of_steps (.one step_loop) harr⟩
end
end Go.AH
