/- The picture by value, 3: what holds all through a call; the rules for its code. -/
import Derived.Test.YtdjfhggmcigahaaDoorB2
set_option linter.unusedVariables false
set_option linter.unusedSimpArgs false
namespace Go.BH
open Go.RowKit
/-- A call's plain state: its temporaries (the first entry for a temporary counts; what is not named is unknown), the blocks that it may write, the next name. -/
structure St where
  T : List (Nat × AV)
  H : Hp
  nx : Nat
def tk : List (Nat × AV) → Nat → AV
  | [], _ => .any
  | (d, v) :: r, t => if Nat.beq d t = true then v else tk r t
/-- Where a call began. -/
structure En where
  μ : Mu
  w : World
  may : Nat → Prop
  n : Nat
  m : Nat
  gk : GK μ.ln
/-- What holds all through a call. -/
structure INV (E : En) (μ : Mu) (σ : St) (a : Act) (w : World) : Prop where
  tmps : ∀ t, VR μ (tk σ.T t) (a.tmps.getD t undef)
  size : a.tmps.size = E.n
  defers : a.defers = []
  heap : HR μ σ.H w
  fresh : ∀ i, σ.nx ≤ i → μ.pl i = none
  low : ∀ i cs, hget σ.H i = some cs → i < σ.nx
  kept : Kept E.may E.w w
  may : ∀ i cs p, hget σ.H i = some cs → μ.pl i = some p → E.w.heap.size ≤ p.block ∨ E.may p.block
  fzn : ∀ b cs, μ.fz b = some cs → E.μ.fz b = some cs ∨ E.w.heap.size ≤ b ∨ E.may b
  fzo : ∀ b cs, E.μ.fz b = some cs → μ.fz b = some cs
  lno : μ.ln = E.μ.ln ∧ (∀ i, i < E.m → μ.pl i = E.μ.pl i) ∧ E.m ≤ σ.nx
/-- The code, begun in σ, ends in a way that Q lets. -/
def CT (P : Program) (E : En) (c : Code) (Q : Exit → St → Prop) (σ : St) : Prop :=
  ∀ μ a w, INV E μ σ a w → c.wp P (fun e a' w' => ∃ σ' μ', Q e σ' ∧ INV E μ' σ' a' w') a w
section
variable {P : Program} {E : En} {Q : Exit → St → Prop} {σ : St}
theorem CT.mono {c : Code} {Q' : Exit → St → Prop} (h : CT P E c Q σ) (hq : ∀ e σ, Q e σ → Q' e σ) : CT P E c Q' σ :=
  fun μ a w hi => Code.wp_mono (fun e a w ⟨s, ν, q, i⟩ => ⟨s, ν, hq _ _ q, i⟩) (h μ a w hi)
theorem CT.skip (h : Q .normal σ) : CT P E .skip Q σ := fun μ a w hi => wp_skip ⟨σ, μ, h, hi⟩
theorem CT.exit {id : Nat} (h : Q (.exit id) σ) : CT P E (.exit id) Q σ := fun μ a w hi => wp_exit ⟨σ, μ, h, hi⟩
theorem CT.ret (h : Q .ret σ) : CT P E .ret Q σ := fun μ a w hi => wp_ret ⟨σ, μ, h, hi⟩
/-- What follows a piece of code. -/
def nxt (K : St → Prop) (Q : Exit → St → Prop) : Exit → St → Prop
  | .normal, σ => K σ
  | e, σ => Q e σ
theorem CT.seq {x y : Code} (h : CT P E x (nxt (CT P E y Q) Q) σ) : CT P E (.seq x y) Q σ := fun μ a w hi => by
  refine wp_seq (Code.wp_mono (fun e a w ⟨s, ν, q, i⟩ => ?_) (h μ a w hi))
  cases e with
  | normal => exact q ν a w i
  | _ => exact ⟨s, ν, q, i⟩
def blkQ (id : Nat) (Q : Exit → St → Prop) : Exit → St → Prop
  | .exit j, σ => if j = id then Q .normal σ else Q (.exit j) σ
  | e, σ => Q e σ
theorem CT.block {id : Nat} {c : Code} (h : CT P E c (blkQ id Q) σ) : CT P E (.block id c) Q σ := fun μ a w hi => by
  refine wp_block (Code.wp_mono (fun e a w ⟨s, ν, q, i⟩ => ?_) (h μ a w hi))
  cases e with
  | exit j =>
    simp only [Exit.inBlock]
    simp only [blkQ] at q
    split
    · rw [if_pos ‹_›] at q; exact ⟨s, ν, q, i⟩
    · rw [if_neg ‹_›] at q; exact ⟨s, ν, q, i⟩
  | _ => exact ⟨s, ν, q, i⟩
/-- A loop: J n holds at each round's head, for some n that goes down. -/
theorem CT.loop {c : Code} (J : Nat → St → Prop) (h : ∀ n σ, J n σ → CT P E c (nxt (fun σ' => ∃ m, m < n ∧ J m σ') Q) σ) {n : Nat} (h0 : J n σ) : CT P E (.loop c) Q σ := fun μ a w hi => by
  intro b k cs
  have key : ∀ (n : Nat) (σ : St) μ a w, J n σ → INV E μ σ a w →
      ∃ e a' w', (∃ σ' μ', Q e σ' ∧ INV E μ' σ' a' w') ∧ Arrives P (lone (b.at a (.code c :: .inLoop c :: k)) cs w) b k cs e a' w' := by
    intro n
    induction n using Nat.strongRecOn with
    | _ n ih =>
      intro σ μ a w hJ hi
      obtain ⟨e, a₁, w₁, ⟨s, ν, q, i⟩, harr⟩ := h n σ hJ μ a w hi b (.inLoop c :: k) cs
      cases e with
      | normal =>
        obtain ⟨m, hlt, hJ'⟩ := q
        obtain ⟨e₂, a₂, w₂, hq₂, harr₂⟩ := ih m hlt s ν a₁ w₁ hJ' i
        exact ⟨e₂, a₂, w₂, hq₂, .of_steps (Steps.trans harr (.one step_inLoop)) harr₂⟩
      | exit id => exact ⟨_, a₁, w₁, ⟨s, ν, q, i⟩, .pass (x := .inLoop c) rfl (fun _ _ => .inl (by simp)) harr⟩
      | goto l => exact ⟨_, a₁, w₁, ⟨s, ν, q, i⟩, .pass (x := .inLoop c) rfl (fun _ _ => .inl (by simp)) harr⟩
      | ret => exact ⟨_, a₁, w₁, ⟨s, ν, q, i⟩, .pass (x := .inLoop c) rfl (fun _ _ => .inl (by simp)) harr⟩
      | panic ch => exact ⟨_, a₁, w₁, ⟨s, ν, q, i⟩, .pass (x := .inLoop c) rfl (fun _ _ => .inl (by simp)) harr⟩
      | outgrown => exact ⟨_, a₁, w₁, ⟨s, ν, q, i⟩, .pass (x := .inLoop c) rfl (fun _ _ => .inl (by simp)) harr⟩
  obtain ⟨e, a', w', hq, harr⟩ := key n σ μ a w h0 hi
  exact ⟨e, a', w', hq, .of_steps (.one step_loop) harr⟩
/-- A place's plain value. -/
def St.ev (σ : St) : Operand → AV
  | .tmp t => tk σ.T t
  | .const v => .v v
  | .global _ => .any
  | .func f => .fn (.func f) []
theorem INV.ev {μ : Mu} {a : Act} {w : World} (h : INV E μ σ a w) (x : Operand) : VR μ (σ.ev x) (a.eval x) := by
  cases x with
  | tmp t => exact h.tmps t
  | const v => exact .v v
  | global g => exact .any _
  | func f => exact .fn (m := []) .nil
theorem VR.bool {μ : Mu} {b : Bool} {c : Value} (h : VR μ (.v (.bool b)) c) : c = .bool b := by cases h; rfl
theorem VR.val {μ : Mu} {v c : Value} (h : VR μ (.v v) c) : c = v := by cases h; rfl
theorem CT.cond {o : Operand} {x y : Code} {b : Bool} (hb : σ.ev o = .v (.bool b)) (ht : b = true → CT P E x Q σ) (hf : b = false → CT P E y Q σ) : CT P E (.cond o x y) Q σ := fun μ a w hi => by
  have hv := hi.ev o
  rw [hb] at hv
  exact wp_cond_split hv.bool (fun t => ht t μ a w hi) (fun t => hf t μ a w hi)
end
/-! ### states that say less, under other names -/
mutual
def AV.ren (f : Nat → Nat) : AV → AV
  | .any => .any
  | .v x => .v x
  | .ptr i o => .ptr (f i) o
  | .sl i o n s => .sl (f i) o n s
  | .e0 => .e0
  | .ifs => .ifs
  | .fz l s n xs => .fz l s n (AV.rens f xs)
  | .pfz l xs => .pfz l (AV.rens f xs)
  | .agg cs => .agg (AV.rens f cs)
  | .tup cs => .tup (AV.rens f cs)
  | .fn g cs => .fn g (AV.rens f cs)
def AV.rens (f : Nat → Nat) : List AV → List AV
  | [] => []
  | x :: xs => AV.ren f x :: AV.rens f xs
end
theorem rens_map (f : Nat → Nat) (l : List AV) : AV.rens f l = l.map (AV.ren f) := by
  induction l with
  | nil => rfl
  | cons x xs ih => simp [AV.rens, ih]
theorem rens_length (f : Nat → Nat) (l : List AV) : (AV.rens f l).length = l.length := by rw [rens_map, List.length_map]
mutual
theorem VR.unren {f : Nat → Nat} {μ ν : Mu} (h : ∀ i a, μ.pl (f i) = some a → ν.pl i = some a) (hr : ∀ l b cs, μ.rd l b = some cs → ν.rd l b = some cs) : ∀ {x : AV} {c : Value}, VR μ (x.ren f) c → VR ν x c
  | .any, _, _ => .any _
  | .v x, _, k => by cases k; exact .v x
  | .ptr n o, _, k => by
    cases k with
    | ptr k => exact .ptr (h _ _ k)
  | .sl n o m s, _, k => by
    simp only [AV.ren] at k
    cases k with
    | sl k hc he => exact .sl (h _ _ k) hc he
    | sl0 a => exact .sl0 a
  | .e0, _, k => by cases k; exact .e0 _
  | .ifs, _, k => by cases k; exact .ifs _ _
  | .fz l s n xs, _, k => by
    simp only [AV.ren] at k
    generalize hx : AV.rens f xs = ys at k
    cases k with
    | fz k hl hc m =>
      subst hx
      rw [rens_length] at hl
      exact .fz (hr _ _ _ k) hl hc (VRs.unren h hr m)
    | fz0 A c =>
      cases xs with
      | nil => exact .fz0 A c
      | cons x xs => simp [AV.rens] at hx
  | .pfz l xs, _, k => by
    simp only [AV.ren] at k
    cases k with
    | pfz k m =>
      rw [rens_length] at m
      exact .pfz (hr _ _ _ k) (VRs.unren h hr m)
  | .agg cs, _, k => by
    cases k with
    | agg k => exact .agg (VRs.unren h hr k)
  | .tup cs, _, k => by
    cases k with
    | tup k => exact .tup (VRs.unren h hr k)
  | .fn g y, _, k => by
    cases k with
    | fn m => exact .fn (VRs.unren h hr m)
theorem VRs.unren {f : Nat → Nat} {μ ν : Mu} (h : ∀ i a, μ.pl (f i) = some a → ν.pl i = some a) (hr : ∀ l b cs, μ.rd l b = some cs → ν.rd l b = some cs) : ∀ {x : List AV} {c : List Value}, VRs μ (AV.rens f x) c → VRs ν x c
  | [], _, k => by cases k; exact .nil
  | x :: xs, _, k => by
    cases k with
    | cons k m => exact .cons (VR.unren h hr k) (VRs.unren h hr m)
end
/-- New name i is old name rs[i]. -/
def Mu.sel (μ : Mu) (rs : List Nat) : Mu := ⟨fun i => match rs[i]? with
  | some j => μ.pl j
  | none => none, μ.fz, μ.ln⟩
theorem Mu.sel_rd (μ : Mu) (rs : List Nat) (l : Bool) : (μ.sel rs).rd l = μ.rd l := by cases l <;> rfl
/-- σ says what σ' says, new name i being old name rs[i]. -/
structure Sel (m : Nat) (rs : List Nat) (σ σ' : St) : Prop where
  T : ∀ μ : Mu, (∀ i, σ.nx ≤ i → μ.pl i = none) → ∀ t c, VR μ (tk σ.T t) c → VR (μ.sel rs) (tk σ'.T t) c
  H : ∀ i cs', hget σ'.H i = some cs' → ∃ j cs, rs[i]? = some j ∧ hget σ.H j = some cs ∧ cs'.length = cs.length ∧ ∀ μ : Mu, (∀ i, σ.nx ≤ i → μ.pl i = none) → ∀ (k : Nat) (x' : AV), cs'[k]? = some x' → ∃ x, cs[k]? = some x ∧ ∀ c, VR μ x c → VR (μ.sel rs) x' c
  inj : ∀ i i' j cs cs', hget σ'.H i = some cs → hget σ'.H i' = some cs' → rs[i]? = some j → rs[i']? = some j → i = i'
  nx : σ'.nx = rs.length
  same : ∀ i, i < m → rs[i]? = some i
  le : m ≤ rs.length
section
variable {P : Program} {E : En} {Q : Exit → St → Prop} {σ : St}
theorem INV.sel {μ : Mu} {a : Act} {w : World} {rs : List Nat} {σ' : St} (h : INV E μ σ a w) (k : Sel E.m rs σ σ') : INV E (μ.sel rs) σ' a w := by
  have hpl : ∀ i a, (μ.sel rs).pl i = some a → ∃ j, rs[i]? = some j ∧ μ.pl j = some a := fun i a h => by
    simp only [Mu.sel] at h
    split at h
    · rename_i j e; exact ⟨j, e, h⟩
    · cases h
  have hpl' : ∀ i j, rs[i]? = some j → (μ.sel rs).pl i = μ.pl j := fun i j e => by simp [Mu.sel, e]
  refine ⟨fun t => k.T μ h.fresh t _ (h.tmps t), h.size, h.defers, ⟨fun i cs' hi p hp => ?_, fun i cs' hi hne => ?_, fun i i' cs cs' hne hi hi' p q hp hq => ?_, fun l b cs hl => ?_, fun i cs p hi hp l => ?_⟩, fun i hi => ?_, fun i cs' hi => ?_, h.kept, fun i cs' p hi hp => ?_, h.fzn, h.fzo, h.lno.1, fun i hi => (hpl' i i (k.same i hi)).trans (h.lno.2.1 i hi), by rw [k.nx]; exact k.le⟩
  · obtain ⟨j, cs, e, hj, hlen, hv⟩ := k.H i cs' hi
    rw [hpl' i j e] at hp
    obtain ⟨c, t, g1, g2, g3, g4⟩ := h.heap.own j cs hj p hp
    refine ⟨c, t, g1, g2, by omega, fun m x' hm => ?_⟩
    obtain ⟨x, hx, hvx⟩ := hv μ h.fresh m x' hm
    obtain ⟨y, hy, hvy⟩ := g4 m x hx
    exact ⟨y, hy, hvx _ hvy⟩
  · obtain ⟨j, cs, e, hj, hlen, hv⟩ := k.H i cs' hi
    rw [hpl' i j e]
    refine h.heap.there j cs hj (fun e0 => hne ?_)
    subst e0
    exact List.eq_nil_of_length_eq_zero (by simpa using hlen)
  · obtain ⟨j, ds, e, hj, _⟩ := k.H i cs hi
    obtain ⟨j', ds', e', hj', _⟩ := k.H i' cs' hi'
    rw [hpl' i j e] at hp
    rw [hpl' i' j' e'] at hq
    exact h.heap.apart j j' ds ds' (fun g => hne (k.inj i i' j cs cs' hi hi' e (by rw [g]; exact e'))) hj hj' p q hp hq
  · rw [Mu.sel_rd] at hl
    exact h.heap.rd l b cs hl
  · rw [Mu.sel_rd]
    obtain ⟨j, ds, e, hj, _⟩ := k.H i cs hi
    rw [hpl' i j e] at hp
    exact h.heap.far j ds p hj hp l
  · rw [k.nx] at hi
    simp only [Mu.sel]
    rw [List.getElem?_eq_none hi]
  · obtain ⟨j, ds, e, hj, _⟩ := k.H i cs' hi
    rw [k.nx]
    rcases Nat.lt_or_ge i rs.length with g | g
    · exact g
    · rw [List.getElem?_eq_none g] at e; cases e
  · obtain ⟨j, ds, e, hj, _⟩ := k.H i cs' hi
    rw [hpl' i j e] at hp
    exact h.may j ds p hj hp
/-- Code begun in a state that says less. -/
theorem CT.sel {c : Code} {rs : List Nat} {σ' : St} (k : Sel E.m rs σ σ') (h : CT P E c Q σ') : CT P E c Q σ := fun μ a w hi => h _ a w (hi.sel k)
/-- A change of what is known that the world does not see. -/
def Gh (E : En) (σ σ' : St) : Prop := ∀ μ a w, INV E μ σ a w → ∃ μ', INV E μ' σ' a w ∧ Sub μ μ'
theorem Gh.refl (σ : St) : Gh E σ σ := fun μ a w h => ⟨μ, h, .refl μ⟩
theorem Gh.trans {σ σ' σ'' : St} (h : Gh E σ σ') (k : Gh E σ' σ'') : Gh E σ σ'' := fun μ a w hi => by
  obtain ⟨μ1, h1, s1⟩ := h μ a w hi
  obtain ⟨μ2, h2, s2⟩ := k μ1 a w h1
  exact ⟨μ2, h2, s1.trans s2⟩
theorem CT.gh {c : Code} {σ' : St} (k : Gh E σ σ') (h : CT P E c Q σ') : CT P E c Q σ := fun μ a w hi => by
  obtain ⟨μ', hi', _⟩ := k μ a w hi
  exact h μ' a w hi'
end
end Go.BH
