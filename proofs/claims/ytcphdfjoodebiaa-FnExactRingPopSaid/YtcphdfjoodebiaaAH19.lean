/- The plain picture of a call's memory, 19: blocks that are no longer named are dropped; loops that leave such; append by type facts. -/
import Derived.Test.YtcphdfjoodebiaaAH18
set_option linter.unusedVariables false
set_option linter.unusedSimpArgs false
namespace Go.AH
open Go.RowKit
mutual
/-- Only blocks below m are named. -/
def AV.bel (m : Nat) : AV → Bool
  | .ptr (.g n) _ => Nat.blt n m
  | .sl (.g n) _ _ _ => Nat.blt n m
  | .agg cs => AV.bels m cs
  | .tup cs => AV.bels m cs
  | .fn _ x y => AV.bels m x && AV.bels m y
  | _ => true
def AV.bels (m : Nat) : List AV → Bool
  | [] => true
  | x :: xs => AV.bel m x && AV.bels m xs
end
theorem bels_iff {m : Nat} {l : List AV} : AV.bels m l = true ↔ ∀ x ∈ l, x.bel m = true := by
  induction l with
  | nil => simp [AV.bels]
  | cons x xs ih => simp [AV.bels, ih]
theorem bels_vals (m : Nat) (c : List Value) : AV.bels m (vals c) = true := bels_iff.2 (fun x hx => by
  simp only [vals, List.mem_map] at hx
  obtain ⟨v, _, rfl⟩ := hx
  rfl)
theorem noIs_vals (i : Id) (c : List Value) : AV.noIs i (vals c) = true := noIs_iff.2 (fun x hx => by
  simp only [vals, List.mem_map] at hx
  obtain ⟨v, _, rfl⟩ := hx
  rfl)
def cutM (μ : Id → Option Pl) (m : Nat) : Id → Option Pl
  | .g n => if n < m then μ (.g n) else none
  | .l n => μ (.l n)
theorem cutM_some {μ : Id → Option Pl} {m : Nat} {i : Id} {a : Pl} (h : cutM μ m i = some a) : μ i = some a := by
  cases i with
  | l n => exact h
  | g n =>
    simp only [cutM] at h
    split at h
    · exact h
    · cases h
mutual
theorem VR.bel {μ : Id → Option Pl} {m : Nat} : ∀ {x : AV} {c : Value}, x.bel m = true → VR μ x c → VR (cutM μ m) x c
  | _, _, _, .any c => .any c
  | _, _, _, .v x => .v x
  | _, _, n, .ptr (i := .g _) k => .ptr (by simp only [AV.bel, Nat.blt_eq] at n; simpa [cutM, n] using k)
  | _, _, n, .ptr (i := .l _) k => .ptr k
  | _, _, n, .sl (i := .g _) k hc he => .sl (by simp only [AV.bel, Nat.blt_eq] at n; simpa [cutM, n] using k) hc he
  | _, _, n, .sl (i := .l _) k hc he => .sl (i := .l _) k hc he
  | _, _, _, .sl0 a => .sl0 a
  | _, _, _, .nl => .nl
  | _, _, _, .e0 a => .e0 a
  | _, _, n, .agg k => .agg (VRs.bel (by simpa [AV.bel] using n) k)
  | _, _, n, .tup k => .tup (VRs.bel (by simpa [AV.bel] using n) k)
  | _, _, n, .fn k m => .fn (VRs.bel (by simp [AV.bel] at n; exact n.1) k) (VRs.bel (by simp [AV.bel] at n; exact n.2) m)
theorem VRs.bel {μ : Id → Option Pl} {m : Nat} : ∀ {x : List AV} {c : List Value}, AV.bels m x = true → VRs μ x c → VRs (cutM μ m) x c
  | _, _, _, .nil => .nil
  | _, _, n, .cons k l => .cons (VR.bel (by simp [AV.bels] at n; exact n.1) k) (VRs.bel (by simp [AV.bels] at n; exact n.2) l)
end
def belT (m : Nat) : List (Nat × AV) → Bool
  | [] => true
  | p :: r => AV.bel m p.2 && belT m r
theorem belT_tk {m : Nat} : ∀ {T : List (Nat × AV)}, belT m T = true → ∀ t, (tk T t).bel m = true
  | [], _, _ => rfl
  | (d, v) :: r, h, t => by
    simp only [belT, Bool.and_eq_true] at h
    simp only [tk]
    cases Nat.beq d t with
    | true => exact h.1
    | false => exact belT_tk h.2 t
inductive BelG (m : Nat) : List Blk → Prop where
  | nil : BelG m []
  | cons {b : Blk} {r : List Blk} (h : AV.bels m b.cells = true) (k : BelG m r) : BelG m (b :: r)
inductive BelL (m : Nat) : List (Nat × List AV) → Prop where
  | nil : BelL m []
  | cons {p : Nat × List AV} {r : List (Nat × List AV)} (h : AV.bels m p.2 = true) (k : BelL m r) : BelL m (p :: r)
theorem BelG.get {m : Nat} : ∀ {l : List Blk}, BelG m l → ∀ n : Nat, ∀ x ∈ ((l[n]?).getD .dead).cells, x.bel m = true
  | _, .nil, n, x, h => by simp [Blk.cells] at h
  | _, .cons h k, 0, x, hx => bels_iff.1 h x (by simpa using hx)
  | _, .cons h k, n + 1, x, hx => k.get n x (by simpa using hx)
theorem BelL.get {m : Nat} : ∀ {l : List (Nat × List AV)}, BelL m l → ∀ n cs, lget l n = some cs → ∀ x ∈ cs, x.bel m = true
  | _, .nil, n, cs, h => by cases h
  | _, .cons (p := (k', ds)) h k, n, cs, hl => by
    simp only [lget] at hl
    split at hl
    · cases hl; exact bels_iff.1 h
    · exact k.get n cs hl
section
variable {P : Program} {base : Nat} {E : En} {σ : St} {o : Oper} {kp : Id → Bool} {Q : Exit → St → Prop}
theorem INV.drop {μ : Id → Option Pl} {a : Act} {w : World} {T : List (Nat × AV)} {g X : List Blk} {l : List (Nat × List AV)} (hi : INV base E μ ⟨T, ⟨g ++ X, l⟩⟩ a w) (hE : E.g.length ≤ g.length) (hT : belT g.length T = true) (hG : BelG g.length g) (hL : BelL g.length l) : INV base E (cutM μ g.length) ⟨T, ⟨g, l⟩⟩ a w := by
  have hget : ∀ i, ((⟨g, l⟩ : Hp).get i).alive = true → (⟨g ++ X, l⟩ : Hp).get i = (⟨g, l⟩ : Hp).get i ∧ cutM μ g.length i = μ i := fun i h => by
    cases i with
    | l n => exact ⟨rfl, rfl⟩
    | g n =>
      simp only [Hp.get] at h ⊢
      rcases Nat.lt_or_ge n g.length with hn | hn
      · rw [List.getElem?_append_left hn]
        exact ⟨rfl, by simp [cutM, hn]⟩
      · rw [List.getElem?_eq_none hn] at h
        cases h
  have hbel : ∀ i, ∀ x ∈ ((⟨g, l⟩ : Hp).get i).cells, x.bel g.length = true := fun i x hx => by
    cases i with
    | g n => exact hG.get n x hx
    | l n =>
      simp only [Hp.get] at hx
      cases e : lget l n with
      | none => rw [e] at hx; cases hx
      | some cs => rw [e] at hx; exact hL.get n cs e x hx
  have hali : ∀ b : Blk, b.cells ≠ [] → b.alive = true := fun b h => by cases b <;> simp_all [Blk.cells, Blk.alive]
  have hown : ∀ b : Blk, b.isOwn = true → b.alive = true := fun b h => by cases b <;> simp_all [Blk.isOwn, Blk.alive]
  refine ⟨fun t => (hi.tmps t).bel (belT_tk hT t), hi.size, hi.defers, ⟨fun i h => ?_, fun i h b hb => ?_, fun i j hij h h' b d hb hd => ?_, fun i x hx => ?_, fun i b hb => hi.heap.old i b (cutM_some hb)⟩, fun n hn => ?_, hi.le, fun n hn => ?_, hi.kept, fun i h hne b hb => ?_, hE⟩
  · obtain ⟨e1, e2⟩ := hget i (hali _ h)
    obtain ⟨p, hp, hl, hat⟩ := hi.heap.there i (by rw [e1]; exact h)
    rw [e1] at hat
    exact ⟨p, by rw [e2]; exact hp, hl, fun j x hx => by
      obtain ⟨y, hy, hv⟩ := hat j x hx
      exact ⟨y, hy, hv.bel (hbel i x (List.mem_of_getElem? hx))⟩⟩
  · obtain ⟨e1, e2⟩ := hget i (hown _ h)
    have := hi.heap.own i (by rw [e1]; exact h) b (cutM_some hb)
    rw [e1] at this
    exact this
  · obtain ⟨e1, _⟩ := hget i (hown _ h)
    obtain ⟨e2, _⟩ := hget j h'
    exact hi.heap.apart i j hij (by rw [e1]; exact h) (by rw [e2]; exact h') b d (cutM_some hb) (cutM_some hd)
  · have := hi.heap.clean i x
    rw [(hget i (hali _ (fun e => by rw [e] at hx; cases hx))).1] at this
    exact this hx
  · have : ¬ n < g.length := Nat.not_lt.2 hn
    simp [cutM, this]
  · have : n < g.length := Nat.lt_of_lt_of_le hn hE
    simp only [cutM, this, if_true]
    exact hi.same n hn
  · exact hi.new i (by rw [(hget i h).1]; exact h) hne b (cutM_some hb)
/-- σ' says no more than σ, and names fewer blocks. -/
def Dr (E : En) (σ σ' : St) : Prop := ∃ X, Le σ ⟨σ'.T, ⟨σ'.H.g ++ X, σ'.H.l⟩⟩ ∧ E.g.length ≤ σ'.H.g.length ∧ belT σ'.H.g.length σ'.T = true ∧ BelG σ'.H.g.length σ'.H.g ∧ BelL σ'.H.g.length σ'.H.l
theorem INV.dr {μ : Id → Option Pl} {a : Act} {w : World} {σ' : St} (hi : INV base E μ σ a w) (h : Dr E σ σ') : ∃ μ', INV base E μ' σ' a w := by
  obtain ⟨X, h1, h2, h3, h4, h5⟩ := h
  exact ⟨_, (hi.le_ h1).drop h2 h3 h4 h5⟩
/-- A loop whose rounds may leave blocks that are no longer named. -/
theorem CT.loopD {c : Code} {α : Type} (I : α → St) (Y : α → Prop) (m : α → Nat) (x₀ : α) (h0 : Le σ (I x₀)) (hy : Y x₀) (round : ∀ x, Y x → CT P base E c (nxt (fun σ' => ∃ y, Y y ∧ m y < m x ∧ Dr E σ' (I y)) Q) (I x)) : CT P base E (.loop c) Q σ := fun μ a w hi => by
  intro b k cs
  have key : ∀ (n : Nat) (x : α) μ a w, m x = n → Y x → INV base E μ (I x) a w →
      ∃ e a' w', (∃ σ' μ', Q e σ' ∧ INV base E μ' σ' a' w') ∧ Arrives P (lone (b.at a (.code c :: .inLoop c :: k)) cs w) b k cs e a' w' := by
    intro n
    induction n using Nat.strongRecOn with
    | _ n ih =>
      intro x μ a w hn hI hi
      obtain ⟨e, a₁, w₁, ⟨s, ν, q, i⟩, harr⟩ := round x hI μ a w hi b (.inLoop c :: k) cs
      cases e with
      | normal =>
        obtain ⟨y, hY, hlt, hle⟩ := q
        obtain ⟨ν', i'⟩ := i.dr hle
        obtain ⟨e₂, a₂, w₂, hq₂, harr₂⟩ := ih (m y) (hn ▸ hlt) y ν' a₁ w₁ rfl hY i'
        exact ⟨e₂, a₂, w₂, hq₂, .of_steps (Steps.trans harr (.one step_inLoop)) harr₂⟩
      | exit id => exact ⟨_, a₁, w₁, ⟨s, ν, q, i⟩, .pass (x := .inLoop c) rfl (fun _ _ => .inl (by simp)) harr⟩
      | goto l => exact ⟨_, a₁, w₁, ⟨s, ν, q, i⟩, .pass (x := .inLoop c) rfl (fun _ _ => .inl (by simp)) harr⟩
      | ret => exact ⟨_, a₁, w₁, ⟨s, ν, q, i⟩, .pass (x := .inLoop c) rfl (fun _ _ => .inl (by simp)) harr⟩
      | panic ch => exact ⟨_, a₁, w₁, ⟨s, ν, q, i⟩, .pass (x := .inLoop c) rfl (fun _ _ => .inl (by simp)) harr⟩
      | outgrown => exact ⟨_, a₁, w₁, ⟨s, ν, q, i⟩, .pass (x := .inLoop c) rfl (fun _ _ => .inl (by simp)) harr⟩
  obtain ⟨e, a', w', hq, harr⟩ := key _ x₀ μ a w rfl hy (hi.le_ h0)
  exact ⟨e, a', w', hq, .of_steps (.one step_loop) harr⟩
/-- Code begun in a state that names fewer blocks. -/
theorem CT.dr {c : Code} {σ' : St} (k : Dr E σ σ') (h : CT P base E c Q σ') : CT P base E c Q σ := fun μ a w hi => by
  obtain ⟨ν, i⟩ := hi.dr k
  exact h ν a w i
/-- What is appended: the whole of a block of plain values, or nothing. -/
inductive SrcV (σ : St) (s : Nat) : AV → Nat → List Value → Prop where
  | all {j : Id} {m : Nat} {news : List Value} (h : (σ.H.get j).cells = vals news) (hl : news.length = m * s) : SrcV σ s (.sl j 0 m s) m news
  | nil : SrcV σ s (.v (.slice none 0 0)) 0 []
  | e0 : SrcV σ s .e0 0 []
theorem SrcV.src {σ : St} {s m : Nat} {x : AV} {news : List Value} (h : SrcV σ s x m news) : Src σ s x m (vals news) := by
  cases h with
  | all h hl =>
    have := Src.sl (σ := σ) (s := s) (m := m) (k := 0) (i := by assumption) (by rw [h]; simp [vals, hl])
    rw [h, List.drop_zero, List.take_of_length_le (by simp [vals, hl])] at this
    exact this
  | nil => exact .nil
  | e0 => exact .e0
def CleanI (H : Hp) (i : Id) : Prop := (∀ b ∈ H.g, AV.noIs i b.cells = true) ∧ (∀ p ∈ H.l, AV.noIs i p.2 = true)
theorem CleanI.get {H : Hp} {i : Id} (h : CleanI H i) (j : Id) : ∀ x ∈ (H.get j).cells, x.noI i = true := fun x hx => by
  cases j with
  | g n =>
    simp only [Hp.get] at hx
    cases e : H.g[n]? with
    | none => rw [e] at hx; cases hx
    | some b => rw [e] at hx; exact noIs_iff.1 (h.1 b (List.mem_of_getElem? e)) x hx
  | l n =>
    simp only [Hp.get] at hx
    cases e : lget H.l n with
    | none => rw [e] at hx; cases hx
    | some cs =>
      rw [e] at hx
      have hm : ∀ (l : List (Nat × List AV)), lget l n = some cs → (n, cs) ∈ l := by
        intro l
        induction l with
        | nil => intro h; cases h
        | cons p r ih =>
          obtain ⟨k, ds⟩ := p
          intro h
          simp only [lget] at h
          split at h
          · rename_i e; cases h; subst e; exact List.mem_cons_self
          · exact List.mem_cons_of_mem _ (ih h)
      exact noIs_iff.1 (h.2 _ (hm _ e)) x hx
theorem OX.app {t e : TypeId} {T F : Ty} {x y : Operand} {i : Id} {n m : Nat} {cs news : List Value} {R : AV → St → Prop} (ho : o.op = .call ⟨.builtin .append, #[x, y], #[t, t]⟩) (hT : tyOf P t = some T) (hk : T.kind = .slice e) (hF : tyOf P e = some F) (hz : F.zero.length = F.size) (h0 : F.size ≠ 0) (hx : σ.ev x = .sl i 0 n F.size) (hg : σ.H.get i = .own (vals cs)) (hcs : cs.length = n * F.size) (hmine : E.mine i) (hy : SrcV σ F.size (σ.ev y) m news) (hones : onesB (vals news) = true)
    (hoth : CleanI σ.H i) (hm : n + m < 9223372036854775808) (hb : (n + m) * F.bytes ≤ 140737488355328) (hkp : ∀ j, kp j = true → (σ.H.get j).alive = true ∧ j ≠ i) (hR : R (.sl i 0 (n + m) F.size) ⟨killI i σ.T, σ.H.put i (vals (cs ++ news))⟩) : OX P base E kp o σ R := by
  obtain ⟨d, info, z, hu, hi, hz', rfl⟩ := tyOf_spec hT
  obtain ⟨d', info', z', hu', hi', hz'', rfl⟩ := tyOf_spec hF
  simp only at hk hz h0 hx hcs hy hb hR
  rw [kindD_slice hk] at hu
  have hva : vals (cs ++ news) = vals cs ++ vals news := by simp [vals]
  rw [hva] at hR
  refine (OS.appendTo (base := base) (E := E) (σ := σ) (kp := kp) ho hu hi' hz'' (by simpa using hz) h0 hx hg (by simpa [vals] using hcs) hmine hy.src hones ?_ (fun j _ => hoth.get j) hm hb hkp).ox hR
  intro v hv
  rw [← hva] at hv
  exact noIs_iff.1 (noIs_vals i (cs ++ news)) v hv
theorem OX.appNew {t e : TypeId} {T F : Ty} {x y : Operand} {m : Nat} {news : List Value} {R : AV → St → Prop} (ho : o.op = .call ⟨.builtin .append, #[x, y], #[t, t]⟩) (hT : tyOf P t = some T) (hk : T.kind = .slice e) (hF : tyOf P e = some F) (hz : F.zero.length = F.size) (h0 : F.size ≠ 0) (hx : σ.ev x = .v (.slice none 0 0) ∨ σ.ev x = .e0) (hy : SrcV σ F.size (σ.ev y) m news) (hones : onesB (vals news) = true) (hm : m < 9223372036854775808) (hb : m * F.bytes ≤ 140737488355328)
    (hR : R (.sl (.g σ.H.g.length) 0 m F.size) ⟨σ.T, ⟨σ.H.g ++ [.own (vals news)], σ.H.l⟩⟩) : OX P base E kp o σ R := by
  obtain ⟨d, info, z, hu, hi, hz', rfl⟩ := tyOf_spec hT
  obtain ⟨d', info', z', hu', hi', hz'', rfl⟩ := tyOf_spec hF
  simp only at hk hz h0 hy hb hR
  rw [kindD_slice hk] at hu
  exact (OS.appendNew (base := base) (E := E) (σ := σ) (kp := kp) ho hu hi' hz'' (by simpa using hz) h0 hx hy.src hones hm hb).ox hR
end
end Go.AH
