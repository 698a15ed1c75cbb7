/- Reckoning with trees. -/
import Derived.Test.YtdjfhggmcigahaaDoorB31
set_option linter.unusedVariables false
set_option linter.unusedSimpArgs false
namespace Go.BH
open Go.RowKit
/-! ### a larger bound changes nothing -/
def Sube (Φ Ψ : Fns) : Prop := ∀ f vs ws, Φ f vs = some ws → Ψ f vs = some ws
theorem runNd_mono {Φ Ψ : Fns} (h : Sube Φ Ψ) {n : Nd} {env ds : List D} (hr : runNd Φ n env = some ds) : runNd Ψ n env = some ds := by
  cases n with
  | pr p xs => exact hr
  | call f xs ps tys => exact h _ _ _ hr
theorem iter_mono {f g : List D → Option (Nat × List D)} (h : ∀ vs o, f vs = some o → g vs = some o) : ∀ {k k' : Nat} {vs : List D} {o : Nat × List D}, k ≤ k' → iter f k vs = some o → iter g k' vs = some o
  | 0, _, _, _, _, h => by cases h
  | k + 1, 0, _, _, hk, _ => by omega
  | k + 1, k' + 1, vs, o, hk, hi => by
    simp only [iter] at hi ⊢
    cases hf : f vs with
    | none => rw [hf] at hi; cases hi
    | some q =>
      rw [hf] at hi
      rw [h _ _ hf]
      obtain ⟨e, ws⟩ := q
      cases e with
      | zero => exact iter_mono h (by omega) hi
      | succ e => exact hi
theorem den_mono {Φ Ψ : Fns} (h : Sube Φ Ψ) {k k' : Nat} (hk : k ≤ k') : ∀ {t : Tr} {env : List D} {o : Nat × List D}, t.den Φ k env = some o → t.den Ψ k' env = some o
  | .out e xs, env, o, hd => hd
  | .nd n t, env, o, hd => by
    simp only [Tr.den] at hd ⊢
    cases hr : runNd Φ n env with
    | none => rw [hr] at hd; cases hd
    | some ds =>
      rw [hr] at hd
      rw [runNd_mono h hr]
      exact den_mono h hk hd
  | .ite a t f, env, o, hd => by
    simp only [Tr.den] at hd ⊢
    split at hd
    · exact den_mono h hk hd
    · exact den_mono h hk hd
    · cases hd
  | .seq ps a b, env, o, hd => by
    simp only [Tr.den] at hd ⊢
    cases ha : a.den Φ k env with
    | none => rw [ha] at hd; cases hd
    | some q =>
      rw [ha] at hd
      rw [den_mono h hk ha]
      obtain ⟨e, vs⟩ := q
      cases e with
      | zero => exact den_mono h hk hd
      | succ e => exact hd
  | .loop ps xs b, env, o, hd => by
    simp only [Tr.den] at hd ⊢
    exact iter_mono (fun vs o hb => den_mono h hk hb) hk hd
  | .blk e ps a b, env, o, hd => by
    simp only [Tr.den] at hd ⊢
    cases ha : a.den Φ k env with
    | none => rw [ha] at hd; cases hd
    | some q =>
      rw [ha] at hd
      rw [den_mono h hk ha]
      obtain ⟨e', vs⟩ := q
      cases e' with
      | zero => exact den_mono h hk hd
      | succ e' =>
        simp only at hd ⊢
        split at hd
        · rename_i hb
          rw [if_pos hb]
          exact den_mono h hk hd
        · rename_i hb
          rw [if_neg hb]
          exact hd
  | .both a t f, env, o, hd => by
    simp only [Tr.den] at hd ⊢
    split at hd
    · rename_i hb
      rw [if_pos hb]
      obtain ⟨h1, h2⟩ := agree_some hd
      rw [den_mono h hk h1, den_mono h hk h2, agree_self]
    · rename_i hb
      rw [if_neg hb]
      exact den_mono h hk hd
theorem semF_mono {fes : List Fe} : ∀ {k k' : Nat}, k ≤ k' → Sube (semF fes k) (semF fes k')
  | 0, _, _ => fun f vs ws h => by cases h
  | k + 1, 0, hk => by omega
  | k + 1, k' + 1, hk => fun f vs ws h => by
    simp only [semF] at h ⊢
    split at h
    · rename_i fe hfe
      split at h
      · rename_i t ht
        cases hd : t.den (semF fes k) k (envA fe.sig vs) with
        | none => rw [hd] at h; cases h
        | some o =>
          rw [hd] at h
          rw [den_mono (semF_mono (by omega)) (by omega) hd]
          exact h
      · exact h
    · cases h
/-- What is reckoned at one bound holds. -/
theorem EvF.at {fes : List Fe} {i : Nat} {vs ws : List D} (k : Nat) (h : semF fes k i vs = some ws) : EvF fes i vs ws := ⟨k, fun n hn => semF_mono hn _ _ _ h⟩
/-! ### what a tree asks -/
def LW (fes : List Fe) (b : Tr) (env vs : List D) (Q : Nat → List D → Prop) : Prop := ∃ e ws, EvI fes b env vs (e, ws) ∧ Q e ws
def CW (fes : List Fe) (f : Nat) (vs : List D) (K : List D → Prop) : Prop := ∃ ds, EvF fes f vs ds ∧ K ds
/-- There is a value, and K holds of it. -/
def Wm (o : Option D) (K : D → Prop) : Prop := match o with
  | some d => K d
  | none => False
def W (fes : List Fe) : Tr → List D → (Nat → List D → Prop) → Prop
  | .out e xs, env, Q => Q e (xs.map (At.den env))
  | .nd (.pr p xs) t, env, Q => Wm (p.eval (xs.map (At.den env))) (fun d => W fes t (env ++ [d]) Q)
  | .nd (.call f xs _ _) t, env, Q => CW fes f (xs.map (At.den env)) (fun ds => W fes t (env ++ ds) Q)
  | .ite a t f, env, Q => match a.den env with
    | .b c => if c = true then W fes t env Q else W fes f env Q
    | _ => False
  | .seq _ a b, env, Q => W fes a env (fun e vs => if e = 0 then W fes b (env ++ vs) Q else Q e vs)
  | .loop _ xs b, env, Q => LW fes b env (xs.map (At.den env)) Q
  | .blk e _ a b, env, Q => W fes a env (fun e' vs => if e' = 0 ∨ e' = e then W fes b (env ++ vs) Q else Q e' vs)
  | .both a t f, env, Q => if (a.den env).isE = true then ∃ e ws, W fes t env (fun e' ws' => e' = e ∧ ws' = ws) ∧ W fes f env (fun e' ws' => e' = e ∧ ws' = ws) ∧ Q e ws else W fes f env Q
section
variable {fes : List Fe}
theorem W.ev : ∀ {t : Tr} {env : List D} {Q : Nat → List D → Prop}, W fes t env Q → ∃ e vs, Ev fes t env (e, vs) ∧ Q e vs
  | .out e xs, env, Q, h => ⟨e, _, .out rfl, h⟩
  | .nd (.pr p xs) t, env, Q, h => by
    unfold W Wm at h
    split at h
    · rename_i d hd
      obtain ⟨e, vs, h1, h2⟩ := W.ev h
      exact ⟨e, vs, .pr hd h1, h2⟩
    · cases h
  | .nd (.call f xs _ _) t, env, Q, h => by
    unfold W at h
    obtain ⟨ds, hd, h⟩ := h
    obtain ⟨e, vs, h1, h2⟩ := W.ev h
    exact ⟨e, vs, .call hd h1, h2⟩
  | .ite a t f, env, Q, h => by
    unfold W at h
    split at h
    · rename_i c hc
      split at h
      · rename_i g
        subst g
        obtain ⟨e, vs, h1, h2⟩ := W.ev h
        exact ⟨e, vs, .iteT hc h1, h2⟩
      · rename_i g
        obtain ⟨e, vs, h1, h2⟩ := W.ev h
        exact ⟨e, vs, .iteF (by rw [hc]; simpa using g) h1, h2⟩
    · cases h
  | .seq ps a b, env, Q, h => by
    unfold W at h
    obtain ⟨e, vs, h1, h2⟩ := W.ev h
    cases e with
    | zero =>
      rw [if_pos rfl] at h2
      obtain ⟨e, ws, h3, h4⟩ := W.ev h2
      exact ⟨e, ws, .seq h1 h3, h4⟩
    | succ e =>
      rw [if_neg (by omega)] at h2
      exact ⟨_, vs, .seqX h1, h2⟩
  | .loop ps xs b, env, Q, h => by
    unfold W at h
    obtain ⟨e, ws, h1, h2⟩ := h
    exact ⟨e, ws, .loop rfl h1, h2⟩
  | .blk n ps a b, env, Q, h => by
    unfold W at h
    obtain ⟨e, vs, h1, h2⟩ := W.ev h
    cases e with
    | zero =>
      rw [if_pos (.inl rfl)] at h2
      obtain ⟨e, ws, h3, h4⟩ := W.ev h2
      exact ⟨e, ws, .blk h1 h3, h4⟩
    | succ e =>
      by_cases g : e + 1 = n
      · subst g
        rw [if_pos (.inr rfl)] at h2
        obtain ⟨e', ws, h3, h4⟩ := W.ev h2
        exact ⟨e', ws, .blkE h1 h3, h4⟩
      · rw [if_neg (by omega)] at h2
        refine ⟨_, vs, .blkX h1 ?_, h2⟩
        cases hb : Nat.beq (e + 1) n with
        | false => rfl
        | true => exact absurd (Nat.eq_of_beq_eq_true hb) g
  | .both a t f, env, Q, h => by
    unfold W at h
    split at h
    · rename_i hb
      obtain ⟨e, ws, h1, h2, h3⟩ := h
      obtain ⟨_, _, k1, rfl, rfl⟩ := W.ev h1
      obtain ⟨_, _, k2, rfl, rfl⟩ := W.ev h2
      exact ⟨_, _, .both hb k1 k2, h3⟩
    · rename_i hb
      obtain ⟨e, ws, h1, h2⟩ := W.ev h
      exact ⟨e, ws, .bothF (by simpa using hb) h1, h2⟩
theorem EvF.w {i : Nat} {fe : Fe} {t : Tr} {vs ws : List D} (h1 : fes[i]? = some fe) (h2 : fe.tr = some t) (h : W fes t (envA fe.sig vs) (fun e us => e = 1 ∧ us = ws)) : EvF fes i vs ws := by
  obtain ⟨e, us, h3, rfl, rfl⟩ := W.ev h
  exact EvF.mk h1 h2 h3
theorem CW.mk {f : Nat} {vs ds : List D} {K : List D → Prop} (h : EvF fes f vs ds) (k : K ds) : CW fes f vs K := ⟨ds, h, k⟩
/-- A loop by what holds at each round's head, and a number that goes down. -/
theorem LW.inv {α : Type} {b : Tr} {env : List D} {Q : Nat → List D → Prop} (I : α → Prop) (v : α → List D) (m : α → Nat) (h : ∀ a, I a → W fes b (env ++ v a) (fun e ws => if e = 0 then ∃ a', I a' ∧ m a' < m a ∧ ws = v a' else Q e ws)) {a : α} (ha : I a) {vs : List D} (hv : vs = v a) : LW fes b env vs Q := by
  subst hv
  have key : ∀ (n : Nat) (a : α), m a = n → I a → LW fes b env (v a) Q := by
    intro n
    induction n using Nat.strongRecOn with
    | _ n ih =>
      intro a hn ha
      obtain ⟨e, ws, h1, h2⟩ := W.ev (h a ha)
      cases e with
      | zero =>
        rw [if_pos rfl] at h2
        obtain ⟨a', g1, g2, rfl⟩ := h2
        obtain ⟨e, us, h3, h4⟩ := ih (m a') (by omega) a' rfl g1
        exact ⟨e, us, .go h1 h3, h4⟩
      | succ e =>
        rw [if_neg (by omega)] at h2
        exact ⟨_, ws, .end h1, h2⟩
  exact key _ a rfl ha
theorem LW.mono {b : Tr} {env vs : List D} {Q Q' : Nat → List D → Prop} (h : LW fes b env vs Q) (hq : ∀ e ws, Q e ws → Q' e ws) : LW fes b env vs Q' := by
  obtain ⟨e, ws, h1, h2⟩ := h
  exact ⟨e, ws, h1, hq _ _ h2⟩
end
/-- One round of a loop. -/
theorem LW.go {fes : List Fe} {b : Tr} {env vs : List D} {Q : Nat → List D → Prop} (h : W fes b (env ++ vs) (fun e ws => if e = 0 then LW fes b env ws Q else Q e ws)) : LW fes b env vs Q := by
  obtain ⟨e, ws, h1, h2⟩ := W.ev h
  cases e with
  | zero =>
    rw [if_pos rfl] at h2
    obtain ⟨e, us, h3, h4⟩ := h2
    exact ⟨e, us, .go h1 h3, h4⟩
  | succ e =>
    rw [if_neg (by omega)] at h2
    exact ⟨_, ws, .end h1, h2⟩
section
variable {K : D → Prop} {d : D} {c : Prop} [Decidable c] {o : Option D}
@[simp] theorem Wm_some : Wm (some d) K = K d := rfl
@[simp] theorem Wm_none : Wm none K = False := rfl
@[simp] theorem Wm_ite : Wm (if c then o else none) K = (c ∧ Wm o K) := by by_cases h : c <;> simp [h]
@[simp] theorem Wm_ite' : Wm (if c then none else o) K = (¬ c ∧ Wm o K) := by by_cases h : c <;> simp [h]
@[simp] theorem Wm_map {α : Type} {f : α → D} {a : Option α} : Wm (a.map f) K = ∃ x, a = some x ∧ K (f x) := by cases a <;> simp
@[simp] theorem Wm_bind {α : Type} {f : α → Option D} {a : Option α} : Wm (a.bind f) K = ∃ x, a = some x ∧ Wm (f x) K := by cases a <;> simp
end
section
variable {k k' : IntKind} {x y : Int} {e : List CK} {xs ys : List D}
@[simp] theorem ev_add : (Pr.bin .add k).eval [.i x, .i y] = some (.i (k.wrap (x + y))) := rfl
@[simp] theorem ev_sub : (Pr.bin .sub k).eval [.i x, .i y] = some (.i (k.wrap (x - y))) := rfl
@[simp] theorem ev_mul : (Pr.bin .mul k).eval [.i x, .i y] = some (.i (k.wrap (x * y))) := rfl
@[simp] theorem ev_quo : (Pr.bin .quo k).eval [.i x, .i y] = if y = 0 then none else some (.i (k.wrap (x.tdiv y))) := by simp only [Pr.eval, binI]; split <;> rfl
@[simp] theorem ev_rem : (Pr.bin .rem k).eval [.i x, .i y] = if y = 0 then none else some (.i (x.tmod y)) := by simp only [Pr.eval, binI]; split <;> rfl
@[simp] theorem ev_band : (Pr.bin .and k).eval [.i x, .i y] = some (.i (k.wrap (BitVec.ofInt k.bits x &&& BitVec.ofInt k.bits y).toNat)) := rfl
@[simp] theorem ev_bor : (Pr.bin .or k).eval [.i x, .i y] = some (.i (k.wrap (BitVec.ofInt k.bits x ||| BitVec.ofInt k.bits y).toNat)) := rfl
@[simp] theorem ev_bxor : (Pr.bin .xor k).eval [.i x, .i y] = some (.i (k.wrap (BitVec.ofInt k.bits x ^^^ BitVec.ofInt k.bits y).toNat)) := rfl
@[simp] theorem ev_bandNot : (Pr.bin .andNot k).eval [.i x, .i y] = some (.i (k.wrap (BitVec.ofInt k.bits x &&& ~~~ BitVec.ofInt k.bits y).toNat)) := rfl
@[simp] theorem ev_shl : (Pr.sh .shl k k').eval [.i x, .i y] = if y < 0 then none else some (.i (k.wrap (x * 2 ^ (min y.toNat k.bits)))) := by simp only [Pr.eval, shI]; split <;> rfl
@[simp] theorem ev_shr : (Pr.sh .shr k k').eval [.i x, .i y] = if y < 0 then none else some (.i (x.fdiv (2 ^ (min y.toNat k.bits)))) := by simp only [Pr.eval, shI]; split <;> rfl
@[simp] theorem ev_eql : (Pr.cmp .eql k).eval [.i x, .i y] = some (.b (decide (x = y))) := rfl
@[simp] theorem ev_neq : (Pr.cmp .neq k).eval [.i x, .i y] = some (.b (!decide (x = y))) := rfl
@[simp] theorem ev_lss : (Pr.cmp .lss k).eval [.i x, .i y] = some (.b (decide (x < y))) := rfl
@[simp] theorem ev_leq : (Pr.cmp .leq k).eval [.i x, .i y] = some (.b (decide (x ≤ y))) := rfl
@[simp] theorem ev_gtr : (Pr.cmp .gtr k).eval [.i x, .i y] = some (.b (decide (y < x))) := rfl
@[simp] theorem ev_geq : (Pr.cmp .geq k).eval [.i x, .i y] = some (.b (decide (y ≤ x))) := rfl
@[simp] theorem ev_not {b : Bool} : Pr.not.eval [.b b] = some (.b (!b)) := rfl
@[simp] theorem ev_and {b c : Bool} : Pr.and.eval [.b b, .b c] = some (.b (b && c)) := rfl
@[simp] theorem ev_or {b c : Bool} : Pr.or.eval [.b b, .b c] = some (.b (b || c)) := rfl
@[simp] theorem ev_eqb {b c : Bool} : Pr.eqb.eval [.b b, .b c] = some (.b (b == c)) := rfl
@[simp] theorem ev_nat : (Pr.nat k).eval [.i x] = if 0 ≤ x then some (.i x) else none := rfl
@[simp] theorem ev_neg : (Pr.neg k).eval [.i x] = some (.i (k.wrap (0 - x))) := rfl
@[simp] theorem ev_conv : (Pr.conv k k').eval [.i x] = some (.i (k'.wrap x)) := rfl
@[simp] theorem ev_mx : (Pr.mx k).eval [.i x, .i y] = some (.i (if y > x then y else x)) := rfl
@[simp] theorem ev_mn : (Pr.mn k).eval [.i x, .i y] = some (.i (if y < x then y else x)) := rfl
@[simp] theorem ev_len : (Pr.len e).eval [.l xs] = some (.i xs.length) := rfl
@[simp] theorem ev_lenS {s : ByteArray} : Pr.lenS.eval [.s s] = some (.i s.size) := rfl
@[simp] theorem ev_get {j : Nat} : (Pr.get e j).eval [.l xs, .i x] = if x < 0 then none else (xs[x.toNat]?).bind fun d => (row e d)[j]? := rfl
@[simp] theorem ev_ixc : (Pr.ixc k).eval [.i x, .i y] = if 0 ≤ x ∧ x < y then some (.i x) else none := rfl
@[simp] theorem ev_cut : (Pr.cut e k k').eval [.l xs, .i x, .i y] = if 0 ≤ x ∧ x ≤ y ∧ y ≤ xs.length then some (.l ((xs.drop x.toNat).take (y.toNat - x.toNat))) else none := rfl
@[simp] theorem ev_cutS {s : ByteArray} : (Pr.cutS k k').eval [.s s, .i x, .i y] = if 0 ≤ x ∧ x ≤ y ∧ y ≤ s.size then some (.s (s.extract x.toNat y.toNat)) else none := rfl
@[simp] theorem ev_rng {z : Int} : (Pr.rng k k').eval [.i x, .i y, .i z] = if 0 ≤ x ∧ x ≤ y ∧ y ≤ z then some (.i (y - x)) else none := rfl
@[simp] theorem ev_plus : Pr.plus.eval [.i x, .i y] = if 0 ≤ x ∧ 0 ≤ y then some (.i (x + y)) else none := rfl
@[simp] theorem ev_idxS {s : ByteArray} : (Pr.idxS k).eval [.s s, .i x] = if x < 0 then none else (s[x.toNat]?).map fun b => .i b.toNat := rfl
@[simp] theorem ev_app {n : Nat} : (Pr.app e n).eval [.l xs, .l ys] = if (xs.length + ys.length) * n ≤ 140737488355328 ∧ xs.length + ys.length < 9223372036854775808 then some (.l (xs ++ ys)) else none := rfl
@[simp] theorem ev_mk {n : Nat} : (Pr.mk e n).eval ys = some (.l (rowsOf e n ys)) := rfl
@[simp] theorem ev_mkz {n : Nat} {z : List D} : (Pr.mkz e k n z).eval [.i x] = if 0 ≤ x ∧ n * x.toNat ≤ 281474976710656 ∧ x < 9223372036854775808 then some (.l (List.replicate x.toNat (unrow e z))) else none := rfl
@[simp] theorem ev_set {j : Nat} {d : D} : (Pr.set e j).eval [.l xs, .i x, d] = if 0 ≤ x ∧ x < xs.length then some (.l (xs.modify x.toNat (setRow e j d))) else none := by cases d <;> rfl
@[simp] theorem ev_bstr : Pr.bstr.eval [.l xs] = some (.s (bytesOf xs)) := rfl
@[simp] theorem ev_ite {b : Bool} {q : CK} {d d' : D} : (Pr.ite q).eval [.b b, d, d'] = some (if b then d else d') := by cases d <;> rfl
@[simp] theorem ev_cat {s t : ByteArray} : Pr.cat.eval [.s s, .s t] = if ((s.size + t.size : Nat) : Int) > 9223372036854775807 then none else some (.s (s ++ t)) := rfl
@[simp] theorem ev_cmpS {o : BinOp} {s t : ByteArray} : (Pr.cmpS o).eval [.s s, .s t] = (cmpT o s t).map .b := rfl
end
section
variable {fes : List Fe} {env : List D} {Q : Nat → List D → Prop}
@[simp] theorem W_out {e : Nat} {xs : List At} : W fes (.out e xs) env Q = Q e (xs.map (At.den env)) := by rw [W]
@[simp] theorem W_pr {p : Pr} {xs : List At} {t : Tr} : W fes (.nd (.pr p xs) t) env Q = Wm (p.eval (xs.map (At.den env))) (fun d => W fes t (env ++ [d]) Q) := by rw [W]
@[simp] theorem W_call {f : Nat} {xs : List At} {ps tys : List CK} {t : Tr} : W fes (.nd (.call f xs ps tys) t) env Q = CW fes f (xs.map (At.den env)) (fun ds => W fes t (env ++ ds) Q) := by rw [W]
@[simp] theorem W_ite {a : At} {t f : Tr} : W fes (.ite a t f) env Q = (match a.den env with
    | .b c => if c = true then W fes t env Q else W fes f env Q
    | _ => False) := by rw [W]
@[simp] theorem W_seq {ps : List CK} {a b : Tr} : W fes (.seq ps a b) env Q = W fes a env (fun e vs => if e = 0 then W fes b (env ++ vs) Q else Q e vs) := by rw [W]
@[simp] theorem W_loop {ps : List CK} {xs : List At} {b : Tr} : W fes (.loop ps xs b) env Q = LW fes b env (xs.map (At.den env)) Q := by rw [W]
@[simp] theorem W_blk {e : Nat} {ps : List CK} {a b : Tr} : W fes (.blk e ps a b) env Q = W fes a env (fun e' vs => if e' = 0 ∨ e' = e then W fes b (env ++ vs) Q else Q e' vs) := by rw [W]
@[simp] theorem W_both {a : At} {t f : Tr} : W fes (.both a t f) env Q = if (a.den env).isE = true then ∃ e ws, W fes t env (fun e' ws' => e' = e ∧ ws' = ws) ∧ W fes f env (fun e' ws' => e' = e ∧ ws' = ws) ∧ Q e ws else W fes f env Q := by rw [W]
@[simp] theorem isE_nil : (D.l []).isE = true := rfl
@[simp] theorem isE_cons {x : D} {xs : List D} : (D.l (x :: xs)).isE = false := rfl
@[simp] theorem den_k {d : D} : (At.k d).den env = d := rfl
@[simp] theorem den_v {i : Nat} : (At.v i).den env = (env[i]?).getD (.l []) := rfl
@[simp] theorem items_l {xs : List D} : (D.l xs).items = xs := rfl
@[simp] theorem row_one {k : CK} {d : D} : row [k] d = [d] := rfl
@[simp] theorem setRow_one {k : CK} {x d : D} : setRow [k] 0 x d = x := rfl
@[simp] theorem rowsOf_one {k : CK} {d : D} : rowsOf [k] 1 [d] = [d] := rfl
@[simp] theorem unrow_one {k : CK} {d : D} : unrow [k] [d] = d := rfl
end
/-! ### whole numbers that fit -/
theorem wrap64 {x : Int} (h : -9223372036854775808 ≤ x ∧ x < 9223372036854775808) : IntKind.wrap .i64 x = x := by
  rw [IntKind.wrap_i64]
  omega
theorem wrapU32 {x : Int} (h : 0 ≤ x ∧ x < 4294967296) : IntKind.wrap .u32 x = x := by
  rw [IntKind.wrap_u32]
  omega
theorem wrapU64 {x : Int} (h : 0 ≤ x ∧ x < 18446744073709551616) : IntKind.wrap .u64 x = x := by
  rw [IntKind.wrap_u64]
  omega
theorem wrapU8 {x : Int} (h : 0 ≤ x ∧ x < 256) : IntKind.wrap .u8 x = x := by
  rw [IntKind.wrap_u8]
  omega
theorem wrap64N {x : Nat} (h : x < 9223372036854775808) : IntKind.wrap .i64 (x : Int) = x := wrap64 (by omega)
theorem wrapU32N {x : Nat} (h : x < 4294967296) : IntKind.wrap .u32 (x : Int) = x := wrapU32 (by omega)
theorem tdivN (x y : Nat) : (x : Int).tdiv y = ((x / y : Nat) : Int) := rfl
theorem tmodN (x y : Nat) : (x : Int).tmod y = ((x % y : Nat) : Int) := rfl
theorem divPow (m i : Nat) : (m : Int) / 2 ^ i = ((m / 2 ^ i : Nat) : Int) := by push_cast; rfl
end Go.BH
