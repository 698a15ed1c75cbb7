/- Reckoning with trees, 2: words that spare repetition. -/
import Derived.Test.YtponfomfcmlfmaaB33
set_option linter.unusedVariables false
set_option linter.unusedSimpArgs false
namespace Go.BH
open Go.RowKit
section
variable {fes : List Fe}
/-- A loop of n rounds; v i: what is held at the head of round i. -/
theorem LW.cnt {b : Tr} {env : List D} {Q : Nat → List D → Prop} (n : Nat) (v : Nat → List D) (h : ∀ i, i < n → W fes b (env ++ v i) (fun e ws => if e = 0 then ws = v (i + 1) else Q e ws)) (hn : W fes b (env ++ v n) (fun e ws => if e = 0 then False else Q e ws)) {vs : List D} (hv : vs = v 0) : LW fes b env vs Q := by
  subst hv
  have key : ∀ d i, n - i = d → i ≤ n → LW fes b env (v i) Q := by
    intro d
    induction d with
    | zero =>
      intro i hd hi
      obtain rfl : i = n := by omega
      obtain ⟨e, ws, h1, h2⟩ := W.ev hn
      cases e with
      | zero => rw [if_pos rfl] at h2; exact h2.elim
      | succ e =>
        rw [if_neg (by omega)] at h2
        exact ⟨_, ws, .end h1, h2⟩
    | succ d ih =>
      intro i hd hi
      obtain ⟨e, ws, h1, h2⟩ := W.ev (h i (by omega))
      cases e with
      | zero =>
        rw [if_pos rfl] at h2
        subst h2
        obtain ⟨e, us, h3, h4⟩ := ih (i + 1) (by omega) (by omega)
        exact ⟨e, us, .go h1 h3, h4⟩
      | succ e =>
        rw [if_neg (by omega)] at h2
        exact ⟨_, ws, .end h1, h2⟩
  exact key _ 0 rfl (Nat.zero_le _)
/-- A call whose answer is known, as a rewriting. -/
theorem CW.eq {f : Nat} {vs ds : List D} {K : List D → Prop} (h : EvF fes f vs ds) : CW fes f vs K = K ds := by
  refine propext ⟨fun ⟨ds', h', k⟩ => ?_, fun k => ⟨ds, h, k⟩⟩
  obtain ⟨k0, h⟩ := h
  obtain ⟨k1, h'⟩ := h'
  have := h (k0 + k1) (by omega)
  rw [h' (k0 + k1) (by omega)] at this
  cases this
  exact k
end
/-! ### the same, step by step: nothing is unfolded before what stands ahead of it is known -/
def WN (fes : List Fe) (o : Option D) (t : Tr) (env : List D) (Q : Nat → List D → Prop) : Prop := Wm o (fun d => W fes t (env ++ [d]) Q)
def WC (fes : List Fe) (f : Nat) (vs : List D) (t : Tr) (env : List D) (Q : Nat → List D → Prop) : Prop := CW fes f vs (fun ds => W fes t (env ++ ds) Q)
def WI (fes : List Fe) (d : D) (t f : Tr) (env : List D) (Q : Nat → List D → Prop) : Prop := match d with
  | .b c => if c = true then W fes t env Q else W fes f env Q
  | _ => False
def QS (fes : List Fe) (b : Tr) (env : List D) (Q : Nat → List D → Prop) (e : Nat) (vs : List D) : Prop := if e = 0 then W fes b (env ++ vs) Q else Q e vs
def QB (fes : List Fe) (n : Nat) (b : Tr) (env : List D) (Q : Nat → List D → Prop) (e : Nat) (vs : List D) : Prop := if e = 0 ∨ e = n then W fes b (env ++ vs) Q else Q e vs
section
variable {fes : List Fe} {env vs ds : List D} {t f a b : Tr} {Q : Nat → List D → Prop}
theorem l_pr {p : Pr} {xs : List At} : W fes (.nd (.pr p xs) t) env Q = WN fes (p.eval (xs.map (At.den env))) t env Q := by rw [W]; rfl
theorem l_call {g : Nat} {xs : List At} {ps tys : List CK} : W fes (.nd (.call g xs ps tys) t) env Q = WC fes g (xs.map (At.den env)) t env Q := by rw [W]; rfl
theorem l_ite {x : At} : W fes (.ite x t f) env Q = WI fes (x.den env) t f env Q := by rw [W]; rfl
theorem l_seq {ps : List CK} : W fes (.seq ps a b) env Q = W fes a env (QS fes b env Q) := by rw [W]; rfl
theorem l_blk {n : Nat} {ps : List CK} : W fes (.blk n ps a b) env Q = W fes a env (QB fes n b env Q) := by rw [W]; rfl
theorem l_some {d : D} : WN fes (some d) t env Q = W fes t (env ++ [d]) Q := propext Iff.rfl
theorem l_true : WI fes (.b true) t f env Q = W fes t env Q := propext Iff.rfl
theorem l_false : WI fes (.b false) t f env Q = W fes f env Q := propext Iff.rfl
theorem l_dec {c : Prop} [Decidable c] : WI fes (.b (decide c)) t f env Q = if c then W fes t env Q else W fes f env Q := by
  by_cases h : c <;> simp [h, WI]
theorem l_bool {c : Bool} : WI fes (.b c) t f env Q = if c = true then W fes t env Q else W fes f env Q := propext Iff.rfl
theorem l_qs {e : Nat} : QS fes b env Q e vs = if e = 0 then W fes b (env ++ vs) Q else Q e vs := propext Iff.rfl
theorem l_qb {n e : Nat} : QB fes n b env Q e vs = if e = 0 ∨ e = n then W fes b (env ++ vs) Q else Q e vs := propext Iff.rfl
theorem WC.mk {g : Nat} (h : EvF fes g vs ds) (k : W fes t (env ++ ds) Q) : WC fes g vs t env Q := ⟨ds, h, k⟩
theorem WC.eq {g : Nat} (h : EvF fes g vs ds) : WC fes g vs t env Q = W fes t (env ++ ds) Q := CW.eq h
end
def QL (fes : List Fe) (b : Tr) (env : List D) (Q : Nat → List D → Prop) (e : Nat) (ws : List D) : Prop := if e = 0 then LW fes b env ws Q else Q e ws
theorem l_ql {fes : List Fe} {b : Tr} {env ws : List D} {Q : Nat → List D → Prop} {e : Nat} : QL fes b env Q e ws = if e = 0 then LW fes b env ws Q else Q e ws := propext Iff.rfl
/-- One round of a loop. -/
theorem LW.rd {fes : List Fe} {b : Tr} {env vs : List D} {Q : Nat → List D → Prop} (h : W fes b (env ++ vs) (QL fes b env Q)) : LW fes b env vs Q := LW.go h
/-! ### what is known half way -/
theorem W.mono {fes : List Fe} : ∀ {t : Tr} {env : List D} {Q Q' : Nat → List D → Prop}, W fes t env Q → (∀ e vs, Q e vs → Q' e vs) → W fes t env Q'
  | .out e xs, env, Q, Q', h, k => by unfold W at h ⊢; exact k _ _ h
  | .nd (.pr p xs) t, env, Q, Q', h, k => by
    unfold W Wm at h ⊢
    split at h
    · rename_i d hd
      exact W.mono h k
    · cases h
  | .nd (.call f xs _ _) t, env, Q, Q', h, k => by
    unfold W at h ⊢
    obtain ⟨ds, hd, h⟩ := h
    exact ⟨ds, hd, W.mono h k⟩
  | .ite a t f, env, Q, Q', h, k => by
    unfold W at h ⊢
    split at h
    · rename_i c hc
      split at h
      · rename_i g
        rw [if_pos g]
        exact W.mono h k
      · rename_i g
        rw [if_neg g]
        exact W.mono h k
    · cases h
  | .seq ps a b, env, Q, Q', h, k => by
    unfold W at h ⊢
    refine W.mono h (fun e vs q => ?_)
    split at q
    · rename_i g
      rw [if_pos g]
      exact W.mono q k
    · rename_i g
      rw [if_neg g]
      exact k _ _ q
  | .loop ps xs b, env, Q, Q', h, k => by
    unfold W at h ⊢
    exact LW.mono h k
  | .blk n ps a b, env, Q, Q', h, k => by
    unfold W at h ⊢
    refine W.mono h (fun e vs q => ?_)
    split at q
    · rename_i g
      rw [if_pos g]
      exact W.mono q k
    · rename_i g
      rw [if_neg g]
      exact k _ _ q
  | .both a t f, env, Q, Q', h, k => by
    unfold W at h ⊢
    split at h
    · rename_i g
      rw [if_pos g]
      obtain ⟨e, ws, h1, h2, h3⟩ := h
      exact ⟨e, ws, h1, h2, k _ _ h3⟩
    · rename_i g
      rw [if_neg g]
      exact W.mono h k
theorem W.blkMid {fes : List Fe} {n : Nat} {ps : List CK} {a b : Tr} {env : List D} {Q : Nat → List D → Prop} (R : List D → Prop) (h : W fes a env (fun e vs => if e = 0 ∨ e = n then R vs else Q e vs)) (k : ∀ vs, R vs → W fes b (env ++ vs) Q) : W fes (.blk n ps a b) env Q := by
  rw [l_blk]
  refine W.mono h (fun e vs q => ?_)
  simp only [QB]
  split at q
  · rename_i g
    rw [if_pos g]
    exact k _ q
  · rename_i g
    rw [if_neg g]
    exact q
theorem W.seqMid {fes : List Fe} {ps : List CK} {a b : Tr} {env : List D} {Q : Nat → List D → Prop} (R : List D → Prop) (h : W fes a env (fun e vs => if e = 0 then R vs else Q e vs)) (k : ∀ vs, R vs → W fes b (env ++ vs) Q) : W fes (.seq ps a b) env Q := by
  rw [l_seq]
  refine W.mono h (fun e vs q => ?_)
  simp only [QS]
  split at q
  · rename_i g
    rw [if_pos g]
    exact k _ q
  · rename_i g
    rw [if_neg g]
    exact q
/-- Where it comes to is some place that R tells of. -/
theorem EvF.some {fes : List Fe} {i : Nat} {fe : Fe} {t : Tr} {vs : List D} {R : List D → Prop} (h1 : fes[i]? = some fe) (h2 : fe.tr = some t) (h : W fes t (envA fe.sig vs) (fun e us => e = 1 ∧ R us)) : ∃ ws, EvF fes i vs ws ∧ R ws := by
  obtain ⟨e, us, h3, rfl, hR⟩ := W.ev h
  exact ⟨us, EvF.mk h1 h2 h3, hR⟩
end Go.BH
