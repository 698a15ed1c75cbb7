/- The picture by value, 4: regions, in order and in a drawn order; what only reckons. -/
import Derived.Test.YtdjfhggmcigahaaDoorB3
set_option linter.unusedVariables false
set_option linter.unusedSimpArgs false
namespace Go.BH
open Go.RowKit
def pk (b : Bool) (x y : AV) : AV :=
  if b = true then x else y
def St.put (σ : St) (d : Option Tmp) (v : AV) : St :=
  match d with
  | some t => ⟨(t, v) :: σ.T, σ.H, σ.nx⟩
  | none => σ
def okD (n : Nat) (d : Option Tmp) : Bool :=
  match d with
  | some t => Nat.blt t n
  | none => true
/-- The blocks that kp names lie as they did, and so do those that are frozen. -/
structure SM (kp : Nat → Bool) (μ : Mu) (w w' : World) : Prop where
  own : ∀ i, kp i = true → ∀ p, μ.pl i = some p → w'.heap[p.block]? = w.heap[p.block]?
  rd : ∀ l b cs, μ.rd l b = some cs → w'.heap[b]? = w.heap[b]?
/-- .. and where they did. -/
structure SMk (kp : Nat → Bool) (μ μ' : Mu) (w w' : World) : Prop where
  sub : Sub μ μ'
  sm : SM kp μ w w'
theorem SM.refl (kp : Nat → Bool) (μ : Mu) (w : World) : SM kp μ w w := ⟨fun _ _ _ _ => rfl, fun _ _ _ _ => rfl⟩
theorem SMk.refl (kp : Nat → Bool) (μ : Mu) (w : World) : SMk kp μ μ w w := ⟨.refl _, .refl _ _ _⟩
theorem SMk.trans {kp : Nat → Bool} {μ μ' : Mu} {w w' w'' : World} (h : SMk kp μ μ' w w') (k : SM kp μ' w' w'') : SM kp μ w w'' :=
  ⟨fun i hi p hp => (k.own i hi p (h.sub.pl i p hp)).trans (h.sm.own i hi p hp), fun l b cs hl => (k.rd l b cs (h.sub.rd l b cs hl)).trans (h.sm.rd l b cs hl)⟩
theorem wpAnyH_mono {P : Program} {md : Region.Mode} {ops : Array Oper} {Q : Exit → Act → World → Prop} {S S' : World → Prop} (hS : ∀ w, S w → S' w) : ∀ (fuel : Nat) (listed : Array Bool) (a : Act) (w : World), wpAnyH P md ops Q S fuel listed a w → wpAnyH P md ops Q S' fuel listed a w
  | 0, _, _, _, h => h
  | fuel + 1, _, _, _, h => ⟨h.1, fun i hi => wpOp_mono (fun a' w' h' => ⟨hS w' h'.1, wpAnyH_mono hS fuel _ a' w' h'.2⟩) (h.2 i hi)⟩
section
variable {P : Program} {E : En} {σ : St} {μ : Mu} {a : Act} {w : World}
theorem INV.put (h : INV E μ σ a w) {d : Option Tmp} (hd : okD E.n d = true) {v : AV} {c : Value} (hv : VR μ v c) : INV E μ (σ.put d v) (a.put d c) w := by
  cases d with
  | none => exact h
  | some t =>
    have hlt : t < a.tmps.size := by rw [h.size]; exact Nat.le_of_ble_eq_true hd
    have ht : ∀ s, VR μ (tk ((t, v) :: σ.T) s) ((a.tmps.setIfInBounds t c).getD s undef) := fun s => by
      simp only [tk]
      cases e : Nat.beq t s with
      | true =>
        have := Nat.eq_of_beq_eq_true e
        subst this
        simp only [↓reduceIte]
        rw [Array.getD_eq_getD_getElem?, Array.getElem?_setIfInBounds_self_of_lt hlt]
        exact hv
      | false =>
        have hne : t ≠ s := Nat.ne_of_beq_eq_false e
        simp only [Bool.false_eq_true, ↓reduceIte]
        rw [Array.getD_eq_getD_getElem?, Array.getElem?_setIfInBounds_ne hne, ← Array.getD_eq_getD_getElem?]
        exact h.tmps s
    exact { h with tmps := ht, size := by simpa [Act.put] using h.size }
/-- The world has drawn. -/
theorem INV.drew (h : INV E μ σ a w) : INV E μ σ a w.drew := { h with
  heap := h.heap.world (fun _ _ _ _ _ => rfl) (fun _ _ _ _ => rfl)
  kept := h.kept.trans (Kept.drew _ _) }
/-- The operation leaves v, whatever becomes of the blocks that kp does not name, and does nothing else. -/
def OP (P : Program) (E : En) (kp : Nat → Bool) (o : Oper) (σ : St) (v : AV) : Prop :=
  ∀ μ a w, INV E μ σ a w → ∃ c, VR μ v c ∧ ∀ w', SM kp μ w w' → (execOp a.eval o).run P w' = .ok (.value c) w'
/-- The operation runs, leaves the blocks that kp names as they are, and R tells what it leaves. -/
def OX (P : Program) (E : En) (kp : Nat → Bool) (o : Oper) (σ : St) (R : AV → St → Prop) : Prop :=
  ∀ μ a w, INV E μ σ a w → ∀ (K : Act → World → Prop) (Q : Exit → Act → World → Prop),
    (∀ v σ' c μ' w', R v σ' → VR μ' v c → INV E μ' σ' a w' → SMk kp μ μ' w w' → K (a.put o.dst c) w') → o.wp P a w K Q
/-- Its value in plain words. -/
def OS (P : Program) (E : En) (kp : Nat → Bool) (o : Oper) (σ : St) (v : AV) (σ' : St) : Prop :=
  ∀ μ a w, INV E μ σ a w → ∃ c w' μ', (execOp a.eval o).run P w = .ok (.value c) w' ∧ VR μ' v c ∧ INV E μ' σ' a w' ∧ SMk kp μ μ' w w'
/-- The same of an operation that has no value. -/
def OS0 (P : Program) (E : En) (kp : Nat → Bool) (o : Oper) (σ : St) (σ' : St) : Prop :=
  ∀ μ a w, INV E μ σ a w → ∃ w' μ', (execOp a.eval o).run P w = .ok .skip w' ∧ INV E μ' σ' a w' ∧ SMk kp μ μ' w w'
variable {kp : Nat → Bool} {ops : Array Oper} {o : Oper} {r : List Oper} {K : St → Prop} {R : AV → St → Prop}
theorem OS.ox {v : AV} {σ' : St} (h : OS P E kp o σ v σ') (k : R v σ') : OX P E kp o σ R := fun μ a w hi K Q hK => by
  obtain ⟨c, w', μ', hr, hv, hi', hs⟩ := h μ a w hi
  simp only [Oper.wp, hr, Oper.upon]
  exact hK v σ' c μ' w' k hv hi' hs
theorem OS0.ox {σ' : St} (h : OS0 P E kp o σ σ') (k : R .any σ') : OX P E kp o σ R := fun μ a w hi K Q hK => by
  obtain ⟨w', μ', hr, hi', hs⟩ := h μ a w hi
  simp only [Oper.wp, hr, Oper.upon]
  exact hK .any σ' _ μ' w' k (.any _) hi' hs
theorem OP.os {v : AV} (h : OP P E kp o σ v) : OS P E kp o σ v σ := fun μ a w hi => by
  obtain ⟨c, hv, hr⟩ := h μ a w hi
  exact ⟨c, w, μ, hr w (.refl _ _ _), hv, hi, .refl _ _ _⟩
theorem OX.mono {R' : AV → St → Prop} (h : OX P E kp o σ R) (hr : ∀ v σ, R v σ → R' v σ) : OX P E kp o σ R' := fun μ a w hi K Q hK => h μ a w hi K Q (fun v σ' c μ' w' k => hK v σ' c μ' w' (hr _ _ k))
/-- As wpList, with what is to hold behind the list said apart. -/
def wpK (P : Program) (ops : Array Oper) (Q : Exit → Act → World → Prop) (K : Act → World → Prop) : List Oper → Act → World → Prop
  | [], a, w => K a w
  | o :: rest, a, w => if Region.wanted o (yielded ops a.tmps) then o.wp P a w (wpK P ops Q K rest) Q ∨ (o.asks P a w ∧ LetsOut Q) else wpK P ops Q K rest (a.put o.dst undef) w
theorem wpK_eq {P : Program} {ops : Array Oper} {Q : Exit → Act → World → Prop} : ∀ (l : List Oper), wpK P ops Q (Q .normal) l = wpList P ops Q l
  | [] => rfl
  | o :: r => by funext a w; simp only [wpK, wpList, wpK_eq r]
theorem wpK_app {P : Program} {ops : Array Oper} {Q : Exit → Act → World → Prop} {K : Act → World → Prop} : ∀ (l m : List Oper), wpK P ops Q K (l ++ m) = wpK P ops Q (wpK P ops Q K m) l
  | [], m => rfl
  | o :: r, m => by funext a w; simp only [List.cons_append, wpK, wpK_app r m]
/-- The operations l of a region (whose operations are ops), begun in σ, all run, and K holds behind them. -/
def OT (P : Program) (E : En) (ops : Array Oper) (l : List Oper) (K : St → Prop) (σ : St) : Prop :=
  ∀ (Q : Exit → Act → World → Prop) (N : Act → World → Prop), (∀ σ' μ' a' w', K σ' → INV E μ' σ' a' w' → N a' w') → ∀ μ a w, INV E μ σ a w → wpK P ops Q N l a w
theorem OT.nil (h : K σ) : OT P E ops [] K σ := fun Q N hq μ a w hi => hq σ μ a w h hi
/-- The guard of an operation, in state σ. -/
def wantsB (ops : Array Oper) (o : Oper) (σ : St) (b : Bool) : Prop :=
  match o.guard with
  | none => b = true
  | some (j, want) => ∃ oj t, ops[j]? = some oj ∧ oj.dst = some t ∧ ((∃ g, tk σ.T t = .v (.bool g) ∧ b = (g == want)) ∨ (tk σ.T t = .tup [] ∧ b = false))
theorem wanted_of {b : Bool} (hi : INV E μ σ a w) (h : wantsB ops o σ b) : Region.wanted o (yielded ops a.tmps) = b := by
  unfold wantsB at h
  cases hg : o.guard with
  | none => rw [hg] at h; simp [Region.wanted, hg, h]
  | some p =>
    obtain ⟨j, want⟩ := p
    rw [hg] at h
    obtain ⟨oj, t, hj, hd, ⟨g, ht, rfl⟩ | ⟨ht, rfl⟩⟩ := h
    · have hv := hi.tmps t
      rw [ht] at hv
      have hb := hv.bool
      have hb' : a.tmps[t]? = some (.bool g) := by
        rw [Array.getD_eq_getD_getElem?] at hb
        cases hx : a.tmps[t]? with
        | none => rw [hx] at hb; simp [undef] at hb
        | some x => rw [hx] at hb; simpa using hb
      simp [Region.wanted, hg, yielded, hj, hd, hb']
    · have hv := hi.tmps t
      rw [ht] at hv
      generalize hc : a.tmps.getD t undef = c at hv
      cases hv with
      | tup hl =>
        cases hl
        rw [Array.getD_eq_getD_getElem?] at hc
        cases hx : a.tmps[t]? with
        | none => simp [Region.wanted, hg, yielded, hj, hd, hx]
        | some x =>
          rw [hx] at hc
          simp only [Option.getD_some] at hc
          subst hc
          simp [Region.wanted, hg, yielded, hj, hd, hx]
theorem OT.step (hw : wantsB ops o σ true) (hd : okD E.n o.dst = true) (h : OX P E kp o σ (fun v σ' => OT P E ops r K (σ'.put o.dst v))) : OT P E ops (o :: r) K σ := fun Q N hq μ a w hi => by
  simp only [wpK, wanted_of hi hw, if_true]
  exact .inl (h μ a w hi _ _ (fun v σ' c μ' w' k hv hi' _ => k Q N hq μ' _ w' (hi'.put hd hv)))
theorem OT.no (hw : wantsB ops o σ false) (hd : okD E.n o.dst = true) (k : OT P E ops r K (σ.put o.dst (.tup []))) : OT P E ops (o :: r) K σ := fun Q N hq μ a w hi => by
  simp only [wpK, wanted_of hi hw, Bool.false_eq_true, if_false]
  exact k Q N hq μ _ w (hi.put hd (.tup .nil))
theorem CT.region {id : Nat} {l : List Oper} {Q : Exit → St → Prop} (h : OT P E l.toArray l (Q .normal) σ) : CT P E (.region id l.toArray false) Q σ :=
  fun μ a w hi => wp_region_lit (by
    have := h (fun e a' w' => ∃ σ' μ', Q e σ' ∧ INV E μ' σ' a' w') (fun a' w' => ∃ σ' μ', Q .normal σ' ∧ INV E μ' σ' a' w') (fun σ' μ' a' w' hk hi' => ⟨σ', μ', hk, hi'⟩) μ a w hi
    rw [← wpK_eq]
    exact this)
theorem OT.app {ops : Array Oper} {K : St → Prop} {l m : List Oper} (h : OT P E ops l (OT P E ops m K) σ) : OT P E ops (l ++ m) K σ := fun Q N hq μ a w hi => by
  rw [wpK_app]
  exact h Q _ (fun σ' μ' a' w' k hi' => k Q N hq μ' a' w' hi') μ a w hi
theorem OT.mono {ops : Array Oper} {K K' : St → Prop} {l : List Oper} (h : OT P E ops l K σ) (hk : ∀ σ, K σ → K' σ) : OT P E ops l K' σ := fun Q N hq => h Q N (fun σ' μ' a' w' k hi' => hq σ' μ' a' w' (hk _ k) hi')
/-! ### a drawn order -/
def Q0 (E : En) (K : St → Prop) : Exit → Act → World → Prop := fun e a w => e = .normal ∧ ∃ σ' μ', K σ' ∧ INV E μ' σ' a w
/-- Whatever order is picked from here on. -/
def OD (P : Program) (E : En) (ops : Array Oper) (kp : Nat → Bool) (K : St → Prop) (fuel : Nat) (listed : Array Bool) (σ : St) : Prop :=
  ∀ μ a w, INV E μ σ a w → wpAnyH P .any ops (Q0 E K) (SM kp μ w) fuel listed a w
theorem OD.done {fuel : Nat} {listed : Array Bool} (hr : Region.ready .any ops listed = []) (h : K σ) : OD P E ops kp K fuel listed σ := fun μ a w hi => wpAnyH_done hr ⟨rfl, σ, μ, h, hi⟩ _
theorem OD.take {fuel : Nat} {listed : Array Bool} (i : Nat) {oi : Oper} {v : AV} (hi : ops[i]? = some oi) (hs : Region.noSelect ops = true) (hf : Region.free .any ops listed i = true) (hr : (Region.ready .any ops listed).contains i = true)
    (hw : wantsB ops oi σ true) (hd : okD E.n oi.dst = true) (h : OP P E kp oi σ v) (k : OD P E ops kp K fuel (listed.setIfInBounds i true) (σ.put oi.dst v)) : OD P E ops kp K (fuel + 1) listed σ := fun μ a w hI => by
  obtain ⟨c, hv, hrun⟩ := h μ a w hI
  exact wpAnyH_take hi hs hf hr (fun c a w h => by cases h.1) (.inl ⟨wanted_of hI hw, hrun⟩) (.refl _ _ _) (k μ _ w (hI.put hd hv))
theorem OD.no {fuel : Nat} {listed : Array Bool} (i : Nat) {oi : Oper} (hi : ops[i]? = some oi) (hs : Region.noSelect ops = true) (hf : Region.free .any ops listed i = true) (hr : (Region.ready .any ops listed).contains i = true)
    (hw : wantsB ops oi σ false) (hd : okD E.n oi.dst = true) (k : OD P E ops kp K fuel (listed.setIfInBounds i true) (σ.put oi.dst (.tup []))) : OD P E ops kp K (fuel + 1) listed σ := fun μ a w hI =>
  wpAnyH_take hi hs hf hr (fun c a w h => by cases h.1) (.inr ⟨wanted_of hI hw, rfl⟩) (.refl _ _ _) (k μ _ w (hI.put hd (.tup .nil)))
theorem OD.next1 {fuel : Nat} {listed : Array Bool} (i : Nat) {oi : Oper} (hr : Region.ready .any ops listed = [i]) (hi : ops[i]? = some oi) (hw : wantsB ops oi σ true) (hd : okD E.n oi.dst = true)
    (h : OX P E kp oi σ (fun v σ' => OD P E ops kp K fuel (listed.setIfInBounds i true) (σ'.put oi.dst v))) : OD P E ops kp K (fuel + 1) listed σ := fun μ a w hI => by
  refine wpAnyH_all hr (by simp) (fun j hj => ?_)
  obtain rfl : j = i := by simpa using hj
  unfold wpOp
  simp only [hi, wanted_of hI hw, if_true]
  refine .inl (h μ a w hI _ _ (fun v σ' c μ' w' k hv hi' hs => ⟨hs.sm, ?_⟩))
  exact wpAnyH_mono (fun w'' hw'' => hs.trans hw'') _ _ _ _ (k μ' _ w' (hi'.put hd hv))
theorem OD.next2 {fuel : Nat} {listed : Array Bool} (i j : Nat) {oi oj : Oper} (hr : Region.ready .any ops listed = [i, j]) (hi : ops[i]? = some oi) (hj : ops[j]? = some oj) (hwi : wantsB ops oi σ true) (hwj : wantsB ops oj σ true) (hdi : okD E.n oi.dst = true) (hdj : okD E.n oj.dst = true)
    (h : OX P E kp oi σ (fun v σ' => OD P E ops kp K fuel (listed.setIfInBounds i true) (σ'.put oi.dst v)))
    (h' : OX P E kp oj σ (fun v σ' => OD P E ops kp K fuel (listed.setIfInBounds j true) (σ'.put oj.dst v))) : OD P E ops kp K (fuel + 1) listed σ := fun μ a w hI => by
  refine wpAnyH_all hr (by simp) (fun k hk => ?_)
  rcases (show k = i ∨ k = j by simpa using hk) with rfl | rfl
  · unfold wpOp
    simp only [hi, wanted_of hI hwi, if_true]
    refine .inl (h μ a w hI _ _ (fun v σ' c μ' w' k hv hi' hs => ⟨hs.sm, ?_⟩))
    exact wpAnyH_mono (fun w'' hw'' => hs.trans hw'') _ _ _ _ (k μ' _ w' (hi'.put hdi hv))
  · unfold wpOp
    simp only [hj, wanted_of hI hwj, if_true]
    refine .inl (h' μ a w hI _ _ (fun v σ' c μ' w' k hv hi' hs => ⟨hs.sm, ?_⟩))
    exact wpAnyH_mono (fun w'' hw'' => hs.trans hw'') _ _ _ _ (k μ' _ w' (hi'.put hdj hv))
theorem OD.widen {kp' : Nat → Bool} {fuel : Nat} {listed : Array Bool} (hk : ∀ i, kp i = true → kp' i = true) (h : OD P E ops kp' K fuel listed σ) : OD P E ops kp K fuel listed σ := fun μ a w hI =>
  wpAnyH_mono (fun w' hw' => ⟨fun i hi p hp => hw'.own i (hk i hi) p hp, hw'.rd⟩) _ _ _ _ (h μ a w hI)
theorem CT.draw {id : Nat} {Q : Exit → St → Prop} (hm : P.follows .mixedOrders = true) (kp : Nat → Bool) (h : OD P E ops kp (Q .normal) ops.size (Array.replicate ops.size false) σ) : CT P E (.region id ops true) Q σ := fun μ a w hi => by
  refine Code.wp_mono (fun e a' w' hq => ?_) (wp_region_held hm (h μ a _ hi.drew))
  obtain ⟨rfl, σ', μ', hk, hi'⟩ := hq
  exact ⟨σ', μ', hk, hi'⟩
/-! ### what only reckons -/
theorem OP.move {x : Operand} (ho : o.op = .move x) : OP P E kp o σ (σ.ev x) := fun μ a w hi =>
  ⟨a.eval x, hi.ev x, fun w' _ => by simp only [execOp, ho]; rfl⟩
theorem OP.assign {x : Operand} (ho : o.op = .assign x) : OP P E kp o σ (σ.ev x) := fun μ a w hi =>
  ⟨a.eval x, hi.ev x, fun w' _ => by simp only [execOp, ho]; rfl⟩
theorem OP.pick {c x y : Operand} {b : Bool} (ho : o.op = .pick c x y) (hc : σ.ev c = .v (.bool b)) : OP P E kp o σ (pk b (σ.ev x) (σ.ev y)) := fun μ a w hi => by
  have hv := hi.ev c
  rw [hc] at hv
  refine ⟨bif b then a.eval x else a.eval y, ?_, fun w' _ => ?_⟩
  · cases b
    · exact hi.ev y
    · exact hi.ev x
  · simp only [execOp, ho, hv.bool, asBool]
    cases b <;> rfl
theorem OP.bin {op : BinOp} {t t' : TypeId} {x y : Operand} {u v r : Value} (ho : o.op = .binOp op t x y t') (hx : σ.ev x = .v u) (hy : σ.ev y = .v v) (h : ∀ w : World, (do eqGuard op t x y u v; binOp op t u v : Sem Value).run P w = .ok r w) : OP P E kp o σ (.v r) := fun μ a w hi => by
  have h1 := hi.ev x
  have h2 := hi.ev y
  rw [hx] at h1
  rw [hy] at h2
  refine ⟨r, .v r, fun w' _ => ?_⟩
  simp only [execOp, ho, h1.val, h2.val]
  have := h w'
  simp only [Sem.run_bind] at this ⊢
  rw [this]
  rfl
theorem OP.un {op : UnOp} {t : TypeId} {x : Operand} {u r : Value} (ho : o.op = .unOp op t x) (hx : σ.ev x = .v u) (h : ∀ w : World, (Op.unary op u).run P w = .ok r w) : OP P E kp o σ (.v r) := fun μ a w hi => by
  have h1 := hi.ev x
  rw [hx] at h1
  refine ⟨r, .v r, fun w' _ => ?_⟩
  simp only [execOp, ho, h1.val, Sem.run_bind, h w']
  rfl
theorem OP.conv {s d : TypeId} {x : Operand} {u r : Value} (ho : o.op = .convert s d x) (hx : σ.ev x = .v u) (h : ∀ w : World, (convert s d u).run P w = .ok r w) : OP P E kp o σ (.v r) := fun μ a w hi => by
  have h1 := hi.ev x
  rw [hx] at h1
  refine ⟨r, .v r, fun w' _ => ?_⟩
  simp only [execOp, ho, h1.val, Sem.run_bind, h w']
  rfl
theorem OP.extract {x : Operand} {n : Nat} {vs : List AV} {v : AV} (ho : o.op = .extract x n) (hx : σ.ev x = .tup vs) (hn : vs[n]? = some v) : OP P E kp o σ v := fun μ a w hi => by
  have h1 := hi.ev x
  rw [hx] at h1
  generalize hc : a.eval x = c at h1
  cases h1 with
  | tup hl =>
    obtain ⟨d, hd, hv⟩ := hl.get n v hn
    refine ⟨d, hv, fun w' _ => ?_⟩
    simp only [execOp, ho, hc, Instr.extract, List.getElem?_toArray, hd]
    rfl
end
end Go.BH
