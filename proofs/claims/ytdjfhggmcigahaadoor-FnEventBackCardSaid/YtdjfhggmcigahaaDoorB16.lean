/- Pure operations in letters, 2. -/
import Derived.Test.YtdjfhggmcigahaaDoorB15
set_option linter.unusedVariables false
set_option linter.unusedSimpArgs false
namespace Go.BH
open Go.RowKit
/-- Pairs of whole numbers, side by side. -/
def pairS : List SV → List SV → Option (List (IntKind × At × At))
  | [], [] => some []
  | .dat (.int k) a :: xs, .dat (.int k') b :: ys => if decide (k = k') = true then (match pairS xs ys with
    | some r => some ((k, a, b) :: r)
    | none => none) else none
  | _, _ => none
def eqNds : Nat → List (IntKind × At × At) → At → List Nd × At
  | _, [], acc => ([], acc)
  | m, (k, a, b) :: r, acc => match eqNds (m + 2) r (.v (m + 1)) with
    | (nds, x) => (.pr (.cmp .eql k) [a, b] :: .pr .and [acc, .v m] :: nds, x)
def isCmp : BinOp → Bool
  | .eql => true
  | .neq => true
  | .lss => true
  | .leq => true
  | .gtr => true
  | .geq => true
  | _ => false
def isSh : BinOp → Bool
  | .shl => true
  | .shr => true
  | _ => false
def isAdd : BinOp → Bool
  | .add => true
  | _ => false
def isEq : BinOp → Bool
  | .eql => true
  | _ => false
def isNe : BinOp → Bool
  | .neq => true
  | _ => false
theorem facts_app {Φ : Fns} {env : List D} : ∀ {l r : List Nd} {m : Nat}, (∀ x ∈ l, ∃ p xs, x = Nd.pr p xs) → Facts Φ env m (l ++ r) → Facts Φ env m l ∧ Facts Φ env (m + l.length) r
  | [], r, m, _, h => ⟨trivial, by simpa using h⟩
  | .pr p xs :: l, r, m, hp, h => by
    obtain ⟨h1, h2⟩ := facts_app (l := l) (r := r) (m := m + 1) (fun x hx => hp x (List.mem_cons_of_mem _ hx)) h.2
    exact ⟨⟨h.1, h1⟩, by rw [List.length_cons, show m + (l.length + 1) = m + 1 + l.length by omega]; exact h2⟩
  | .call f xs ps tys :: l, r, m, hp, h => by
    obtain ⟨p, xs, e⟩ := hp _ List.mem_cons_self
    cases e
def sBin (tab : TyTab) (m : Nat) (o : BinOp) (t : TypeId) (x y : SV) : Option (List Nd × SV) :=
  match x, y with
  | .dat (.int k) a, .dat (.int k') b =>
    if isSh o = true then some ([.pr (.sh o k k') [a, b]], .dat (.int k) (.v m))
    else if decide (k = k') = true then (if isCmp o = true then some ([.pr (.cmp o k) [a, b]], .dat .bool (.v m)) else some ([.pr (.bin o k) [a, b]], .dat (.int k) (.v m)))
    else none
  | .dat .str a, .dat .str b => if isAdd o = true then some ([.pr .cat [a, b]], .dat .str (.v m)) else some ([.pr (.cmpS o) [a, b]], .dat .bool (.v m))
  | .dat .bool a, .dat .bool b => match tyGet tab t with
    | some T => (match T.kind with
      | .bool => if isEq o = true then some ([.pr .eqb [a, b]], .dat .bool (.v m)) else if isNe o = true then some ([.pr .eqb [a, b], .pr .not [.v m]], .dat .bool (.v (m + 1))) else none
      | _ => none)
    | none => none
  | .agg xs, .agg ys => match tyGet tab t, pairS xs ys with
    | some T, some ps => if (T.eqi && Nat.beq T.size ps.length) = true then
        (match eqNds m ps (.k (.b true)) with
        | (nds, a) => if isEq o = true then some (nds, .dat .bool a) else if isNe o = true then some (nds ++ [.pr .not [a]], .dat .bool (.v (m + nds.length))) else none) else none
    | _, _ => none
  | _, _ => none
section
variable {P : Program} {E : En} {σ : SS} {o : Oper} {kp : Nat → Bool} {tab : TyTab} {env : List D} {m : Nat} {nds : List Nd} {v : SV} {Φ : Fns}
theorem kindD_slice {d : TypeDesc} {e : TypeId} (h : kindD d = .slice e) : d = .slice e := by
  cases d <;> simp_all [kindD]
theorem kindD_str {d : TypeDesc} (h : kindD d = .str) : d = .string := by
  cases d <;> simp_all [kindD]
theorem kindD_int {d : TypeDesc} {k : IntKind} (h : kindD d = .int k) : d = .int k := by
  cases d <;> simp_all [kindD]
theorem kindD_bool {d : TypeDesc} (h : kindD d = .bool) : d = .bool := by
  cases d <;> simp_all [kindD]
theorem kindD_iface {d : TypeDesc} (h : kindD d = .iface) : ∃ ms, d = .interface ms := by
  cases d <;> simp_all [kindD]
theorem kindD_struct {d : TypeDesc} {fs : List (TypeId × Nat)} (h : kindD d = .struct fs) : ∃ gs : Array Field, d = .struct gs ∧ fs = gs.toList.map fun f => (f.type, f.offset) := by
  cases d <;> simp_all [kindD]
theorem encC_int (k : IntKind) (z : Int) : encC (.int k) (.i z) = .v (.int k z) := by rw [encC]
theorem encC_bool (z : Bool) : encC .bool (.b z) = .v (.bool z) := by rw [encC]
theorem encC_str (z : ByteArray) : encC .str (.s z) = .v (.string z) := by rw [encC]
theorem map_int {d r : D} {x : Option Int} (h : x.map D.i = some r) : ∃ z, x = some z ∧ r = .i z := by
  obtain ⟨z, h1, h2⟩ := Option.map_eq_some_iff.1 h
  exact ⟨z, h1, h2.symm⟩
/-- Two whole numbers that an operation has been given. -/
theorem fact2i {p : Pr} {k k' : IntKind} {a b : At} (h : Fact env m p [a, b]) (hp : p.args = [.int k, .int k']) : ∃ x y, a.den env = .i x ∧ b.den env = .i y ∧ p.eval [.i x, .i y] = some ((At.v m).den env) := by
  obtain ⟨h1, h2⟩ := h
  rw [hp] at h2
  simp only [List.map_cons, List.map_nil, okZ, Bool.and_eq_true, Bool.and_true] at h1 h2
  obtain ⟨x, hx⟩ := okC_int h2.1
  obtain ⟨y, hy⟩ := okC_int h2.2
  exact ⟨x, y, hx, hy, by rw [← hx, ← hy]; exact h1⟩
theorem fact2b {p : Pr} {a b : At} (h : Fact env m p [a, b]) (hp : p.args = [.bool, .bool]) : ∃ x y, a.den env = .b x ∧ b.den env = .b y ∧ p.eval [.b x, .b y] = some ((At.v m).den env) := by
  obtain ⟨h1, h2⟩ := h
  rw [hp] at h2
  simp only [List.map_cons, List.map_nil, okZ, Bool.and_eq_true, Bool.and_true] at h1 h2
  obtain ⟨x, hx⟩ := okC_bool h2.1
  obtain ⟨y, hy⟩ := okC_bool h2.2
  exact ⟨x, y, hx, hy, by rw [← hx, ← hy]; exact h1⟩
theorem fact2s {p : Pr} {a b : At} (h : Fact env m p [a, b]) (hp : p.args = [.str, .str]) : ∃ x y, a.den env = .s x ∧ b.den env = .s y ∧ p.eval [.s x, .s y] = some ((At.v m).den env) := by
  obtain ⟨h1, h2⟩ := h
  rw [hp] at h2
  simp only [List.map_cons, List.map_nil, okZ, Bool.and_eq_true, Bool.and_true] at h1 h2
  obtain ⟨x, hx⟩ := okC_str h2.1
  obtain ⟨y, hy⟩ := okC_str h2.2
  exact ⟨x, y, hx, hy, by rw [← hx, ← hy]; exact h1⟩
theorem fact1b {p : Pr} {a : At} (h : Fact env m p [a]) (hp : p.args = [.bool]) : ∃ x, a.den env = .b x ∧ p.eval [.b x] = some ((At.v m).den env) := by
  obtain ⟨h1, h2⟩ := h
  rw [hp] at h2
  simp only [List.map_cons, List.map_nil, okZ, Bool.and_eq_true, Bool.and_true] at h1 h2
  obtain ⟨x, hx⟩ := okC_bool h2
  exact ⟨x, hx, by rw [← hx]; exact h1⟩
theorem fact1i {p : Pr} {k : IntKind} {a : At} (h : Fact env m p [a]) (hp : p.args = [.int k]) : ∃ x, a.den env = .i x ∧ p.eval [.i x] = some ((At.v m).den env) := by
  obtain ⟨h1, h2⟩ := h
  rw [hp] at h2
  simp only [List.map_cons, List.map_nil, okZ, Bool.and_eq_true, Bool.and_true] at h1 h2
  obtain ⟨x, hx⟩ := okC_int h2
  exact ⟨x, hx, by rw [← hx]; exact h1⟩
theorem eqNds_pr : ∀ (ps : List (IntKind × At × At)) (m : Nat) (acc : At), ∀ x ∈ (eqNds m ps acc).1, ∃ p xs, x = Nd.pr p xs
  | [], m, acc, x, hx => by simp [eqNds] at hx
  | (k, a, b) :: r, m, acc, x, hx => by
    simp only [eqNds, List.mem_cons] at hx
    rcases hx with rfl | rfl | hx
    · exact ⟨_, _, rfl⟩
    · exact ⟨_, _, rfl⟩
    · exact eqNds_pr r _ _ x hx
theorem eqNds_ok : ∀ {ps : List (IntKind × At × At)} {m : Nat} {acc : At} {t : Bool}, Facts Φ env m (eqNds m ps acc).1 → acc.den env = .b t → ∃ qs : List (IntKind × Int × Int), ps = ps ∧ qs.length = ps.length ∧ (∀ xs ys, pairS xs ys = some ps → SV.dens env xs = vals (fstP qs) ∧ SV.dens env ys = vals (sndP qs)) ∧ (eqNds m ps acc).2.den env = .b (t && allEq qs)
  | [], m, acc, t, _, h => by
    refine ⟨[], rfl, rfl, fun xs ys hp => ?_, by simp [eqNds, allEq, h]⟩
    unfold pairS at hp
    split at hp
    · exact ⟨rfl, rfl⟩
    · split at hp
      · split at hp
        · cases hp
        · cases hp
      · cases hp
    · cases hp
  | (k, a, b) :: r, m, acc, t, hf, h => by
    simp only [eqNds, Facts] at hf
    obtain ⟨x, y, h1, h2, h3⟩ := fact2i hf.1 rfl
    simp only [Pr.eval, cmpI, Option.map_some, Option.some.injEq] at h3
    obtain ⟨x', y', h4, h5, h6⟩ := fact2b hf.2.1 rfl
    rw [h] at h4
    cases h4
    rw [← h3] at h5
    cases h5
    simp only [Pr.eval, Option.some.injEq] at h6
    obtain ⟨qs, _, k1, k2, k3⟩ := eqNds_ok hf.2.2 h6.symm
    refine ⟨(k, x, y) :: qs, rfl, by simp [k1], fun xs ys hp => ?_, ?_⟩
    · unfold pairS at hp
      split at hp
      · cases hp
      · rename_i kk aa xs' kk' bb ys'
        split at hp
        · rename_i hk
          have hk := of_decide_eq_true hk
          subst hk
          split at hp
          · rename_i r' hr
            cases hp
            obtain ⟨e1, e2⟩ := k2 _ _ hr
            have w1 : (SV.dat (.int k) a).den env = .v (.int k x) := by rw [SV.den, h1, encC_int]
            have w2 : (SV.dat (.int k) b).den env = .v (.int k y) := by rw [SV.den, h2, encC_int]
            simp only [SV.dens, e1, e2, w1, w2]
            exact ⟨rfl, rfl⟩
          · cases hp
        · cases hp
      · cases hp
    · simp only [eqNds, k3, allEq, Bool.and_assoc]
theorem sBin_ok {op : BinOp} {t t' : TypeId} {x y : Operand} (htab : TabOk P tab) (ho : o.op = .binOp op t x y t') (h : sBin tab m op t (σ.ev x) (σ.ev y) = some (nds, v)) (hf : Facts Φ env m nds) : OP P E kp o (σ.den env) (v.den env) := by
  have hx := SS.ev_den env σ x
  have hy := SS.ev_den env σ y
  unfold sBin at h
  split at h
  · rename_i k a k' b h1 h2
    rw [h1] at hx
    rw [h2] at hy
    split at h
    · cases h
      obtain ⟨z1, z2, e1, e2, e3⟩ := fact2i hf.1 rfl
      rw [SV.den, e1, encC_int] at hx
      rw [SV.den, e2, encC_int] at hy
      obtain ⟨z, e4, e5⟩ := map_int (d := default) e3
      rw [SV.den, e5, encC_int]
      exact OP.sh ho hx hy e4
    · split at h
      · rename_i hk
        have hk := of_decide_eq_true hk
        subst hk
        split at h
        · cases h
          obtain ⟨z1, z2, e1, e2, e3⟩ := fact2i hf.1 rfl
          rw [SV.den, e1, encC_int] at hx
          rw [SV.den, e2, encC_int] at hy
          obtain ⟨z, e4, e5⟩ := Option.map_eq_some_iff.1 e3
          rw [SV.den, ← e5, encC_bool]
          exact OP.cmp ho hx hy e4
        · cases h
          obtain ⟨z1, z2, e1, e2, e3⟩ := fact2i hf.1 rfl
          rw [SV.den, e1, encC_int] at hx
          rw [SV.den, e2, encC_int] at hy
          obtain ⟨z, e4, e5⟩ := map_int (d := default) e3
          rw [SV.den, e5, encC_int]
          exact OP.int ho hx hy e4
      · cases h
  · rename_i a b h1 h2
    rw [h1] at hx
    rw [h2] at hy
    split at h
    · rename_i ha
      cases h
      have : op = .add := by cases op <;> simp_all [isAdd]
      subst this
      obtain ⟨z1, z2, e1, e2, e3⟩ := fact2s hf.1 rfl
      rw [SV.den, e1, encC_str] at hx
      rw [SV.den, e2, encC_str] at hy
      simp only [Pr.eval] at e3
      split at e3
      · cases e3
      · rename_i hh
        rw [SV.den, ← Option.some.inj e3, encC_str]
        exact OP.cat ho hx hy hh
    · cases h
      obtain ⟨z1, z2, e1, e2, e3⟩ := fact2s hf.1 rfl
      rw [SV.den, e1, encC_str] at hx
      rw [SV.den, e2, encC_str] at hy
      obtain ⟨z, e4, e5⟩ := Option.map_eq_some_iff.1 e3
      rw [SV.den, ← e5, encC_bool]
      exact OP.str ho hx hy e4
  · rename_i a b h1 h2
    rw [h1] at hx
    rw [h2] at hy
    split at h
    · rename_i T hT
      obtain ⟨d, info, z, hu, hi, hz, t1, t2, t3, t4, t5, t6⟩ := tyGet_ok htab hT
      split at h
      · rename_i hk
        rw [t4] at hk
        rw [kindD_bool hk] at hu
        split at h
        · rename_i he
          have : op = .eql := by cases op <;> simp_all [isEq]
          subst this
          cases h
          obtain ⟨z1, z2, e1, e2, e3⟩ := fact2b hf.1 rfl
          rw [SV.den, e1, encC_bool] at hx
          rw [SV.den, e2, encC_bool] at hy
          rw [SV.den, ← Option.some.inj e3, encC_bool]
          exact OP.eqb ho hu hx hy (.inl ⟨rfl, rfl⟩)
        · split at h
          · rename_i he
            have : op = .neq := by cases op <;> simp_all [isNe]
            subst this
            cases h
            obtain ⟨z1, z2, e1, e2, e3⟩ := fact2b hf.1 rfl
            obtain ⟨z3, e4, e5⟩ := fact1b hf.2.1 rfl
            rw [SV.den, e1, encC_bool] at hx
            rw [SV.den, e2, encC_bool] at hy
            rw [← Option.some.inj e3] at e4
            cases e4
            rw [SV.den, ← Option.some.inj e5, encC_bool]
            exact OP.eqb ho hu hx hy (.inr ⟨rfl, rfl⟩)
          · cases h
      · cases h
    · cases h
  · rename_i xs ys h1 h2
    rw [h1] at hx
    rw [h2] at hy
    split at h
    · rename_i T ps hT hps
      obtain ⟨d, info, z, hu, hi, hz, t1, t2, t3, t4, t5, t6⟩ := tyGet_ok htab hT
      split at h
      · rename_i hb
        simp only [Bool.and_eq_true] at hb
        have hsz := Nat.eq_of_beq_eq_true hb.2
        have hei := t6 hb.1
        generalize hq : eqNds m ps (.k (.b true)) = q at h
        obtain ⟨ns, a⟩ := q
        simp only at h
        split at h
        · rename_i he
          have : op = .eql := by cases op <;> simp_all [isEq]
          subst this
          cases h
          have hf' : Facts Φ env m (eqNds m ps (.k (.b true))).1 := by rw [hq]; exact hf
          obtain ⟨qs, _, k1, k2, k3⟩ := eqNds_ok (t := true) hf' rfl
          obtain ⟨e1, e2⟩ := k2 xs ys hps
          rw [hq] at k3
          rw [SV.den, e1] at hx
          rw [SV.den, e2] at hy
          rw [SV.den, k3, encC_bool, Bool.true_and]
          exact OP.binAgg ho hx hy (by rw [k1, ← hsz]; exact hei) (.inl ⟨rfl, rfl⟩)
        · split at h
          · rename_i he
            have : op = .neq := by cases op <;> simp_all [isNe]
            subst this
            cases h
            have hpr := eqNds_pr ps m (.k (.b true))
            rw [hq] at hpr
            obtain ⟨hf1, hf2⟩ := facts_app hpr hf
            have hf' : Facts Φ env m (eqNds m ps (.k (.b true))).1 := by rw [hq]; exact hf1
            obtain ⟨qs, _, k1, k2, k3⟩ := eqNds_ok (t := true) hf' rfl
            obtain ⟨e1, e2⟩ := k2 xs ys hps
            rw [hq] at k3
            obtain ⟨z3, e4, e5⟩ := fact1b hf2.1 rfl
            simp only [Bool.true_and] at k3
            rw [k3] at e4
            cases e4
            rw [SV.den, e1] at hx
            rw [SV.den, e2] at hy
            rw [SV.den, ← Option.some.inj e5, encC_bool]
            exact OP.binAgg ho hx hy (by rw [k1, ← hsz]; exact hei) (.inr ⟨rfl, rfl⟩)
          · cases h
      · cases h
    · cases h
  · cases h
end
end Go.BH
