/- The picture by value, 9: functions: what a call does, and how that is shown. -/
import Derived.Test.YtdjfhggmcigahaaDoorB8
set_option linter.unusedVariables false
set_option linter.unusedSimpArgs false
namespace Go.BH
open Go.RowKit
mutual
/-- Nothing that is lent for a call alone. -/
def AV.nl : AV → Bool
  | .fz l _ _ xs => !l && AV.nls xs
  | .pfz l xs => !l && AV.nls xs
  | .agg xs => AV.nls xs
  | .tup xs => AV.nls xs
  | .fn _ xs => AV.nls xs
  | _ => true
def AV.nls : List AV → Bool
  | [] => true
  | x :: xs => AV.nl x && AV.nls xs
end
theorem nls_iff {l : List AV} : AV.nls l = true ↔ ∀ x ∈ l, x.nl = true := by
  induction l with
  | nil => simp [AV.nls]
  | cons x xs ih => simp [AV.nls, ih]
/-- Which blocks of the world a call may write: those handed over by name. -/
def mayH (μ : Mu) (H : Hp) (k : Nat) : Prop := ∃ i cs p, hget H i = some cs ∧ μ.pl i = some p ∧ p.block = k
/-- The function f, called with these arguments over these blocks, returns; R tells what, and the blocks then. -/
def FT (P : Program) (f : FuncId) (args : List AV) (H : Hp) (m : Nat) (R : AV → Hp → Nat → Prop) : Prop :=
  ∀ (μ : Mu) (w : World) (vs : List Value), HR μ H w → (∀ i, m ≤ i → μ.pl i = none) → (∀ i cs, hget H i = some cs → i < m) → VRs μ args vs → GK μ.ln →
    Calls P f vs.toArray w (fun e w' => ∃ c r H' nx μ', e = .returned c ∧ R r H' nx ∧ r.nl = true ∧ (∀ i cs, hget H' i = some cs → AV.nls cs = true) ∧ VR μ' r c ∧ HR μ' H' w' ∧ (∀ i, nx ≤ i → μ'.pl i = none) ∧ (∀ i cs, hget H' i = some cs → i < nx) ∧
      Kept (mayH μ H) w w' ∧ (∀ i cs p, hget H' i = some cs → μ'.pl i = some p → w.heap.size ≤ p.block ∨ mayH μ H p.block) ∧
      (∀ b cs, μ'.fz b = some cs → μ.fz b = some cs ∨ w.heap.size ≤ b ∨ mayH μ H b) ∧ (∀ b cs, μ.fz b = some cs → μ'.fz b = some cs) ∧ (∀ i, i < m → μ'.pl i = μ.pl i) ∧ m ≤ nx)
theorem FT.mono {P : Program} {f : FuncId} {args : List AV} {H : Hp} {m : Nat} {R R' : AV → Hp → Nat → Prop} (h : FT P f args H m R) (hr : ∀ r g n, R r g n → R' r g n) : FT P f args H m R' := fun μ w vs h1 h2 h3 h4 h5 =>
  Calls.mono (h μ w vs h1 h2 h3 h4 h5) (fun e w' ⟨c, r, H', nx, μ', a, b, d⟩ => ⟨c, r, H', nx, μ', a, hr _ _ _ b, d⟩)
/-! ### a body -/
def argT : Nat → List AV → List (Nat × AV)
  | _, [] => []
  | n, x :: xs => (n, x) :: argT (n + 1) xs
theorem argT_ok {μ : Mu} : ∀ {x : List AV} {c : List Value} (n : Nat) (pre : List Value) (post : List Value), VRs μ x c → pre.length = n → ∀ t, VR μ (tk (argT n x) t) ((pre ++ c ++ post).toArray.getD t undef)
  | _, _, n, pre, post, .nil, _, t => .any _
  | x :: xs, c :: cs, n, pre, post, .cons h k, hp, t => by
    simp only [argT, tk]
    cases e : Nat.beq n t with
    | true =>
      have := Nat.eq_of_beq_eq_true e
      subst this
      subst hp
      simpa using h
    | false =>
      have := argT_ok (n + 1) (pre ++ [c]) post k (by simp [hp]) t
      simpa using this
/-- What a result variable holds. -/
inductive RV (P : Program) (σ : St) : ResultVar → AV → Prop where
  | tmp (t : Tmp) {v : AV} (h : tk σ.T t = v) : RV P σ (.tmp t) v
  | cell1 {a : Tmp} {t : TypeId} {d : TypeDesc} {i : Nat} {k : Nat} {cs : List AV} {x : AV} (ht : P.underlying t = some d) (ha : aggD d = false) (hp : tk σ.T a = .ptr i k) (hg : hget σ.H i = some cs) (hx : cs[k]? = some x) : RV P σ (.cell a t) x
  | cellN {a : Tmp} {t : TypeId} {d : TypeDesc} {info : TypeInfo} {i : Nat} {k : Nat} {cs ds : List AV} (ht : P.underlying t = some d) (ha : aggD d = true) (hs : P.info? t = some info) (h0 : info.size ≠ 0) (hp : tk σ.T a = .ptr i k) (hg : hget σ.H i = some cs) (hx : k + info.size ≤ cs.length) (hc : (cs.drop k).take info.size = ds) : RV P σ (.cell a t) (.agg ds)
inductive RVs (P : Program) (σ : St) : List ResultVar → List AV → Prop where
  | nil : RVs P σ [] []
  | cons {x : ResultVar} {v : AV} {xs : List ResultVar} {vs : List AV} (h : RV P σ x v) (k : RVs P σ xs vs) : RVs P σ (x :: xs) (v :: vs)
/-- The one result, or the tuple of them. -/
def oneOf : List AV → AV
  | [x] => x
  | l => .tup l
/-- The body has come to its end, and R tells what it returns. -/
def RQ (P : Program) (rs : List ResultVar) (R : AV → Hp → Nat → Prop) : Exit → St → Prop := fun e σ =>
  (e = .ret ∨ e = .normal) ∧ (∀ i cs, hget σ.H i = some cs → AV.nls cs = true) ∧ ∃ vs, RVs P σ rs vs ∧ AV.nls vs = true ∧ R (oneOf vs) σ.H σ.nx
def resF (tmps : Array Value) : ResultVar → Sem Value
  | .tmp t => pure (tmps.getD t undef)
  | .cell b t => do loadVar t (← asAddr (tmps.getD b undef))
theorem results_eq (fn : Func) (tmps : Array Value) : results fn tmps = (do let vs ← fn.results.mapM (resF tmps); pure (if h : vs.size = 1 then vs[0] else .tuple vs) : Sem Value) := rfl
section
variable {P : Program} {E : En} {σ : St}
theorem RV.run {μ : Mu} {a : Act} {w : World} (hi : INV E μ σ a w) {r : ResultVar} {v : AV} (h : RV P σ r v) :
    ∃ c, (resF a.tmps r).run P w = .ok c w ∧ VR μ v c := by
  cases h with
  | tmp t h =>
    subst h
    exact ⟨_, rfl, hi.tmps t⟩
  | @cell1 b t d i k cs x ht ha hp hg hx =>
    have := OP.load1 (P := P) (E := E) (σ := σ) (kp := fun _ => true) (o := ⟨none, .load t (.tmp b), t, "", #[], none⟩) rfl ht ha hp hg hx rfl μ a w hi
    obtain ⟨c, hc, hr⟩ := this
    refine ⟨c, ?_, hc⟩
    have hr := hr w (.refl _ _ _)
    have hv := hi.tmps b
    rw [hp] at hv
    generalize hcx : a.tmps.getD b undef = cx at hv
    cases hv with
    | ptr hm =>
      simp only [execOp, Act.eval, hcx, Instr.loadAt, Instr.sureAddr, Sem.run_bind, Sem.run_pure, Result.andThen_ok] at hr
      simp only [resF, hcx, asAddr, Sem.run_bind, Sem.run_pure, Result.andThen_ok]
      generalize hq : (loadVar t _).run P w = q at hr ⊢
      cases q with
      | ok u w' =>
        simp only [Result.andThen_ok, Result.ok.injEq, Next.value.injEq] at hr
        rw [hr.1, hr.2]
      | halt x w' => simp [Result.andThen] at hr
  | @cellN b t d info i k cs ds ht ha hs h0 hp hg hx hcs =>
    have := OP.loadN (P := P) (E := E) (σ := σ) (kp := fun _ => true) (o := ⟨none, .load t (.tmp b), t, "", #[], none⟩) rfl ht ha hs hp hg h0 hx rfl μ a w hi
    obtain ⟨c, hc, hr⟩ := this
    rw [hcs] at hc
    refine ⟨c, ?_, hc⟩
    have hr := hr w (.refl _ _ _)
    have hv := hi.tmps b
    rw [hp] at hv
    generalize hcx : a.tmps.getD b undef = cx at hv
    cases hv with
    | ptr hm =>
      simp only [execOp, Act.eval, hcx, Instr.loadAt, Instr.sureAddr, Sem.run_bind, Sem.run_pure, Result.andThen_ok] at hr
      simp only [resF, hcx, asAddr, Sem.run_bind, Sem.run_pure, Result.andThen_ok]
      generalize hq : (loadVar t _).run P w = q at hr ⊢
      cases q with
      | ok u w' =>
        simp only [Result.andThen_ok, Result.ok.injEq, Next.value.injEq] at hr
        rw [hr.1, hr.2]
      | halt x w' => simp [Result.andThen] at hr
theorem RVs.run {μ : Mu} {a : Act} {w : World} (hi : INV E μ σ a w) : ∀ {rs : List ResultVar} {vs : List AV}, RVs P σ rs vs → ∃ cs : List Value, (rs.mapM (resF a.tmps)).run P w = .ok cs w ∧ VRs μ vs cs
  | _, _, .nil => ⟨[], rfl, .nil⟩
  | _, _, .cons h k => by
    obtain ⟨c, h1, h2⟩ := h.run hi
    obtain ⟨cs, k1, k2⟩ := RVs.run hi k
    refine ⟨c :: cs, ?_, .cons h2 k2⟩
    rw [List.mapM_cons]
    simp only [Sem.run_bind, h1, Result.andThen_ok, k1, Sem.run_pure]
theorem FT.of_body {f : FuncId} {fn : Func} {c : Code} {args : List AV} {H : Hp} {m : Nat} {R : AV → Hp → Nat → Prop} (hf : P.funcs[f]? = some fn) (hb : fn.body = some c) (hn : args.length ≤ fn.ntmps)
    (h : ∀ μ w g, CT P ⟨μ, w, mayH μ H, fn.ntmps, m, g⟩ c (RQ P fn.results.toList R) ⟨argT 0 args, H, m⟩) : FT P f args H m R := fun μ w vs hh hfr hlo hv hgk => by
  have hlen := hv.length
  refine calls_of_wp hf hb (Code.wp_mono (fun e a w' hq => ?_) (h μ w hgk μ _ w ?_))
  · obtain ⟨σ', μ', ⟨he, hcl, rvs, hr, hnl, hR⟩, hi⟩ := hq
    obtain ⟨cs, hrun, hcs⟩ := hr.run hi
    have hres : (results fn a.tmps).run P w' = .ok (if h : cs.toArray.size = 1 then cs.toArray[0] else .tuple cs.toArray) w' := by
      have hm : (fn.results.mapM (resF a.tmps)).run P w' = .ok cs.toArray w' := by
        rw [Array.mapM_eq_mapM_toList]
        simp only [map_eq_pure_bind, Sem.run_bind, hrun, Result.andThen_ok, Sem.run_pure]
      rw [results_eq]
      simp only [Sem.run_bind, Sem.run_pure, hm, Result.andThen_ok]
    have hrv : VR μ' (oneOf rvs) (if h : cs.toArray.size = 1 then cs.toArray[0] else .tuple cs.toArray) ∧ (oneOf rvs).nl = true := by
      cases hcs with
      | nil => exact ⟨.tup .nil, rfl⟩
      | cons h k =>
        cases k with
        | nil => exact ⟨h, by simpa [oneOf, AV.nls] using hnl⟩
        | cons h' k' => exact ⟨by simpa [oneOf] using VR.tup (.cons h (.cons h' k')), by simpa [oneOf, AV.nl] using hnl⟩
    have hall : a.defers = [] ∧ ∃ v, (results fn a.tmps).run P w' = .ok v w' ∧ ∃ c r H' nx μ'', (Ending.returned v) = .returned c ∧ R r H' nx ∧ r.nl = true ∧ (∀ i cs, hget H' i = some cs → AV.nls cs = true) ∧ VR μ'' r c ∧ HR μ'' H' w' ∧ (∀ i, nx ≤ i → μ''.pl i = none) ∧ (∀ i cs, hget H' i = some cs → i < nx) ∧
      Kept (mayH μ H) w w' ∧ (∀ i cs p, hget H' i = some cs → μ''.pl i = some p → w.heap.size ≤ p.block ∨ mayH μ H p.block) ∧
      (∀ b cs, μ''.fz b = some cs → μ.fz b = some cs ∨ w.heap.size ≤ b ∨ mayH μ H b) ∧ (∀ b cs, μ.fz b = some cs → μ''.fz b = some cs) ∧ (∀ i, i < m → μ''.pl i = μ.pl i) ∧ m ≤ nx :=
      ⟨hi.defers, _, hres, _, _, _, _, μ', rfl, hR, hrv.2, hcl, hrv.1, hi.heap, hi.fresh, hi.low, hi.kept, hi.may, hi.fzn, hi.fzo, hi.lno.2.1, hi.lno.2.2⟩
    rcases he with rfl | rfl
    · exact hall
    · exact hall
  · refine ⟨fun t => ?_, by simp; omega, rfl, hh, hfr, hlo, Kept.refl _ _, fun i cs p hi hp => .inr ⟨i, cs, p, hi, hp, rfl⟩, fun b cs h => .inl h, fun b cs h => h, rfl, fun i hi => rfl, Nat.le_refl _⟩
    have := argT_ok 0 [] (List.replicate (fn.ntmps - vs.length) undef) hv rfl t
    rw [show vs.toArray ++ Array.replicate (fn.ntmps - vs.toArray.size) undef = (vs ++ List.replicate (fn.ntmps - vs.length) undef).toArray by simp]
    exact this
end
end Go.BH
