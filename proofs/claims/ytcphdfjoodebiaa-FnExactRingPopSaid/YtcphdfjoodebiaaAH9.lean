/- The plain picture of a call's memory, 9: functions: what a call does, and how that is shown. -/
import Derived.Test.YtcphdfjoodebiaaAH8
set_option linter.unusedVariables false
set_option linter.unusedSimpArgs false
namespace Go.AH
open Go.RowKit
mutual
/-- The blocks by other names. -/
def AV.ren (ρ : Nat → Id) : AV → AV
  | .ptr (.g n) o => .ptr (ρ n) o
  | .sl (.g n) o m s => .sl (ρ n) o m s
  | .agg cs => .agg (AV.rens ρ cs)
  | .tup cs => .tup (AV.rens ρ cs)
  | .fn f x y => .fn f (AV.rens ρ x) (AV.rens ρ y)
  | x => x
def AV.rens (ρ : Nat → Id) : List AV → List AV
  | [] => []
  | x :: xs => AV.ren ρ x :: AV.rens ρ xs
end
theorem rens_map (ρ : Nat → Id) (l : List AV) : AV.rens ρ l = l.map (AV.ren ρ) := by
  induction l with
  | nil => rfl
  | cons x xs ih => simp [AV.rens, ih]
theorem rens_length (ρ : Nat → Id) (l : List AV) : (AV.rens ρ l).length = l.length := by rw [rens_map, List.length_map]
theorem rens_vals (ρ : Nat → Id) (l : List Value) : AV.rens ρ (vals l) = vals l := by
  induction l with
  | nil => rfl
  | cons x xs ih =>
    have : vals (x :: xs) = .v x :: vals xs := rfl
    rw [this, AV.rens, ih]
    rfl
mutual
theorem VR.ren {ρ : Nat → Id} {μ ν : Id → Option Pl} (h : ∀ n a, μ (.g n) = some a → ν (ρ n) = some a) : ∀ {x : AV} {c : Value}, x.noL = true → VR μ x c → VR ν (x.ren ρ) c
  | _, _, _, .any c => .any c
  | _, _, _, .v x => .v x
  | _, _, n, .ptr (i := .g _) k => .ptr (h _ _ k)
  | _, _, n, .ptr (i := .l _) k => by simp [AV.noL] at n
  | _, _, n, .sl (i := .g _) k hc he => .sl (h _ _ k) hc he
  | _, _, n, .sl (i := .l _) k hc he => by simp [AV.noL] at n
  | _, _, n, .sl0 (i := .g _) a => .sl0 a
  | _, _, n, .sl0 (i := .l _) a => by simp [AV.noL] at n
  | _, _, n, .nl (i := .g _) => .nl
  | _, _, n, .nl (i := .l _) => by simp [AV.noL] at n
  | _, _, _, .e0 a => .e0 a
  | _, _, n, .agg k => .agg (VRs.ren h (by simpa [AV.noL] using n) k)
  | _, _, n, .tup k => .tup (VRs.ren h (by simpa [AV.noL] using n) k)
  | _, _, n, .fn k m => .fn (VRs.ren h (by simp [AV.noL] at n; exact n.1) k) (VRs.ren h (by simp [AV.noL] at n; exact n.2) m)
theorem VRs.ren {ρ : Nat → Id} {μ ν : Id → Option Pl} (h : ∀ n a, μ (.g n) = some a → ν (ρ n) = some a) : ∀ {x : List AV} {c : List Value}, AV.noLs x = true → VRs μ x c → VRs ν (AV.rens ρ x) c
  | _, _, _, .nil => .nil
  | _, _, n, .cons k m => .cons (VR.ren h (by simp [AV.noLs] at n; exact n.1) k) (VRs.ren h (by simp [AV.noLs] at n; exact n.2) m)
end
mutual
theorem VR.unren {ρ : Nat → Id} {μ ν : Id → Option Pl} (h : ∀ n a, ν (ρ n) = some a → μ (.g n) = some a) : ∀ {x : AV} {c : Value}, x.noL = true → VR ν (x.ren ρ) c → VR μ x c
  | .any, _, _, _ => .any _
  | .v x, _, _, k => by cases k; exact .v x
  | .ptr (.g n) o, _, _, k => by
    cases k with
    | ptr k => exact .ptr (h _ _ k)
  | .ptr (.l _) _, _, n, _ => by simp [AV.noL] at n
  | .sl (.g n) o m s, _, _, k => by
    simp only [AV.ren] at k
    cases k with
    | sl k hc he => exact .sl (h _ _ k) hc he
    | sl0 a => exact .sl0 a
    | nl => exact .nl
  | .sl (.l _) _ _ _, _, n, _ => by simp [AV.noL] at n
  | .e0, _, _, k => by cases k; exact .e0 _
  | .agg cs, _, n, k => by
    cases k with
    | agg k => exact .agg (VRs.unren h (by simpa [AV.noL] using n) k)
  | .tup cs, _, n, k => by
    cases k with
    | tup k => exact .tup (VRs.unren h (by simpa [AV.noL] using n) k)
  | .fn f x y, _, n, k => by
    simp [AV.noL] at n
    cases k with
    | fn k m => exact .fn (VRs.unren h n.1 k) (VRs.unren h n.2 m)
theorem VRs.unren {ρ : Nat → Id} {μ ν : Id → Option Pl} (h : ∀ n a, ν (ρ n) = some a → μ (.g n) = some a) : ∀ {x : List AV} {c : List Value}, AV.noLs x = true → VRs ν (AV.rens ρ x) c → VRs μ x c
  | [], _, _, k => by cases k; exact .nil
  | x :: xs, _, n, k => by
    simp [AV.noLs] at n
    cases k with
    | cons k m => exact .cons (VR.unren h n.1 k) (VRs.unren h n.2 m)
end
/-- Which of the blocks handed over may be written: those handed over as own. -/
def gM (g : List Blk) (n : Nat) : Prop := ((g[n]?).getD .dead).isOwn = true
/-- The function f, called with these arguments over these blocks, returns; R tells what, and the blocks then. -/
def FT (P : Program) (f : FuncId) (args : List AV) (g : List Blk) (R : AV → List Blk → Prop) : Prop :=
  ∀ (base : Nat) (μ : Id → Option Pl) (w : World) (vs : List Value), base ≤ w.heap.size → HR base μ ⟨g, []⟩ w → Fresh μ ⟨g, []⟩ → (∀ n, μ (.l n) = none) → VRs μ args vs →
    Calls P f vs.toArray w (fun e w' => ∃ c r g' μ', e = .returned c ∧ R r g' ∧ r.noL = true ∧ VR μ' r c ∧ HR base μ' ⟨g', []⟩ w' ∧ Fresh μ' ⟨g', []⟩ ∧ (∀ n, n < g.length → μ' (.g n) = μ (.g n)) ∧ g.length ≤ g'.length ∧
      Kept (fun k => ∃ n a, gM g n ∧ μ (.g n) = some a ∧ a.block = k) w w' ∧ (∀ n, g.length ≤ n → ((g'[n]?).getD .dead).alive = true → ∀ a, μ' (.g n) = some a → w.heap.size ≤ a.block))
theorem FT.mono {P : Program} {f : FuncId} {args : List AV} {g : List Blk} {R R' : AV → List Blk → Prop} (h : FT P f args g R) (hr : ∀ r g', R r g' → R' r g') : FT P f args g R' := fun base μ w vs h1 h2 h3 h4 h5 =>
  Calls.mono (h base μ w vs h1 h2 h3 h4 h5) (fun e w' ⟨c, r, g', μ', a, b, d⟩ => ⟨c, r, g', μ', a, hr _ _ b, d⟩)
/-! ### a body -/
def argT : Nat → List AV → List (Nat × AV)
  | _, [] => []
  | n, x :: xs => (n, x) :: argT (n + 1) xs
theorem argT_ok {μ : Id → Option Pl} : ∀ {x : List AV} {c : List Value} (n : Nat) (pre : List Value) (post : List Value), VRs μ x c → pre.length = n → ∀ t, VR μ (tk (argT n x) t) ((pre ++ c ++ post).toArray.getD t undef)
  | _, _, n, pre, post, .nil, _, t => .any _
  | x :: xs, c :: cs, n, pre, post, .cons h k, hp, t => by
    simp only [argT, tk]
    cases e : Nat.beq n t with
    | true =>
      have := Nat.eq_of_beq_eq_true e
      subst this
      subst hp
      simpa using h
    | false =>
      have := argT_ok (n + 1) (pre ++ [c]) post k (by simp [hp]) t
      simpa using this
/-- What a result variable holds. -/
inductive RV (P : Program) (σ : St) : ResultVar → AV → Prop where
  | tmp (t : Tmp) {v : AV} (h : tk σ.T t = v) : RV P σ (.tmp t) v
  | cell1 {a : Tmp} {t : TypeId} {d : TypeDesc} {i : Id} {k : Nat} {x : AV} (ht : P.underlying t = some d) (ha : aggD d = false) (hp : tk σ.T a = .ptr i k) (hx : (σ.H.get i).cells[k]? = some x) : RV P σ (.cell a t) x
  | cellN {a : Tmp} {t : TypeId} {d : TypeDesc} {info : TypeInfo} {i : Id} {k : Nat} {cs : List AV} (ht : P.underlying t = some d) (ha : aggD d = true) (hs : P.info? t = some info) (h0 : info.size ≠ 0) (hp : tk σ.T a = .ptr i k) (hx : k + info.size ≤ (σ.H.get i).cells.length) (hc : ((σ.H.get i).cells.drop k).take info.size = cs) : RV P σ (.cell a t) (.agg cs)
inductive RVs (P : Program) (σ : St) : List ResultVar → List AV → Prop where
  | nil : RVs P σ [] []
  | cons {x : ResultVar} {v : AV} {xs : List ResultVar} {vs : List AV} (h : RV P σ x v) (k : RVs P σ xs vs) : RVs P σ (x :: xs) (v :: vs)
/-- The one result, or the tuple of them. -/
def oneOf : List AV → AV
  | [x] => x
  | l => .tup l
/-- The body has come to its end, and R tells what it returns. -/
def RQ (P : Program) (rs : List ResultVar) (R : AV → List Blk → Prop) : Exit → St → Prop := fun e σ =>
  (e = .ret ∨ e = .normal) ∧ ∃ vs, RVs P σ rs vs ∧ AV.noLs vs = true ∧ R (oneOf vs) σ.H.g
def resF (tmps : Array Value) : ResultVar → Sem Value
  | .tmp t => pure (tmps.getD t undef)
  | .cell b t => do loadVar t (← asAddr (tmps.getD b undef))
theorem results_eq (fn : Func) (tmps : Array Value) : results fn tmps = (do let vs ← fn.results.mapM (resF tmps); pure (if h : vs.size = 1 then vs[0] else .tuple vs) : Sem Value) := rfl
section
variable {P : Program} {base : Nat} {E : En} {σ : St}
theorem RV.run {μ : Id → Option Pl} {a : Act} {w : World} (hi : INV base E μ σ a w) {r : ResultVar} {v : AV} (h : RV P σ r v) :
    ∃ c, (resF a.tmps r).run P w = .ok c w ∧ VR μ v c := by
  cases h with
  | tmp t h =>
    subst h
    exact ⟨_, rfl, hi.tmps t⟩
  | @cell1 b t d i k x ht ha hp hx =>
    have := OP.load1 (P := P) (base := base) (E := E) (σ := σ) (kp := fun _ => true) (o := ⟨none, .load t (.tmp b), t, "", #[], none⟩) rfl ht ha hp hx rfl μ a w hi
    obtain ⟨c, hc, hr⟩ := this
    refine ⟨c, ?_, hc⟩
    have hr := hr w (.refl _ _ _)
    have hv := hi.tmps b
    rw [hp] at hv
    generalize hcx : a.tmps.getD b undef = cx at hv
    cases hv with
    | ptr hm =>
      simp only [execOp, Act.eval, hcx, Instr.loadAt, Instr.sureAddr, Sem.run_bind, Sem.run_pure, Result.andThen_ok] at hr
      simp only [resF, hcx, asAddr, Sem.run_bind, Sem.run_pure, Result.andThen_ok]
      generalize hq : (loadVar t _).run P w = q at hr ⊢
      cases q with
      | ok u w' =>
        simp only [Result.andThen_ok, Result.ok.injEq, Next.value.injEq] at hr
        rw [hr.1, hr.2]
      | halt x w' => simp [Result.andThen] at hr
  | @cellN b t d info i k cs ht ha hs h0 hp hx hcs =>
    have := OP.loadN (P := P) (base := base) (E := E) (σ := σ) (kp := fun _ => true) (o := ⟨none, .load t (.tmp b), t, "", #[], none⟩) rfl ht ha hs hp h0 hx rfl μ a w hi
    obtain ⟨c, hc, hr⟩ := this
    rw [hcs] at hc
    refine ⟨c, ?_, hc⟩
    have hr := hr w (.refl _ _ _)
    have hv := hi.tmps b
    rw [hp] at hv
    generalize hcx : a.tmps.getD b undef = cx at hv
    cases hv with
    | ptr hm =>
      simp only [execOp, Act.eval, hcx, Instr.loadAt, Instr.sureAddr, Sem.run_bind, Sem.run_pure, Result.andThen_ok] at hr
      simp only [resF, hcx, asAddr, Sem.run_bind, Sem.run_pure, Result.andThen_ok]
      generalize hq : (loadVar t _).run P w = q at hr ⊢
      cases q with
      | ok u w' =>
        simp only [Result.andThen_ok, Result.ok.injEq, Next.value.injEq] at hr
        rw [hr.1, hr.2]
      | halt x w' => simp [Result.andThen] at hr
theorem RVs.run {μ : Id → Option Pl} {a : Act} {w : World} (hi : INV base E μ σ a w) : ∀ {rs : List ResultVar} {vs : List AV}, RVs P σ rs vs → ∃ cs : List Value, (rs.mapM (resF a.tmps)).run P w = .ok cs w ∧ VRs μ vs cs
  | _, _, .nil => ⟨[], rfl, .nil⟩
  | _, _, .cons h k => by
    obtain ⟨c, h1, h2⟩ := h.run hi
    obtain ⟨cs, k1, k2⟩ := RVs.run hi k
    refine ⟨c :: cs, ?_, .cons h2 k2⟩
    rw [List.mapM_cons]
    simp only [Sem.run_bind, h1, Result.andThen_ok, k1, Sem.run_pure]
theorem FT.of_body {f : FuncId} {fn : Func} {c : Code} {args : List AV} {g : List Blk} {R : AV → List Blk → Prop} (hf : P.funcs[f]? = some fn) (hb : fn.body = some c) (hn : args.length ≤ fn.ntmps)
    (h : ∀ base μ w, CT P base ⟨μ, w, g, gM g, fn.ntmps⟩ c (RQ P fn.results.toList R) ⟨argT 0 args, ⟨g, []⟩⟩) : FT P f args g R := fun base μ w vs hbase hh hfr hl hv => by
  have hlen := hv.length
  refine calls_of_wp hf hb (Code.wp_mono (fun e a w' hq => ?_) (h base μ w μ _ w ?_))
  · obtain ⟨σ', μ', ⟨he, rvs, hr, hnl, hR⟩, hi⟩ := hq
    obtain ⟨cs, hrun, hcs⟩ := hr.run hi
    let ν : Id → Option Pl := fun i => match i with
      | .g n => μ' (.g n)
      | .l _ => none
    have hg : ∀ n a, μ' (.g n) = some a → ν (.g n) = some a := fun n a h => h
    have hres : (results fn a.tmps).run P w' = .ok (if h : cs.toArray.size = 1 then cs.toArray[0] else .tuple cs.toArray) w' := by
      have hm : (fn.results.mapM (resF a.tmps)).run P w' = .ok cs.toArray w' := by
        rw [Array.mapM_eq_mapM_toList]
        simp only [map_eq_pure_bind, Sem.run_bind, hrun, Result.andThen_ok, Sem.run_pure]
      rw [results_eq]
      simp only [Sem.run_bind, Sem.run_pure, hm, Result.andThen_ok]
    have hrv : VR ν (oneOf rvs) (if h : cs.toArray.size = 1 then cs.toArray[0] else .tuple cs.toArray) ∧ (oneOf rvs).noL = true := by
      have hcs' : VRs ν rvs cs := hcs.monoG hg hnl
      cases hcs' with
      | nil => exact ⟨.tup .nil, rfl⟩
      | cons h k =>
        cases k with
        | nil => exact ⟨h, by simpa [oneOf, AV.noLs] using hnl⟩
        | cons h' k' => exact ⟨by simpa [oneOf] using VR.tup (.cons h (.cons h' k')), by simpa [oneOf, AV.noL] using hnl⟩
    have hheap : HR base ν ⟨σ'.H.g, []⟩ w' := by
      refine ⟨fun i hi' => ?_, fun i hi' b hb' => ?_, fun i j hij hi' hj' b d hb' hd' => ?_, fun i x hx => ?_, fun i b hb' => ?_⟩
      · cases i with
        | l n => simp [Hp.get, lget, Blk.cells] at hi'
        | g n =>
          obtain ⟨b, hb', hl', hat⟩ := hi.heap.there (.g n) hi'
          exact ⟨b, hb', hl', hat.mono (fun _ => rfl) (fun x hx c hc => hc.monoG hg (hi.heap.clean (.g n) x hx))⟩
      · cases i with
        | l n => cases hb'
        | g n => exact hi.heap.own (.g n) hi' b hb'
      · cases i with
        | l n => cases hb'
        | g n =>
          cases j with
          | l m => cases hd'
          | g m => exact hi.heap.apart _ _ hij hi' hj' b d hb' hd'
      · cases i with
        | l n => simp [Hp.get, lget, Blk.cells] at hx
        | g n => exact hi.heap.clean (.g n) x hx
      · cases i with
        | l n => cases hb'
        | g n => exact hi.heap.old _ b hb'
    have hall : a.defers = [] ∧ ∃ v, (results fn a.tmps).run P w' = .ok v w' ∧ ∃ c r g' μ'', (Ending.returned v) = .returned c ∧ R r g' ∧ r.noL = true ∧ VR μ'' r c ∧ HR base μ'' ⟨g', []⟩ w' ∧ Fresh μ'' ⟨g', []⟩ ∧ (∀ n, n < g.length → μ'' (.g n) = μ (.g n)) ∧ g.length ≤ g'.length ∧
      Kept (fun k => ∃ n a, gM g n ∧ μ (.g n) = some a ∧ a.block = k) w w' ∧ (∀ n, g.length ≤ n → ((g'[n]?).getD .dead).alive = true → ∀ a, μ'' (.g n) = some a → w.heap.size ≤ a.block) :=
      ⟨hi.defers, _, hres, _, _, _, ν, rfl, hR, hrv.2, hrv.1, hheap, fun n hn => hi.fresh n hn, fun n hn => hi.same n hn, hi.len, hi.kept, fun n hn hal b hb' => hi.new (.g n) hal (fun m hm => by cases hm; exact hn) b hb'⟩
    rcases he with rfl | rfl
    · exact hall
    · exact hall
  · refine ⟨fun t => ?_, by simp; omega, rfl, hh, hfr, hbase, fun n _ => rfl, Kept.refl _ _, fun i hi hne b hb' => ?_, Nat.le_refl _⟩
    · have := argT_ok 0 [] (List.replicate (fn.ntmps - vs.length) undef) hv rfl t
      rw [show vs.toArray ++ Array.replicate (fn.ntmps - vs.toArray.size) undef = (vs ++ List.replicate (fn.ntmps - vs.length) undef).toArray by simp]
      exact this
    · cases i with
      | l n => simp [Hp.get, lget, Blk.alive] at hi
      | g n =>
        have := hne n rfl
        simp [Hp.get, List.getElem?_eq_none this, Blk.alive] at hi
end
end Go.AH
