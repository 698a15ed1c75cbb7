/- The author's own words; nothing here is trusted. -/
import Derived.Test.YtponfomfcmlfmaaB26
import Derived.Below
import Derived.Deep.Slices
import Derived.ChangeArms
/- A state that says what a shape says. -/
set_option linter.unusedVariables false
set_option linter.unusedSimpArgs false
namespace Go.BH
open Go.RowKit
/-- The shape of a state: the kinds of its own letters (behind those named outside; then the lengths of its blocks). -/
structure Shp where
  ps : List CK
  T : List (Nat × SV)
  H : List (Nat × SB)
  nx : Nat
  deriving Inhabited
def shSt (sh : Shp) (eo vs : List D) : St := (⟨sh.T, sh.H, sh.nx⟩ : SS).den ((eo ++ vs) ++ lensOf (eo ++ vs) sh.H)
/-- y says no more than x: where neither holds others. -/
def wk0 (x y : SV) : Bool :=
  match y with
  | .any => true
  | .sl _ lo n _ => (match x with
    | .nilS => At.beq lo (.k (.i 0)) && At.beq n (.k (.i 0))
    | .e0 => At.beq lo (.k (.i 0)) && At.beq n (.k (.i 0))
    | x => SV.beq x y)
  | .dat (.sl _) a => (match x with
    | .nilS => At.beq a (.k (.l []))
    | .e0 => At.beq a (.k (.l []))
    | x => SV.beq x y)
  | .e0 => (match x with
    | .nilS => true
    | x => SV.beq x y)
  | y => SV.beq x y
mutual
/-- y says no more than x. -/
def wkB : SV → SV → Bool
  | .any, y => wk0 (.any) y
  | .dat k a, y => wk0 (.dat k a) y
  | .lz q k a, y => wk0 (.lz q k a) y
  | .slD i e a ix c, y => wk0 (.slD i e a ix c) y
  | .K v, y => wk0 (.K v) y
  | .nilS, y => wk0 (.nilS) y
  | .e0, y => wk0 (.e0) y
  | .ifc a, y => wk0 (.ifc a) y
  | .ptr i o, y => wk0 (.ptr i o) y
  | .ptrE i ix s o, y => wk0 (.ptrE i ix s o) y
  | .sl i lo n s, y => wk0 (.sl i lo n s) y
  | .pfz l e a ix o, y => wk0 (.pfz l e a ix o) y
  | .agg xs, y => (match y with
    | .agg ys => wkBs xs ys
    | .any => true
    | _ => false)
  | .tup xs, y => (match y with
    | .tup ys => wkBs xs ys
    | .any => true
    | _ => false)
  | .fn f xs, y => (match y with
    | .fn g ys => Nat.beq f g && wkBs xs ys
    | .any => true
    | _ => false)
def wkBs : List SV → List SV → Bool
  | [], y => (match y with
    | [] => true
    | _ => false)
  | x :: xs, y => (match y with
    | y :: ys => wkB x y && wkBs xs ys
    | _ => false)
end
section
variable {env : List D}
theorem wk0_ok {x y : SV} (h : wk0 x y = true) : Wk (x.den env) (y.den env) := by
  have nl : ∀ {lo n : At} {i s : Nat}, (At.beq lo (.k (.i 0)) && At.beq n (.k (.i 0))) = true → ∀ μ c, (∃ A, c = Value.slice A 0 0) → VR μ ((SV.sl i lo n s).den env) c := fun {lo n i s} h μ c ⟨A, e⟩ => by
    simp only [Bool.and_eq_true] at h
    rw [At.beq_eq h.1, At.beq_eq h.2, e]
    simp only [SV.den, At.den, D.nat, D.int, Int.toNat_zero, Nat.zero_mul]
    exact .sl0 _
  have nd : ∀ {e : List CK} {a : At}, At.beq a (.k (.l [])) = true → ∀ μ c, (∃ A, c = Value.slice A 0 0) → VR μ ((SV.dat (.sl e) a).den env) c := fun {e a} h μ c ⟨A, e1⟩ => by
    rw [At.beq_eq h, e1]
    show VR μ (encC (.sl e) (.l [])) _
    rw [encC_sl]
    exact .fz0 _ _
  unfold wk0 at h
  split at h
  · exact .any _
  · split at h
    · exact fun μ c k => nl h μ c (by cases k; exact ⟨_, rfl⟩)
    · exact fun μ c k => nl h μ c (by cases k; exact ⟨_, rfl⟩)
    · rw [SV.beq_eq h]; exact .refl _
  · split at h
    · exact fun μ c k => nd h μ c (by cases k; exact ⟨_, rfl⟩)
    · exact fun μ c k => nd h μ c (by cases k; exact ⟨_, rfl⟩)
    · rw [SV.beq_eq h]; exact .refl _
  · split at h
    · exact fun μ c k => by cases k; exact .e0 _
    · rw [SV.beq_eq h]; exact .refl _
  · rw [SV.beq_eq h]; exact .refl _
mutual
theorem wkB_ok : ∀ {x y : SV}, wkB x y = true → Wk (x.den env) (y.den env)
  | .any, y, h => wk0_ok (by rw [wkB] at h; exact h)
  | .dat k a, y, h => wk0_ok (by rw [wkB] at h; exact h)
  | .lz q k a, y, h => wk0_ok (by rw [wkB] at h; exact h)
  | .slD i e a ix c, y, h => wk0_ok (by rw [wkB] at h; exact h)
  | .K v, y, h => wk0_ok (by rw [wkB] at h; exact h)
  | .nilS, y, h => wk0_ok (by rw [wkB] at h; exact h)
  | .e0, y, h => wk0_ok (by rw [wkB] at h; exact h)
  | .ifc a, y, h => wk0_ok (by rw [wkB] at h; exact h)
  | .ptr i o, y, h => wk0_ok (by rw [wkB] at h; exact h)
  | .ptrE i ix s o, y, h => wk0_ok (by rw [wkB] at h; exact h)
  | .sl i lo n s, y, h => wk0_ok (by rw [wkB] at h; exact h)
  | .pfz l e a ix o, y, h => wk0_ok (by rw [wkB] at h; exact h)
  | .agg xs, y, h => by
    unfold wkB at h
    split at h
    · exact .agg (wkBs_ok h)
    · exact .any _
    · cases h
  | .tup xs, y, h => by
    unfold wkB at h
    split at h
    · exact .tup (wkBs_ok h)
    · exact .any _
    · cases h
  | .fn f xs, y, h => by
    unfold wkB at h
    split at h
    · simp only [Bool.and_eq_true] at h
      obtain rfl := Nat.eq_of_beq_eq_true h.1
      exact .fn (wkBs_ok h.2)
    · exact .any _
    · cases h
theorem wkBs_ok : ∀ {xs ys : List SV}, wkBs xs ys = true → Wks (SV.dens env xs) (SV.dens env ys)
  | [], y, h => by
    unfold wkBs at h
    split at h
    · exact .nil
    · cases h
  | x :: xs, y, h => by
    unfold wkBs at h
    split at h
    · simp only [Bool.and_eq_true] at h
      exact .cons (wkB_ok h.1) (wkBs_ok h.2)
    · cases h
end
end
mutual
/-- What the letters and names of a shape stand for (looked for; nothing rests on it). -/
def bindM (n0 : Nat) : SV → SV → List (Nat × At) × List (Nat × Nat) → List (Nat × At) × List (Nat × Nat)
  | .dat _ a, .dat _ (.v j), (vs, is) => ((j, a) :: vs, is)
  | .lz _ _ a, .lz _ _ (.v j), (vs, is) => ((j, a) :: vs, is)
  | .nilS, .dat _ (.v j), (vs, is) => ((j, .k (.l [])) :: vs, is)
  | .e0, .dat _ (.v j), (vs, is) => ((j, .k (.l [])) :: vs, is)
  | .nilS, .sl _ lo' n' _, (vs, is) => ((match lo' with
      | .v j => [(j, .k (.i 0))]
      | _ => []) ++ (match n' with
      | .v j => [(j, .k (.i 0))]
      | _ => []) ++ vs, is)
  | .e0, .sl _ lo' n' _, (vs, is) => ((match lo' with
      | .v j => [(j, .k (.i 0))]
      | _ => []) ++ (match n' with
      | .v j => [(j, .k (.i 0))]
      | _ => []) ++ vs, is)
  | .sl _ _ _ _, .dat _ _, acc => acc
  | .ptr i _, .ptr q _, (vs, is) => (vs, (q, i) :: is)
  | .ptrE i ix _ _, .ptrE q (.v j) _ _, (vs, is) => ((j, ix) :: vs, (q, i) :: is)
  | .sl i lo n _, .sl q lo' n' _, (vs, is) => ((match lo' with
      | .v j => [(j, lo)]
      | _ => []) ++ (match n' with
      | .v j => [(j, n)]
      | _ => []) ++ vs, (q, i) :: is)
  | .pfz _ _ a ix _, .pfz _ _ a' ix' _, (vs, is) => ((match a' with
      | .v j => [(j, a)]
      | _ => []) ++ (match ix' with
      | .v j => [(j, ix)]
      | _ => []) ++ vs, is)
  | .slD i _ a ix _, .slD q _ a' ix' _, (vs, is) => ((match a' with
      | .v j => [(j, a)]
      | _ => []) ++ (match ix' with
      | .v j => [(j, ix)]
      | _ => []) ++ vs, (q, i) :: is)
  | .agg xs, .agg ys, acc => bindMs n0 xs ys acc
  | .tup xs, .tup ys, acc => bindMs n0 xs ys acc
  | .fn _ xs, .fn _ ys, acc => bindMs n0 xs ys acc
  | _, _, acc => acc
def bindMs (n0 : Nat) : List SV → List SV → List (Nat × At) × List (Nat × Nat) → List (Nat × At) × List (Nat × Nat)
  | x :: xs, y :: ys, acc => bindMs n0 xs ys (bindM n0 x y acc)
  | _, _, acc => acc
end
mutual
/-- Slices that the shape wants by value. -/
def fzM : SV → SV → List Nat
  | .sl i _ _ _, .dat _ _ => [i]
  | .agg xs, .agg ys => fzMs xs ys
  | .tup xs, .tup ys => fzMs xs ys
  | .fn _ xs, .fn _ ys => fzMs xs ys
  | _, _ => []
def fzMs : List SV → List SV → List Nat
  | x :: xs, y :: ys => fzM x y ++ fzMs xs ys
  | _, _ => []
end
def bindT (n0 : Nat) (T : List (Nat × SV)) : List (Nat × SV) → List (Nat × At) × List (Nat × Nat) → List (Nat × At) × List (Nat × Nat)
  | [], acc => acc
  | (t, p) :: r, acc => bindT n0 T r (bindM n0 (tkS T t) p acc)
def fzT (T : List (Nat × SV)) : List (Nat × SV) → List Nat
  | [] => []
  | (t, p) :: r => fzM (tkS T t) p ++ fzT T r
def hasN (l : List (Nat × Nat)) (i : Nat) : Bool := match l with
  | [] => false
  | (j, _) :: r => Nat.beq j i || hasN r i
def fzHM (H : List (Nat × SB)) (is : List (Nat × Nat)) : List (Nat × SB) → List Nat
  | [] => []
  | (i, pb) :: r => (match hgetS H (lookN is i), pb with
    | some (.cells xs), .cells ys => if hasN is i = true then fzMs xs ys else []
    | _, _ => []) ++ fzHM H is r
/-- Blocks of the shape, in order; those that nothing names are new and empty. -/
def bindHM (n0 : Nat) (M : Nat) : List (Nat × SB) → SS → List (Nat × At) × List (Nat × Nat) → SS × List (Nat × At) × List (Nat × Nat)
  | [], σ, acc => (σ, acc)
  | (i, pb) :: r, σ, acc => if (hasN acc.2 i || Nat.blt i M) = true then
      let q := if Nat.blt i M = true then i else lookN acc.2 i
      let acc := (acc.1, (i, q) :: acc.2)
      (match hgetS σ.H q, pb with
      | some (.cells xs), .cells ys => bindHM n0 M r σ (bindMs n0 xs ys acc)
      | some (.arr _ _ a _), .arr _ _ (.v j) _ => bindHM n0 M r σ ((j, a) :: acc.1, acc.2)
      | _, _ => bindHM n0 M r σ acc)
    else (match pb with
      | .arr w e (.v j) _ => bindHM n0 M r ⟨σ.T, σ.H ++ [(σ.nx, .arr w e (.k (.l [])) (.k (.i 0)))], σ.nx + 1⟩ ((j, .k (.l [])) :: acc.1, (i, σ.nx) :: acc.2)
      | .arr w e _ _ => bindHM n0 M r ⟨σ.T, σ.H ++ [(σ.nx, .arr w e (.k (.l [])) (.k (.i 0)))], σ.nx + 1⟩ (acc.1, (i, σ.nx) :: acc.2)
      | _ => bindHM n0 M r σ acc)
def lensM (σ : SS) (rs : List Nat) : List (Nat × SB) → List At
  | [] => []
  | (i, .arr _ _ _ _) :: r => (match hgetS σ.H (rs.getD i 0) with
    | some (.arr _ _ _ k) => k
    | _ => .k (.i 0)) :: lensM σ rs r
  | (_, .cells _) :: r => lensM σ rs r
def chkT (σ : SS) (θ : List At) (f : Nat → Nat) : List (Nat × SV) → Bool
  | [] => true
  | (t, p) :: r => wkB (tkS σ.T t) (p.sub θ f) && chkT σ θ f r
def chkH (σ : SS) (θ : List At) (f : Nat → Nat) (rs : List Nat) : List (Nat × SB) → Bool
  | [] => true
  | (i, pb) :: r => (match rs[i]? with
    | some j => (match hgetS σ.H j, pb with
      | some (.cells xs), .cells ys => wkBs xs (SV.subs θ f ys)
      | some (.arr w e a _), .arr w' e' a' _ => owB w w' && CK.beqs e e' && At.beq a (a'.sub θ)
      | _, _ => false)
    | none => false) && chkH σ θ f rs r
def namesH : List (Nat × SB) → List Nat
  | [] => []
  | (i, _) :: r => i :: namesH r
def sameRs : Nat → List Nat → Nat → Bool
  | _, _, 0 => true
  | i, r :: rs, m + 1 => Nat.beq r i && sameRs (i + 1) rs m
  | _, [], _ + 1 => false
def nmS (rs : List Nat) (nx : Nat) (i : Nat) : Nat := (rs[i]?).getD nx
def Shp.wf (G0 : List CK) (sh : Shp) : Bool := arrsOk (G0 ++ sh.ps) sh.H && lensIx (G0.length + sh.ps.length) sh.H
/-- The data by which a state takes a shape. -/
def goVals (M : Nat) (G0 : List CK) (sh : Shp) (σ : SS) (G : List CK) : Option (List At) :=
  let n0 := G0.length
  if σ.wt G = true then
    let a0 := bindT n0 σ.T sh.T ([], [])
    match frzAll (fzT σ.T sh.T ++ fzHM σ.H a0.2 sh.H) σ with
    | some σ1 =>
      let a1 := bindT n0 σ1.T sh.T ([], [])
      match bindHM n0 M sh.H σ1 a1 with
      | (σ2, acc) =>
        let vals := (List.range' n0 sh.ps.length).map (lookA acc.1)
        let rs := (List.range sh.nx).map (fun i => if Nat.blt i M = true then i else if hasN acc.2 i = true then lookN acc.2 i else σ2.nx)
        let θ := varsFrom 0 n0 ++ vals ++ lensM σ2 rs sh.H
        let f := nmS rs σ2.nx
        if (tyAs G vals sh.ps && sh.wf G0 && chkT σ2 θ f sh.T && chkH σ2 θ f rs sh.H && nodupN ((namesH sh.H).map (fun i => rs.getD i 0)) && nodupN (namesH sh.H) && sameRs 0 rs M && Nat.ble M sh.nx) = true then some vals else none
    | none => none
  else none
/-- New names for old, by the blocks' own names. -/
def selN (rs : List Nat) (i : Nm) : Option Nm := (rs[i.1]?).map fun j => (j, i.2)
/-- Behind a change that the world does not see, σ says what σ' says. -/
def GS (E : En) (σ σ' : St) : Prop := ∃ σ1 rs, Gh E σ σ1 ∧ Sel E.m rs σ1 σ'
theorem CT.gs {P : Program} {E : En} {c : Code} {Q : Exit → St → Prop} {σ σ' : St} (k : GS E σ σ') (h : CT P E c Q σ') : CT P E c Q σ := by
  obtain ⟨σ1, rs, h1, h2⟩ := k
  exact (h.sel h2).gh h1
end Go.BH

/- A state that says what a shape says, 2. -/
set_option linter.unusedVariables false
set_option linter.unusedSimpArgs false
namespace Go.BH
open Go.RowKit
section
variable {E : En} {env : List D}
theorem bindHM_ok {n0 M : Nat} : ∀ {H : List (Nat × SB)} {σ σ' : SS} {acc acc' : List (Nat × At) × List (Nat × Nat)}, σ.Good env → bindHM n0 M H σ acc = (σ', acc'.1, acc'.2) → Gh E (σ.den env) (σ'.den env) ∧ σ'.Good env
  | [], σ, σ', acc, acc', hg, h => by
    simp only [bindHM, Prod.mk.injEq] at h
    rw [← h.1]
    exact ⟨.refl _, hg⟩
  | (i, pb) :: r, σ, σ', acc, acc', hg, h => by
    have push : ∀ (w : Ow) (e : List CK) acc'', bindHM n0 M r ⟨σ.T, σ.H ++ [(σ.nx, .arr w e (.k (.l [])) (.k (.i 0)))], σ.nx + 1⟩ acc'' = (σ', acc'.1, acc'.2) → Gh E (σ.den env) (σ'.den env) ∧ σ'.Good env := fun w e acc'' h => by
      have hg' : (⟨σ.T, σ.H ++ [(σ.nx, .arr w e (.k (.l [])) (.k (.i 0)))], σ.nx + 1⟩ : SS).Good env := by
        refine ⟨hg.T, fun j xs hj => ?_, fun j w' e' a k hj => ?_⟩
        · rcases hgetS_snoc hj with hj | ⟨_, hj⟩
          · exact hg.C j xs hj
          · cases hj
        · rcases hgetS_snoc hj with hj | ⟨_, hj⟩
          · exact hg.A j w' e' a k hj
          · cases hj
            exact ⟨by simp [At.den, okC], rfl⟩
      obtain ⟨h1, h2⟩ := bindHM_ok hg' h
      refine ⟨?_, h2⟩
      have h0 : Gh E (σ.den env) ((⟨σ.T, σ.H ++ [(σ.nx, .arr w e (.k (.l [])) (.k (.i 0)))], σ.nx + 1⟩ : SS).den env) := by
        have h1 := Gh.ghost (E := E) (σ := σ.den env)
        have hb : (SB.arr w e (.k (.l [])) (.k (.i 0))).den env σ.nx = [] ∧ (SB.arr w e (.k (.l [])) (.k (.i 0))).more env σ.nx = [] := by cases w <;> exact ⟨rfl, rfl⟩
        have h2 := (Ex.refl (env := env) σ.H).snoc σ.nx (b := .arr w e (.k (.l [])) (.k (.i 0))) hb.2
        rw [hb.1] at h2
        exact h1.trans (fun μ a w hi => ⟨μ, hi.less h2.leS, .refl μ⟩)
      exact h0.trans h1
    unfold bindHM at h
    by_cases hc : (hasN acc.2 i || Nat.blt i M) = true
    · rw [if_pos hc] at h
      simp only at h
      generalize hgetS σ.H (if Nat.blt i M = true then i else lookN acc.2 i) = q at h
      split at h
      · exact bindHM_ok hg h
      · exact bindHM_ok hg h
      · exact bindHM_ok hg h
    · rw [if_neg hc] at h
      split at h
      · exact push _ _ _ h
      · exact push _ _ _ h
      · exact bindHM_ok hg h
theorem chkT_get {σ : SS} {θ : List At} {f : Nat → Nat} : ∀ {T : List (Nat × SV)}, chkT σ θ f T = true → ∀ t, Wk ((tkS σ.T t).den env) (((tkS T t).sub θ f).den env)
  | [], _, t => Wk.any _
  | (d, p) :: r, h, t => by
    simp only [chkT, Bool.and_eq_true] at h
    simp only [tkS]
    split
    · rename_i e
      rw [← Nat.eq_of_beq_eq_true e]
      exact wkB_ok h.1
    · exact chkT_get h.2 t
theorem chkH_get {σ : SS} {θ : List At} {f : Nat → Nat} {rs : List Nat} : ∀ {H : List (Nat × SB)}, chkH σ θ f rs H = true → ∀ i b, hgetS H i = some b → ∃ j c, rs[i]? = some j ∧ hgetS σ.H j = some c ∧ ((∃ xs ys, c = .cells xs ∧ b = .cells ys ∧ wkBs xs (SV.subs θ f ys) = true) ∨ (∃ w e a a' k n, c = .arr w e a k ∧ b = .arr w e a' n ∧ (w = .pl ∨ w = .ow none) ∧ a = a'.sub θ))
  | [], _, i, b, h => by cases h
  | (q, pb) :: r, h, i, b, hb => by
    simp only [chkH, Bool.and_eq_true] at h
    simp only [hgetS] at hb
    split at hb
    · rename_i e
      obtain rfl := Nat.eq_of_beq_eq_true e
      obtain rfl := Option.some.inj hb
      have h1 := h.1
      split at h1
      · rename_i j hj
        refine ⟨j, ?_⟩
        cases hc : hgetS σ.H j with
        | none => rw [hc] at h1; cases pb <;> cases h1
        | some c =>
          rw [hc] at h1
          cases c with
          | cells xs =>
            cases pb with
            | cells ys => exact ⟨_, hj, rfl, .inl ⟨_, _, rfl, rfl, h1⟩⟩
            | arr w e a n => cases h1
          | arr w e a k =>
            cases pb with
            | cells ys => cases h1
            | arr w' e' a' n' =>
              simp only [Bool.and_eq_true] at h1
              obtain ⟨⟨h0, h1⟩, h2⟩ := h1
              obtain rfl := CK.beqs_eq h1
              have ha := At.beq_eq h2
              have hw : w' = w ∧ (w = .pl ∨ w = .ow none) := by
                cases w with
                | pl =>
                  cases w' with
                  | pl => exact ⟨rfl, .inl rfl⟩
                  | ow _ => cases h0
                | ow o =>
                  cases o with
                  | some _ => cases w' <;> cases h0
                  | none =>
                    cases w' with
                    | pl => cases h0
                    | ow o' =>
                      cases o' with
                      | none => exact ⟨rfl, .inr rfl⟩
                      | some _ => cases h0
              obtain ⟨rfl, hw⟩ := hw
              exact ⟨_, hj, rfl, .inr ⟨_, _, _, _, _, _, rfl, rfl, hw, ha⟩⟩
      · cases h1
    · exact chkH_get h.2 i b hb
theorem lensM_ok {σ : SS} {θ : List At} {f : Nat → Nat} {rs : List Nat} {G : List CK} {e1 l : List D} (hg : σ.Good env) (hθ : θ.map (At.den env) = e1 ++ l) (hz : okZ G e1 = true) : ∀ {H : List (Nat × SB)}, chkH σ θ f rs H = true → arrsOk G H = true → (lensM σ rs H).map (At.den env) = lensOf e1 H
  | [], _, _ => rfl
  | (q, .cells ys) :: r, h, ha => by
    simp only [chkH, Bool.and_eq_true] at h
    simp only [arrsOk] at ha
    simp only [lensM, lensOf]
    exact lensM_ok hg hθ hz h.2 ha
  | (q, .arr w e a n) :: r, h, ha => by
    simp only [chkH, Bool.and_eq_true] at h
    simp only [arrsOk, Bool.and_eq_true] at ha
    simp only [lensM, lensOf, List.map_cons]
    rw [lensM_ok hg hθ hz h.2 ha.2]
    congr 1
    have h1 := h.1
    split at h1
    · rename_i j hj
      have : rs.getD q 0 = j := by simp [List.getD, hj]
      rw [this]
      cases hc : hgetS σ.H j with
      | none => rw [hc] at h1; cases h1
      | some c =>
        rw [hc] at h1
        cases c with
        | cells xs => cases h1
        | arr w' e' a' k =>
          simp only [Bool.and_eq_true] at h1
          have ha' := At.beq_eq h1.2
          simp only
          rw [(hg.A j w' e' a' k hc).2, ha', At.sub_den, hθ, tyA_ext hz ha.1]
    · cases h1
theorem sameRs_spec : ∀ {m i : Nat} {rs : List Nat}, sameRs i rs m = true → ∀ j, j < m → rs[j]? = some (i + j)
  | 0, _, _, _, j, h => by omega
  | m + 1, i, [], h, j, hj => by simp [sameRs] at h
  | m + 1, i, r :: rs, h, 0, hj => by
    simp only [sameRs, Bool.and_eq_true] at h
    simp [Nat.eq_of_beq_eq_true h.1]
  | m + 1, i, r :: rs, h, j + 1, hj => by
    simp only [sameRs, Bool.and_eq_true] at h
    have := sameRs_spec h.2 j (by omega)
    simp only [List.getElem?_cons_succ, this]
    congr 1
    omega
theorem mem_namesH : ∀ {H : List (Nat × SB)} {i : Nat} {b : SB}, hgetS H i = some b → ∃ k : Nat, (namesH H)[k]? = some i
  | [], i, b, h => by cases h
  | (q, c) :: r, i, b, h => by
    simp only [hgetS] at h
    split at h
    · rename_i e
      exact ⟨0, by simp [namesH, Nat.eq_of_beq_eq_true e]⟩
    · obtain ⟨k, hk⟩ := mem_namesH h
      exact ⟨k + 1, by simpa [namesH] using hk⟩
/-- The letters of a shape, and what they stand for. -/
def shEnv (sh : Shp) (eo vs : List D) : List D := (eo ++ vs) ++ lensOf (eo ++ vs) sh.H
theorem shp_inv {sh : Shp} {G0 : List CK} {eo vs : List D} (hw : sh.wf G0 = true) (hz : okZ G0 eo = true) (hv : okZ sh.ps vs = true) : SInv (shEnv sh eo vs) ⟨sh.T, sh.H, sh.nx⟩ := by
  simp only [Shp.wf, Bool.and_eq_true] at hw
  have hok : okZ (G0 ++ sh.ps) (eo ++ vs) = true := okZ_app hz hv
  intro i w e a n hh
  have h1 := lensIx_ok (e1 := eo ++ vs) (l := shEnv sh eo vs) hw.2 (fun k d hd => by
    have e1 : (eo ++ vs).length = G0.length + sh.ps.length := by rw [← okZ_len hok, List.length_append]
    simp only [At.den, shEnv]
    rw [List.getElem?_append_right (by omega), show G0.length + sh.ps.length + k - (eo ++ vs).length = k by omega, hd]
    rfl) i w e a n hh
  rw [h1, shEnv, tyA_ext hok (arrsOk_get hw.1 i w e a n hh)]
theorem goVals_ok {M : Nat} {G0 : List CK} {sh : Shp} {σ : SS} {G : List CK} {vals : List At} {eo : List D} (h : goVals M G0 sh σ G = some vals) (hM : M = E.m) (hz0 : okZ G0 eo = true) (hx : Ext eo env) (hz : okZ G env = true) (hi : SInv env σ) :
    okZ sh.ps (vals.map (At.den env)) = true ∧ sh.wf G0 = true ∧ GS E (σ.den env) ((⟨sh.T, sh.H, sh.nx⟩ : SS).den (shEnv sh eo (vals.map (At.den env)))) := by
  subst hM
  unfold goVals at h
  simp only at h
  split at h
  · rename_i hwt
    have hg : σ.Good env := by
      have := (SS.wt_good hz hwt hi []).2
      simpa using this
    split at h
    · rename_i σ1 h1
      obtain ⟨g1, g2⟩ := frzAll_ok (E := E) hg h1
      generalize hbh : bindHM G0.length E.m sh.H σ1 (bindT G0.length σ1.T sh.T ([], [])) = q at h
      obtain ⟨σ2, acc⟩ := q
      obtain ⟨g3, g4⟩ := bindHM_ok (E := E) (acc' := acc) g2 hbh
      simp only at h
      generalize hvals : (List.range' G0.length sh.ps.length).map (lookA acc.1) = vls at h
      generalize hrs : (List.range sh.nx).map (fun i => if Nat.blt i E.m = true then i else if hasN acc.2 i = true then lookN acc.2 i else σ2.nx) = rs at h
      split at h
      · rename_i hb
        obtain rfl := Option.some.inj h
        simp only [Bool.and_eq_true] at hb
        obtain ⟨⟨⟨⟨⟨⟨⟨b1, b2⟩, b3⟩, b4⟩, b5⟩, b6⟩, b7⟩, b8⟩ := hb
        have hps := tyAs_ok hz b1
        refine ⟨hps, b2, σ2.den env, selN rs, g1.trans g3, ?_⟩
        have hw := b2
        simp only [Shp.wf, Bool.and_eq_true] at hw
        have hok : okZ (G0 ++ sh.ps) (eo ++ vls.map (At.den env)) = true := okZ_app hz0 hps
        have hθ1 : (varsFrom 0 G0.length ++ vls).map (At.den env) = eo ++ vls.map (At.den env) := by
          rw [List.map_append, varsFrom_den (okZ_len hz0).symm (fun j d hj => ?_)]
          obtain ⟨ds, rfl⟩ := hx
          simp only [At.den, Nat.zero_add]
          rw [List.getElem?_append_left (by
            rcases Nat.lt_or_ge j eo.length with g | g
            · exact g
            · rw [List.getElem?_eq_none g] at hj; cases hj), hj]
          rfl
        have hθ0 : ((varsFrom 0 G0.length ++ vls) ++ lensM σ2 rs sh.H).map (At.den env) = (eo ++ vls.map (At.den env)) ++ (lensM σ2 rs sh.H).map (At.den env) := by
          rw [List.map_append, hθ1]
        have hlm := lensM_ok (f := nmS rs σ2.nx) g4 hθ0 hok b4 hw.1
        have hθ : ((varsFrom 0 G0.length ++ vls) ++ lensM σ2 rs sh.H).map (At.den env) = shEnv sh eo (vls.map (At.den env)) := by
          rw [hθ0, hlm]; rfl
        have hrsl : rs.length = sh.nx := by rw [← hrs]; simp
        have hun : ∀ (μ : Mu), (∀ i : Nm, (σ2.den env).nx ≤ i.1 → μ.pl i = none) → ∀ {x : AV} {c : Value}, VR μ (x.ren (nf (nmS rs σ2.nx))) c → VR (μ.sel (selN rs)) x c := fun μ hf x c hv => by
          refine VR.unren (fun i a ha => ?_) (fun l b cs hl => by rw [Mu.sel_rd]; exact hl) hv
          simp only [Mu.sel, selN]
          simp only [nf, nmS] at ha
          cases e : rs[i.1]? with
          | none => rw [e] at ha; simp only [Option.getD_none] at ha; rw [hf (σ2.nx, i.2) (Nat.le_refl _)] at ha; cases ha
          | some j => rw [e] at ha; exact ha
        have hblk : ∀ (i : Nat) (b : SB), hgetS sh.H i = some b → ∃ j, rs[i]? = some j ∧ (∀ q cs', hget (denH (shEnv sh eo (vls.map (At.den env))) sh.H) (i, q) = some cs' → ∃ cs, hget (denH env σ2.H) (j, q) = some cs ∧ Wks cs (AV.rens (nf (nmS rs σ2.nx)) cs')) := fun i b hb => by
          obtain ⟨j, c, k1, k2, k3⟩ := chkH_get b4 i b hb
          refine ⟨j, k1, fun q cs' hq => ?_⟩
          have hfi : nmS rs σ2.nx i = j := by simp [nmS, k1]
          cases q with
          | zero =>
            rw [hget_denH, hb] at hq
            obtain rfl := Option.some.inj hq
            refine ⟨_, by rw [hget_denH, k2]; rfl, ?_⟩
            rw [← hθ, ← SB.sub_den, hfi]
            rcases k3 with ⟨xs, ys, rfl, rfl, k4⟩ | ⟨w, e, a, a', k, n, rfl, rfl, k4, k5⟩
            · exact wkBs_ok k4
            · rcases k4 with rfl | rfl <;> simp only [SB.sub, Ow.sub, SB.den, k5] <;> exact .refl _
          | succ q =>
            rw [hget_denH1, hb] at hq
            have hq : hget (b.more (shEnv sh eo (vls.map (At.den env))) i) (i, q + 1) = some cs' := hq
            rcases k3 with ⟨xs, ys, rfl, rfl, k4⟩ | ⟨w, e, a, a', k, n, rfl, rfl, k4, k5⟩
            · cases hq
            · rcases k4 with rfl | rfl
              · cases hq
              · have hq' : hget (blkR i (fun _ => false) e 0 (a'.den (shEnv sh eo (vls.map (At.den env)))).items) (i, q + 1) = some cs' := hq
                obtain ⟨e2, ys, rfl⟩ := blkR_val hq'
                refine ⟨_, ?_, by rw [encR_ren]; exact .refl _⟩
                rw [hget_denH1, k2, k5]
                simp only [Option.bind_some, SB.more, At.sub_den, hθ]
                rw [← hq']
                exact (blkR_at j i (q + 1) _ _).symm
        refine ⟨fun μ hf t c hv => ?_, fun i cs' hc => ?_, fun i i' j cs cs' h3 h4 h5 h6 => ?_, fun i j hij => ?_, fun i hi' => ?_, Nat.le_of_ble_eq_true b8⟩
        · have h3 := chkT_get (env := env) b3 t
          rw [SV.sub_den, hθ] at h3
          simp only [SS.den] at hv ⊢
          rw [tk_denT] at hv ⊢
          exact hun μ hf (h3 _ _ hv)
        · have hal : ∃ b, hgetS sh.H i.1 = some b := by
            obtain ⟨t, q⟩ := i
            cases q with
            | zero =>
              have hc' : hget (denH (shEnv sh eo (vls.map (At.den env))) sh.H) (t, 0) = some cs' := hc
              rw [hget_denH] at hc'
              obtain ⟨b, hb, _⟩ := Option.map_eq_some_iff.1 hc'
              exact ⟨b, hb⟩
            | succ q =>
              have hc' : hget (denH (shEnv sh eo (vls.map (At.den env))) sh.H) (t, q + 1) = some cs' := hc
              rw [hget_denH1] at hc'
              obtain ⟨b, hb, _⟩ := Option.bind_eq_some_iff.1 hc'
              exact ⟨b, hb⟩
          obtain ⟨b, hb⟩ := hal
          obtain ⟨j, k1, k2⟩ := hblk i.1 b hb
          obtain ⟨cs, k3, k4⟩ := k2 i.2 cs' hc
          refine ⟨(j, i.2), cs, by simp [selN, k1], k3, ?_, fun μ hf k x' hk => ?_⟩
          · have := k4.length
            rw [rens_length] at this
            exact this
          · obtain ⟨u, hu, hw'⟩ := k4.get k (x'.ren (nf (nmS rs σ2.nx))) (by rw [rens_map, List.getElem?_map, hk]; rfl)
            exact ⟨u, hu, fun c hv => hun μ hf (hw' _ _ hv)⟩
        · have hal : ∀ (i : Nm) cs, hget ((⟨sh.T, sh.H, sh.nx⟩ : SS).den (shEnv sh eo (vls.map (At.den env)))).H i = some cs → ∃ b, hgetS sh.H i.1 = some b := fun i cs hc => by
            obtain ⟨t, q⟩ := i
            cases q with
            | zero =>
              have hc' : hget (denH (shEnv sh eo (vls.map (At.den env))) sh.H) (t, 0) = some cs := hc
              rw [hget_denH] at hc'
              obtain ⟨b, hb, _⟩ := Option.map_eq_some_iff.1 hc'
              exact ⟨b, hb⟩
            | succ q =>
              have hc' : hget (denH (shEnv sh eo (vls.map (At.den env))) sh.H) (t, q + 1) = some cs := hc
              rw [hget_denH1] at hc'
              obtain ⟨b, hb, _⟩ := Option.bind_eq_some_iff.1 hc'
              exact ⟨b, hb⟩
          obtain ⟨b, hb⟩ := hal i cs h3
          obtain ⟨b', hb'⟩ := hal i' cs' h4
          obtain ⟨k, hk⟩ := mem_namesH hb
          obtain ⟨k', hk'⟩ := mem_namesH hb'
          simp only [selN, Option.map_eq_some_iff] at h5 h6
          obtain ⟨j1, g1, g2⟩ := h5
          obtain ⟨j2, g3, g4⟩ := h6
          rw [← g4] at g2
          have q1 := congrArg Prod.fst g2
          have q2 := congrArg Prod.snd g2
          simp only at q1 q2
          subst q1
          have := nodupN_spec b5 k k' j1 (by rw [List.getElem?_map, hk]; simp [List.getD, g1]) (by rw [List.getElem?_map, hk']; simp [List.getD, g3])
          subst this
          rw [hk] at hk'
          exact Prod.ext (Option.some.inj hk') q2
        · simp only [selN, Option.map_eq_some_iff] at hij
          obtain ⟨j1, g1, _⟩ := hij
          show i.1 < sh.nx
          rw [← hrsl]
          rcases Nat.lt_or_ge i.1 rs.length with g | g
          · exact g
          · rw [List.getElem?_eq_none g] at g1; cases g1
        · have := sameRs_spec b7 i.1 hi'
          simp only [selN, this, Nat.zero_add, Option.map_some]
      · cases h
    · cases h
  · cases h
end
end Go.BH

/- Code, in letters. -/
set_option linter.unusedVariables false
set_option linter.unusedSimpArgs false
namespace Go.BH
open Go.RowKit
/-- Where code may leave to: how, the kinds known there, the shape. -/
abbrev Ents := List (Nat × List CK × Shp)
def entOf : Ents → Nat → Option (List CK × Shp)
  | [], _ => none
  | (e, G0, sh) :: r, n => if Nat.beq e n = true then some (G0, sh) else entOf r n
/-- Shapes at places of the code; blocks that a region in a drawn order writes. -/
structure Hn where
  shp : List (Nat × Shp)
  wr : List (Nat × List Nat)
def shpAt : List (Nat × Shp) → Nat → Option Shp
  | [], _ => none
  | (e, sh) :: r, n => if Nat.beq e n = true then some sh else shpAt r n
def wrAt : List (Nat × List Nat) → Nat → List Nat
  | [], _ => []
  | (e, sh) :: r, n => if Nat.beq e n = true then sh else wrAt r n
def leaf (M e : Nat) (G0 : List CK) (sh : Shp) (σ : SS) (G : List CK) : Option Tr := match goVals M G0 sh σ G with
  | some vals => some (.out e vals)
  | none => none
def Shp.st (sh : Shp) : SS := ⟨sh.T, sh.H, sh.nx⟩
def cutTo (sh : Shp) (G : List CK) (K : SS → List CK → Option Tr) : Option Tr := match K sh.st ((G ++ sh.ps) ++ tysOf (lenNds sh.H)) with
  | some t => some (ndsT (lenNds sh.H) t)
  | none => none
def SS.knowO (σ : SS) (o : Operand) (b : Bool) : SS := match o with
  | .tmp t => σ.know t b
  | _ => σ
/-- Are cuts for good in this function? (A hint at no place of the code says so.) -/
def winH (h : Hn) : Bool := memN 1 (wrAt h.wr 0)
/-- Do rows come to own their slices in this function? -/
def ownH (h : Hn) : Bool := memN 2 (wrAt h.wr 0)
def namesBut (wr : List Nat) : List (Nat × SB) → List Nat
  | [] => []
  | (i, _) :: r => if memN i wr = true then namesBut wr r else i :: namesBut wr r
/-- The tree of code. -/
def sx (C : Cx) (S : Kinds) (n M : Nat) (hs : Hn) : Code → Nat → SS → List CK → Ents → (SS → List CK → Option Tr) → Option Tr
  | .skip, _, σ, G, _, K => K σ G
  | .region _ ops draw, p, σ, G, _, K => match draw with
    | true => if Region.noSelect ops = true then sxDraw C S n (namesBut (wrAt hs.wr p) σ.H) ops (2 * ops.size + 4) ops.size (Array.replicate ops.size false) σ G K else none
    | false => sxOps C S n ops.toList.toArray ops.toList σ G K
  | .seq a b, p, σ, G, xs, K => match shpAt hs.shp p with
    | none => sx C S n M hs a (2 * p) σ G xs (fun σ' G' => sx C S n M hs b (2 * p + 1) σ' G' xs K)
    | some sh => match sx C S n M hs a (2 * p) σ G xs (leaf M 0 G sh), cutTo sh G (fun σ' G' => sx C S n M hs b (2 * p + 1) σ' G' xs K) with
      | some ta, some tb => some (.seq sh.ps ta tb)
      | _, _ => none
  | .cond o x y, p, σ, G, xs, K => match σ.ev o with
    | .dat .bool (.k (.b true)) => sx C S n M hs x (2 * p) σ G xs K
    | .dat .bool (.k (.b false)) => sx C S n M hs y (2 * p + 1) σ G xs K
    | .dat .bool a => if tyA G a .bool = true then (match sx C S n M hs x (2 * p) (σ.knowO o true) G xs K, sx C S n M hs y (2 * p + 1) (σ.knowO o false) G xs K with
      | some tx, some ty => some (.ite a tx ty)
      | _, _ => none) else none
    | _ => none
  | .block id c, p, σ, G, xs, K => match shpAt hs.shp p with
    | none => none
    | some sh => match sx C S n M hs c (2 * p) σ G ((id + 2, G, sh) :: xs) (leaf M 0 G sh), cutTo sh G K with
      | some ta, some tb => some (.blk (id + 2) sh.ps ta tb)
      | _, _ => none
  | .loop c, p, σ, G, xs, K => match shpAt hs.shp p with
    | none => none
    | some sh => match goVals M G sh σ G, cutTo sh G (fun σ' G' => sx C S n M hs c (2 * p) σ' G' xs (leaf M 0 G sh)) with
      | some vals, some tb => some (.loop sh.ps vals tb)
      | _, _ => none
  | .exit id, _, σ, G, xs, _ => match entOf xs (id + 2) with
    | some (G0, sh) => leaf M (id + 2) G0 sh σ G
    | none => none
  | .ret, _, σ, G, xs, _ => match entOf xs 1 with
    | some (G0, sh) => leaf M 1 G0 sh σ G
    | none => none
  | _, _, _, _, _, _ => none
def exN : Exit → Option Nat
  | .ret => some 1
  | .exit id => some (id + 2)
  | _ => none
def PX (xs : Ents) (env : List D) (out : Nat × List D) : Exit → St → Prop := fun e τ => ∃ n, exN e = some n ∧ out.1 = n ∧ ∃ G0 sh, entOf xs n = some (G0, sh) ∧ okZ sh.ps out.2 = true ∧ sh.wf G0 = true ∧ τ = shSt sh (env.take G0.length) out.2
def XOk (xs : Ents) (env : List D) : Prop := ∀ n G0 sh, entOf xs n = some (G0, sh) → okZ G0 (env.take G0.length) = true
section
variable {P : Program} {E : En} {C : Cx} {Φ : Fns} {S : Kinds} {k : Nat}
theorem take_ext {G0 : List CK} {env env' : List D} (h : okZ G0 (env.take G0.length) = true) (hx : Ext env env') : env'.take G0.length = env.take G0.length := by
  obtain ⟨ds, rfl⟩ := hx
  have := okZ_len h
  rw [List.length_take] at this
  exact List.take_append_of_le_length (by omega)
theorem XOk.ext {xs : Ents} {env env' : List D} (h : XOk xs env) (hx : Ext env env') : XOk xs env' := fun n G0 sh he => by
  rw [take_ext (h n G0 sh he) hx]
  exact h n G0 sh he
theorem PX.back {xs : Ents} {env env' : List D} (h : XOk xs env) (hx : Ext env env') {out : Nat × List D} {e : Exit} {τ : St} (k : PX xs env' out e τ) : PX xs env out e τ := by
  obtain ⟨n, h1, h2, G0, sh, h3, h4, h5, h6⟩ := k
  exact ⟨n, h1, h2, G0, sh, h3, h4, h5, by rw [h6, take_ext (h n G0 sh h3) hx]⟩
theorem exN_pos {e : Exit} {n : Nat} (h : exN e = some n) : n ≠ 0 ∧ e ≠ .normal := by
  cases e <;> simp [exN] at h <;> (refine ⟨by omega, ?_⟩; intro g; cases g)
theorem Ext.trans {a b c : List D} (h : Ext a b) (k : Ext b c) : Ext a c := by
  obtain ⟨x, rfl⟩ := h
  obtain ⟨y, rfl⟩ := k
  exact ⟨x ++ y, by simp⟩
theorem KS.ext {env env' : List D} {K : SS → List CK → Option Tr} {N : St → Prop} {out : Nat × List D} (h : KS Φ k env K N out) (hx : Ext env env') : KS Φ k env' K N out := fun σ G t e h1 h2 h3 h4 h5 => h σ G t e (hx.trans h1) h2 h3 h4 h5
theorem GS.inv {μ : Mu} {σ τ : St} {a : Act} {w : World} (h : GS E σ τ) (hi : INV E μ σ a w) : ∃ μ', INV E μ' τ a w := by
  obtain ⟨σ1, rs, h1, h2⟩ := h
  obtain ⟨μ1, hi1, _⟩ := h1 μ a w hi
  exact ⟨_, hi1.sel h2⟩
theorem CT.gsQ {c : Code} {Q : Exit → St → Prop} {σ : St} (h : CT P E c (fun e σ => ∃ τ, (τ = σ ∨ GS E σ τ) ∧ Q e τ) σ) : CT P E c Q σ := fun μ a w hi => by
  refine Code.wp_mono ?_ (h μ a w hi)
  rintro e a' w' ⟨σ', μ', ⟨τ, hg, hq⟩, hi'⟩
  rcases hg with rfl | hg
  · exact ⟨_, _, hq, hi'⟩
  · obtain ⟨μ2, hi2⟩ := hg.inv hi'
    exact ⟨_, _, hq, hi2⟩
theorem leaf_ok {M e : Nat} {G0 : List CK} {sh : Shp} {σ : SS} {G : List CK} {t : Tr} {env : List D} {out : Nat × List D} (hM : M = E.m) (h : leaf M e G0 sh σ G = some t) (hz0 : okZ G0 (env.take G0.length) = true) (hz : okZ G env = true) (hi : SInv env σ) (hden : t.den Φ k env = some out) :
    out.1 = e ∧ okZ sh.ps out.2 = true ∧ sh.wf G0 = true ∧ GS E (σ.den env) (shSt sh (env.take G0.length) out.2) := by
  unfold leaf at h
  split at h
  · rename_i vals hv
    cases h
    simp only [Tr.den, Option.some.injEq] at hden
    subst hden
    have hx : Ext (env.take G0.length) env := ⟨env.drop G0.length, (List.take_append_drop _ _).symm⟩
    obtain ⟨h1, h2, h3⟩ := goVals_ok (E := E) hv hM hz0 hx hz hi
    exact ⟨rfl, h1, h2, h3⟩
  · cases h
theorem take_all {G : List CK} {env : List D} (h : okZ G env = true) : env.take G.length = env := by rw [okZ_len h, List.take_length]
/-- What holds where a cut is reached. -/
def AtCut (E : En) (G : List CK) (sh : Shp) (env : List D) (out : Nat × List D) (τ : St) : Prop := out.1 = 0 ∧ okZ sh.ps out.2 = true ∧ sh.wf G = true ∧ GS E τ (shSt sh env out.2)
theorem leaf_ks {M : Nat} {G : List CK} {sh : Shp} {env : List D} {out : Nat × List D} (hM : M = E.m) (hz : okZ G env = true) : KS Φ k env (leaf M 0 G sh) (AtCut E G sh env out) out := fun σ G' t env' hx h hz' hi hden => by
  have e1 : env'.take G.length = env := by rw [take_ext (by rw [take_all hz]; exact hz) hx, take_all hz]
  obtain ⟨h1, h2, h3, h4⟩ := leaf_ok (E := E) hM h (by rw [e1]; exact hz) hz' hi hden
  rw [e1] at h4
  exact ⟨h1, h2, h3, h4⟩
theorem run_lens {G : List CK} {e1 : List D} (hz : okZ G e1 = true) : ∀ {H : List (Nat × SB)} {l env' : List D}, arrsOk G H = true → runNds Φ (lenNds H) (e1 ++ l) = some env' → env' = (e1 ++ l) ++ lensOf e1 H ∧ okZ (tysOf (lenNds H)) (lensOf e1 H) = true
  | [], l, env', _, h => by
    obtain rfl := Option.some.inj h
    exact ⟨by simp [lensOf], rfl⟩
  | (q, .cells xs) :: r, l, env', ha, h => run_lens hz (H := r) (by simpa only [arrsOk] using ha) h
  | (q, .arr w e a n) :: r, l, env', ha, h => by
    simp only [arrsOk, Bool.and_eq_true] at ha
    simp only [lenNds, runNds, runNd, List.map_cons, List.map_nil] at h
    obtain ⟨xs, hx, _⟩ := okC_sl (tyA_ok hz ha.1)
    rw [tyA_ext hz ha.1, hx] at h
    simp only [Pr.eval] at h
    rw [List.append_assoc] at h
    obtain ⟨h1, h2⟩ := run_lens hz ha.2 h
    refine ⟨?_, ?_⟩
    · rw [h1, lensOf, hx]
      simp [D.items]
    · simp only [lenNds, tysOf, Nd.tys, lensOf, List.cons_append, List.nil_append, okZ, Bool.and_eq_true]
      exact ⟨rfl, h2⟩
theorem cutTo_ok {sh : Shp} {G : List CK} {K : SS → List CK → Option Tr} {tb : Tr} {env vs : List D} {out : Nat × List D} (h : cutTo sh G K = some tb) (hden : tb.den Φ k (env ++ vs) = some out) (hz : okZ G env = true) (hv : okZ sh.ps vs = true) (hw : sh.wf G = true) :
    ∃ t, K sh.st ((G ++ sh.ps) ++ tysOf (lenNds sh.H)) = some t ∧ okZ ((G ++ sh.ps) ++ tysOf (lenNds sh.H)) (shEnv sh env vs) = true ∧ SInv (shEnv sh env vs) sh.st ∧ t.den Φ k (shEnv sh env vs) = some out ∧ Ext env (shEnv sh env vs) ∧ sh.st.den (shEnv sh env vs) = shSt sh env vs := by
  unfold cutTo at h
  split at h
  · rename_i t ht
    cases h
    obtain ⟨env', h1, h2⟩ := den_ndsT hden
    have hok := okZ_app hz hv
    have hw' := hw
    simp only [Shp.wf, Bool.and_eq_true] at hw'
    obtain ⟨k1, k2⟩ := run_lens (Φ := Φ) hok (l := []) hw'.1 (by simpa using h1)
    simp only [List.append_nil] at k1
    subst k1
    exact ⟨t, ht, okZ_app hok k2, shp_inv hw hz hv, h2, ⟨vs ++ lensOf (env ++ vs) sh.H, by simp [shEnv]⟩, rfl⟩
  · cases h
theorem CT.region' {id : Nat} {ops : Array Oper} {Q : Exit → St → Prop} {σ : St} (h : OT P E ops.toList.toArray ops.toList (Q .normal) σ) : CT P E (.region id ops false) Q σ := by
  have := CT.region (P := P) (E := E) (id := id) (l := ops.toList) (Q := Q) h
  simpa using this
theorem CT.know {c : Code} {Q : Exit → St → Prop} {σ : St} {t : Nat} {g : Bool} (ht : tk σ.T t = .v (.bool g)) (h : CT P E c Q (σ.know t g)) : CT P E c Q σ := fun μ a w hi => h μ a w (hi.know ht)
theorem CT.knowO {c : Code} {Q : Exit → St → Prop} {σ : SS} {env : List D} {o : Operand} {g : Bool} (ht : (σ.den env).ev o = .v (.bool g)) (h : CT P E c Q ((σ.knowO o g).den env)) : CT P E c Q (σ.den env) := by
  cases o with
  | tmp t =>
    simp only [SS.knowO, SS.know_den] at h
    exact CT.know ht h
  | _ => exact h
theorem SInv.knowO {σ : SS} {env : List D} (h : SInv env σ) (o : Operand) (g : Bool) : SInv env (σ.knowO o g) := by
  cases o <;> exact h
theorem sx_ok {n M : Nat} {hs : Hn} (hn : n = E.n) (hM : M = E.m) (hm : P.follows .mixedOrders = true) (htab : TabOk P C.tab) (hS : ∀ (j : Nat) (s : Sig), C.sigs[j]? = some s → SigOk P Φ j s) (hF : FnsOk S Φ) :
    ∀ {c : Code} {p : Nat} {σ : SS} {G : List CK} {xs : Ents} {K : SS → List CK → Option Tr} {t : Tr} {env : List D} {N : St → Prop} {out : Nat × List D},
      sx C S n M hs c p σ G xs K = some t → okZ G env = true → SInv env σ → XOk xs env → t.den Φ k env = some out → KS Φ k env K N out → CT P E c (nxt N (PX xs env out)) (σ.den env)
  | .skip, p, σ, G, xs, K, t, env, N, out, h, hz, hi, hx, hden, hK => CT.skip (hK σ G t env (.refl env) h hz hi hden)
  | .region id ops draw, p, σ, G, xs, K, t, env, N, out, h, hz, hi, hx, hden, hK => by
    unfold sx at h
    cases draw with
    | true =>
      simp only at h
      split at h
      · rename_i hns
        exact CT.draw hm _ (sxDraw_ok hns hn htab hS hF hK _ _ h (.refl env) hz hi hden)
      · cases h
    | false => exact CT.region' (sxOps_ok hn htab hS hF hK h (.refl env) hz hi hden)
  | .seq a b, p, σ, G, xs, K, t, env, N, out, h, hz, hi, hx, hden, hK => by
    unfold sx at h
    split at h
    · refine CT.seq (CT.mono (sx_ok hn hM hm htab hS hF (N := CT P E b (nxt N (PX xs env out))) h hz hi hx hden (fun σ' G' t' env' e1 h' hz' hi' hd' => ?_)) (fun e τ q => ?_))
      · exact CT.mono (sx_ok hn hM hm htab hS hF h' hz' hi' (hx.ext e1) hd' (hK.ext e1)) (fun e τ q => by
          cases e with
          | normal => exact q
          | _ => exact PX.back hx e1 q)
      · cases e with
        | normal => exact q
        | _ => exact q
    · rename_i sh _
      split at h
      · rename_i ta tb hta htb
        cases h
        simp only [Tr.den] at hden
        refine CT.seq ?_
        generalize hoa : ta.den Φ k env = oa at hden
        cases oa with
        | none => cases hden
        | some o =>
          obtain ⟨e0, vs⟩ := o
          have ha := sx_ok hn hM hm htab hS hF (N := AtCut E G sh env (e0, vs)) hta hz hi hx hoa (leaf_ks hM hz)
          cases e0 with
          | zero =>
            refine ha.mono (fun e τ q => ?_)
            have hno : ∀ {e : Exit} {τ : St}, PX xs env (0, vs) e τ → False := fun ⟨n, h1, h2, _⟩ => (exN_pos h1).1 h2.symm
            cases e with
            | normal =>
              obtain ⟨_, q2, q3, q4⟩ := q
              obtain ⟨t', k1, k2, k3, k4, k5, k6⟩ := cutTo_ok htb hden hz q2 q3
              refine CT.gs q4 ?_
              rw [← k6]
              exact CT.mono (sx_ok hn hM hm htab hS hF k1 k2 k3 (hx.ext k5) k4 (hK.ext k5)) (fun e τ q => by
                cases e with
                | normal => exact q
                | _ => exact PX.back hx k5 q)
            | _ => exact (hno q).elim
          | succ e0 =>
            simp only [Option.some.injEq] at hden
            subst hden
            refine ha.mono (fun e τ q => ?_)
            cases e with
            | normal => exact absurd q.1 (by simp)
            | _ => exact q
      · cases h
  | .cond o x y, p, σ, G, xs, K, t, env, N, out, h, hz, hi, hx, hden, hK => by
    have hev := SS.ev_den env σ o
    unfold sx at h
    split at h
    · rename_i e
      rw [e] at hev
      exact CT.cond (b := true) (hev.trans (encC_bool true)) (fun _ => sx_ok hn hM hm htab hS hF h hz hi hx hden hK) (fun g => by cases g)
    · rename_i e
      rw [e] at hev
      exact CT.cond (b := false) (hev.trans (encC_bool false)) (fun g => by cases g) (fun _ => sx_ok hn hM hm htab hS hF h hz hi hx hden hK)
    · rename_i a _ _ e
      split at h
      · rename_i hta
        split at h
        · rename_i tx ty h1 h2
          cases h
          obtain ⟨g, hg⟩ := okC_bool (tyA_ok hz hta)
          have hv : (σ.den env).ev o = .v (.bool g) := by
            rw [hev, e, SV.den, hg, encC_bool]
          simp only [Tr.den, hg] at hden
          refine CT.cond hv (fun hb => ?_) (fun hb => ?_)
          · subst hb
            exact CT.knowO hv (sx_ok hn hM hm htab hS hF h1 hz (hi.knowO o true) hx hden hK)
          · subst hb
            exact CT.knowO hv (sx_ok hn hM hm htab hS hF h2 hz (hi.knowO o false) hx hden hK)
        · cases h
      · cases h
    · cases h
  | .block id c, p, σ, G, xs, K, t, env, N, out, h, hz, hi, hx, hden, hK => by
    unfold sx at h
    split at h
    · cases h
    · rename_i sh _
      split at h
      · rename_i ta tb hta htb
        cases h
        simp only [Tr.den] at hden
        generalize hoa : ta.den Φ k env = oa at hden
        cases oa with
        | none => cases hden
        | some o =>
          obtain ⟨e0, vs⟩ := o
          have hx' : XOk ((id + 2, G, sh) :: xs) env := fun q G0 sh0 he => by
            simp only [entOf] at he
            split at he
            · cases he
              rw [take_all hz]; exact hz
            · exact hx q G0 sh0 he
          have ha := sx_ok hn hM hm htab hS hF (N := AtCut E G sh env (e0, vs)) hta hz hi hx' hoa (leaf_ks hM hz)
          have fin : (e0 = 0 ∨ e0 = id + 2) → tb.den Φ k (env ++ vs) = some out → okZ sh.ps vs = true → sh.wf G = true → N (shSt sh env vs) := fun _ hd q2 q3 => by
            obtain ⟨t', k1, k2, k3, k4, k5, k6⟩ := cutTo_ok htb hd hz q2 q3
            rw [← k6]
            exact hK _ _ t' _ k5 k1 k2 k3 k4
          have out1 : ∀ {e : Exit} {τ : St} {q : Nat}, exN e = some q → q ≠ id + 2 → PX ((id + 2, G, sh) :: xs) env (e0, vs) e τ → PX xs env (e0, vs) e τ := fun {e τ q} h0 hq ⟨m, h1, h2, G0, sh0, h3, h4⟩ => by
            rw [h0] at h1
            cases h1
            refine ⟨q, h0, h2, G0, sh0, ?_, h4⟩
            simp only [entOf] at h3
            split at h3
            · rename_i hb
              exact absurd (Nat.eq_of_beq_eq_true hb).symm hq
            · exact h3
          refine CT.gsQ (CT.block (ha.mono (fun e τ q => ?_)))
          by_cases hcase : e0 = 0 ∨ e0 = id + 2
          · have hd : tb.den Φ k (env ++ vs) = some out := by
              rcases hcase with rfl | rfl
              · exact hden
              · simpa using hden
            have other : ∀ {e : Exit} {τ : St} {q : Nat}, exN e = some q → q ≠ id + 2 → PX ((id + 2, G, sh) :: xs) env (e0, vs) e τ → False := fun {e τ q} h0 hq ⟨m, h1, h2, _⟩ => by
              rw [h0] at h1
              cases h1
              have := (exN_pos h0).1
              simp only at h2
              omega
            cases e with
            | normal =>
              obtain ⟨_, q2, q3, q4⟩ := q
              exact ⟨_, .inr q4, fin hcase hd q2 q3⟩
            | exit j =>
              simp only [blkQ]
              by_cases hj : j = id
              · subst hj
                rw [if_pos rfl]
                obtain ⟨m, h1, h2, G0, sh0, h3, h4, h5, h6⟩ := q
                cases h1
                simp only [entOf, Nat.beq_refl, if_true] at h3
                cases h3
                rw [take_all hz] at h6
                exact ⟨_, .inl rfl, by rw [h6]; exact fin hcase hd h4 h5⟩
              · exact (other rfl (by omega) q).elim
            | ret => exact (other rfl (by omega) q).elim
            | _ => exact absurd q (by rintro ⟨m, h1, _⟩; cases h1)
          · have hd : out = (e0, vs) := by
              have h1 : e0 ≠ 0 := fun g => hcase (.inl g)
              have h2 : Nat.beq e0 (id + 2) = false := by
                cases g : Nat.beq e0 (id + 2) with
                | false => rfl
                | true => exact absurd (.inr (Nat.eq_of_beq_eq_true g)) hcase
              cases e0 with
              | zero => exact absurd rfl h1
              | succ e0 =>
                simp only [h2] at hden
                exact (Option.some.inj hden).symm
            subst hd
            cases e with
            | normal => exact absurd (.inl q.1) hcase
            | exit j =>
              simp only [blkQ]
              by_cases hj : j = id
              · subst hj
                obtain ⟨m, h1, h2, _⟩ := q
                cases h1
                exact absurd (.inr h2) hcase
              · rw [if_neg hj]
                exact ⟨_, .inl rfl, out1 rfl (by omega) q⟩
            | ret => exact ⟨_, .inl rfl, out1 rfl (by omega) q⟩
            | _ => exact absurd q (by rintro ⟨m, h1, _⟩; cases h1)
      · cases h
  | .loop c, p, σ, G, xs, K, t, env, N, out, h, hz, hi, hx, hden, hK => by
    unfold sx at h
    split at h
    · cases h
    · rename_i sh _
      split at h
      · rename_i vals tb hv htb
        cases h
        simp only [Tr.den] at hden
        obtain ⟨g1, g2, g3⟩ := goVals_ok (E := E) hv hM hz (.refl env) hz hi
        refine CT.gs g3 ?_
        refine CT.loop (fun n τ => ∃ vs, okZ sh.ps vs = true ∧ τ = shSt sh env vs ∧ iter (fun vs => tb.den Φ k (env ++ vs)) n vs = some out) (fun n τ hJ => ?_) (n := k) ⟨_, g1, rfl, hden⟩
        obtain ⟨vs, j1, rfl, j3⟩ := hJ
        cases n with
        | zero => cases j3
        | succ n =>
          simp only [iter] at j3
          generalize hob : tb.den Φ k (env ++ vs) = ob at j3
          cases ob with
          | none => cases j3
          | some o =>
            obtain ⟨e0, ws⟩ := o
            obtain ⟨t', k1, k2, k3, k4, k5, k6⟩ := cutTo_ok htb hob hz j1 g2
            have hzG := hz
            have hb := sx_ok hn hM hm htab hS hF (N := AtCut E G sh env (e0, ws)) k1 k2 k3 (hx.ext k5) k4 ((leaf_ks hM hz).ext k5)
            rw [k6] at hb
            refine CT.gsQ (hb.mono (fun e τ q => ?_))
            cases e0 with
            | zero =>
              have hno : ∀ {e : Exit} {τ : St}, PX xs (shEnv sh env vs) (0, ws) e τ → False := fun ⟨n, h1, h2, _⟩ => (exN_pos h1).1 h2.symm
              cases e with
              | normal =>
                obtain ⟨_, q2, q3, q4⟩ := q
                exact ⟨_, .inr q4, n, Nat.lt_succ_self n, ws, q2, rfl, j3⟩
              | _ => exact (hno q).elim
            | succ e0 =>
              simp only [Option.some.injEq] at j3
              subst j3
              cases e with
              | normal => exact absurd q.1 (by simp)
              | _ => exact ⟨_, .inl rfl, PX.back hx k5 q⟩
      · cases h
  | .exit id, p, σ, G, xs, K, t, env, N, out, h, hz, hi, hx, hden, hK => by
    unfold sx at h
    split at h
    · rename_i G0 sh he
      obtain ⟨h1, h2, h3, h4⟩ := leaf_ok (E := E) hM h (hx _ _ _ he) hz hi hden
      exact CT.gsQ (CT.exit ⟨_, .inr h4, id + 2, rfl, h1, G0, sh, he, h2, h3, rfl⟩)
    · cases h
  | .ret, p, σ, G, xs, K, t, env, N, out, h, hz, hi, hx, hden, hK => by
    unfold sx at h
    split at h
    · rename_i G0 sh he
      obtain ⟨h1, h2, h3, h4⟩ := leaf_ok (E := E) hM h (hx _ _ _ he) hz hi hden
      exact CT.gsQ (CT.ret ⟨_, .inr h4, 1, rfl, h1, G0, sh, he, h2, h3, rfl⟩)
    · cases h
  | .rangeFunc .., p, σ, G, xs, K, t, env, N, out, h, hz, hi, hx, hden, hK => by cases h
  | .scope .., p, σ, G, xs, K, t, env, N, out, h, hz, hi, hx, hden, hK => by cases h
  | .label .., p, σ, G, xs, K, t, env, N, out, h, hz, hi, hx, hden, hK => by cases h
  | .goto .., p, σ, G, xs, K, t, env, N, out, h, hz, hi, hx, hden, hK => by cases h
  | .refuse .., p, σ, G, xs, K, t, env, N, out, h, hz, hi, hx, hden, hK => by cases h
end
end Go.BH

/- Functions, and tables of them. -/
set_option linter.unusedVariables false
set_option linter.unusedSimpArgs false
namespace Go.BH
open Go.RowKit
/-! ### trees of the right kinds -/
def ksAt : List (Nat × List CK) → Nat → Option (List CK)
  | [], _ => none
  | (e, k) :: r, n => if Nat.beq e n = true then some k else ksAt r n
def chkTr (S : Kinds) : List (Nat × List CK) → List CK → Tr → Bool
  | L, G, .out e xs => match ksAt L e with
    | some k => tyAs G xs k
    | none => false
  | L, G, .nd n t => chkN S G [n] && chkTr S L (G ++ n.tys) t
  | L, G, .ite a t f => chkTr S L G t && chkTr S L G f
  | L, G, .seq ps a b => chkTr S ((0, ps) :: L) G a && chkTr S L (G ++ ps) b
  | L, G, .loop ps xs b => tyAs G xs ps && chkTr S ((0, ps) :: L) (G ++ ps) b
  | L, G, .blk e ps a b => chkTr S ((0, ps) :: (e, ps) :: L) G a && chkTr S L (G ++ ps) b
  | L, G, .both a t f => chkTr S L G t && chkTr S L G f
section
variable {S : Kinds} {Φ : Fns}
def OutOk (L : List (Nat × List CK)) (o : Nat × List D) : Prop := ∃ k, ksAt L o.1 = some k ∧ okZ k o.2 = true
theorem OutOk.cons {L : List (Nat × List CK)} {e : Nat} {ps : List CK} {o : Nat × List D} (h : OutOk ((e, ps) :: L) o) : (o.1 = e ∧ okZ ps o.2 = true) ∨ (o.1 ≠ e ∧ OutOk L o) := by
  obtain ⟨k, h1, h2⟩ := h
  simp only [ksAt] at h1
  split at h1
  · rename_i g
    cases h1
    exact .inl ⟨(Nat.eq_of_beq_eq_true g).symm, h2⟩
  · rename_i g
    refine .inr ⟨fun e => g ?_, k, h1, h2⟩
    rw [e]; simp
theorem iter_ok {body : List D → Option (Nat × List D)} {ps : List CK} {L : List (Nat × List CK)} (hb : ∀ vs o, okZ ps vs = true → body vs = some o → OutOk ((0, ps) :: L) o) : ∀ (k : Nat) {vs : List D} {o : Nat × List D}, okZ ps vs = true → iter body k vs = some o → o.1 ≠ 0 ∧ OutOk L o
  | 0, vs, o, _, h => by cases h
  | k + 1, vs, o, hv, h => by
    simp only [iter] at h
    cases hbv : body vs with
    | none => rw [hbv] at h; cases h
    | some q =>
      rw [hbv] at h
      obtain ⟨e, ws⟩ := q
      have := (hb vs _ hv hbv).cons
      cases e with
      | zero =>
        rcases this with ⟨_, g⟩ | ⟨g, _⟩
        · exact iter_ok hb k g h
        · exact absurd rfl g
      | succ e =>
        cases h
        rcases this with ⟨g, _⟩ | g
        · cases g
        · exact g
theorem chkTr_ok (hF : FnsOk S Φ) {k : Nat} : ∀ {t : Tr} {L : List (Nat × List CK)} {G : List CK} {env : List D} {o : Nat × List D}, chkTr S L G t = true → okZ G env = true → t.den Φ k env = some o → OutOk L o
  | .out e xs, L, G, env, o, h, hz, hd => by
    simp only [chkTr] at h
    split at h
    · rename_i ks hk
      cases hd
      exact ⟨ks, hk, tyAs_ok hz h⟩
    · cases h
  | .nd n t, L, G, env, o, h, hz, hd => by
    simp only [chkTr, Bool.and_eq_true] at h
    simp only [Tr.den] at hd
    split at hd
    · rename_i ds hr
      obtain ⟨k1, _, _⟩ := runNds_facts hF h.1 hz (env' := env ++ ds) (by simp [runNds, hr])
      exact chkTr_ok hF h.2 (by simpa [tysOf] using k1) hd
    · cases hd
  | .ite a t f, L, G, env, o, h, hz, hd => by
    simp only [chkTr, Bool.and_eq_true] at h
    simp only [Tr.den] at hd
    split at hd
    · exact chkTr_ok hF h.1 hz hd
    · exact chkTr_ok hF h.2 hz hd
    · cases hd
  | .seq ps a b, L, G, env, o, h, hz, hd => by
    simp only [chkTr, Bool.and_eq_true] at h
    simp only [Tr.den] at hd
    cases ha : a.den Φ k env with
    | none => rw [ha] at hd; cases hd
    | some q =>
      rw [ha] at hd
      obtain ⟨e, vs⟩ := q
      have := (chkTr_ok hF h.1 hz ha).cons
      cases e with
      | zero =>
        rcases this with ⟨_, g⟩ | ⟨g, _⟩
        · exact chkTr_ok hF h.2 (okZ_app hz g) hd
        · exact absurd rfl g
      | succ e =>
        cases hd
        rcases this with ⟨g, _⟩ | g
        · cases g
        · exact g.2
  | .loop ps xs b, L, G, env, o, h, hz, hd => by
    simp only [chkTr, Bool.and_eq_true] at h
    simp only [Tr.den] at hd
    exact (iter_ok (fun vs o hv hb => chkTr_ok hF h.2 (okZ_app hz hv) hb) k (tyAs_ok hz h.1) hd).2
  | .blk e ps a b, L, G, env, o, h, hz, hd => by
    simp only [chkTr, Bool.and_eq_true] at h
    simp only [Tr.den] at hd
    cases ha : a.den Φ k env with
    | none => rw [ha] at hd; cases hd
    | some q =>
      rw [ha] at hd
      obtain ⟨e', vs⟩ := q
      have := (chkTr_ok hF h.1 hz ha).cons
      cases e' with
      | zero =>
        rcases this with ⟨_, g⟩ | ⟨g, _⟩
        · exact chkTr_ok hF h.2 (okZ_app hz g) hd
        · exact absurd rfl g
      | succ e' =>
        rcases this with ⟨g, _⟩ | ⟨_, g⟩
        · cases g
        · simp only at hd
          rcases g.cons with ⟨g1, g2⟩ | ⟨g1, g2⟩
          · simp only at g1
            rw [g1] at hd
            simp only [Nat.beq_refl, if_true] at hd
            exact chkTr_ok hF h.2 (okZ_app hz g2) hd
          · split at hd
            · rename_i hb
              exact absurd (Nat.eq_of_beq_eq_true hb) g1
            · cases hd
              exact g2
  | .both a t f, L, G, env, o, h, hz, hd => by
    simp only [chkTr, Bool.and_eq_true] at h
    simp only [Tr.den] at hd
    split at hd
    · exact chkTr_ok hF h.2 hz (agree_some hd).2
    · exact chkTr_ok hF h.2 hz hd
end
/-! ### what is handed back -/
mutual
def SV.nl : SV → Bool
  | .lz _ _ _ => false
  | .pfz l _ _ _ _ => !l.b
  | .slD _ _ _ _ _ => false
  | .agg xs => SV.nls xs
  | .tup xs => SV.nls xs
  | .fn _ xs => SV.nls xs
  | .any => true
  | .dat _ _ => true
  | .K _ => true
  | .nilS => true
  | .e0 => true
  | .ifc _ => true
  | .ptr _ _ => true
  | .ptrE _ _ _ _ => true
  | .sl _ _ _ _ => true
def SV.nls : List SV → Bool
  | [] => true
  | x :: xs => SV.nl x && SV.nls xs
end
mutual
theorem SV.nl_ok {env : List D} : ∀ {x : SV}, x.nl = true → (x.den env).nl = true
  | .lz _ _ _, h => by cases h
  | .slD _ _ _ _ _, h => by cases h
  | .pfz l e a ix o, h => by
    cases l with
    | good =>
      simp only [SV.den, AV.nl, Lv.b, Lv.q, lq, Bool.not_false, Bool.true_and]
      exact nls_iff.2 (fun y hy => nls_iff.1 (encR_nl _ _) y (List.mem_of_mem_drop hy))
    | lent => cases h
    | deep => cases h
  | .agg xs, h => SV.nls_ok (xs := xs) h
  | .tup xs, h => SV.nls_ok (xs := xs) h
  | .fn _ xs, h => SV.nls_ok (xs := xs) h
  | .any, _ => rfl
  | .dat k a, _ => encC_nl _ _
  | .K _, _ => rfl
  | .nilS, _ => rfl
  | .e0, _ => rfl
  | .ifc a, _ => by
    simp only [SV.den]
    unfold ifcA
    split <;> rfl
  | .ptr _ _, _ => rfl
  | .ptrE _ _ _ _, _ => rfl
  | .sl _ _ _ _, _ => rfl
theorem SV.nls_ok {env : List D} : ∀ {xs : List SV}, SV.nls xs = true → AV.nls (SV.dens env xs) = true
  | [], _ => rfl
  | x :: xs, h => by
    simp only [SV.nls, Bool.and_eq_true] at h
    simp only [SV.dens, AV.nls, Bool.and_eq_true]
    exact ⟨SV.nl_ok h.1, SV.nls_ok h.2⟩
end
def nlH : List (Nat × SB) → Bool
  | [] => true
  | (_, .cells xs) :: r => SV.nls xs && nlH r
  | (_, .arr _ _ _ _) :: r => nlH r
theorem famZ_nl (i : Nat) : ∀ (e : List CK) (ds : List D) (p : Nat), AV.nls (famZ i p e ds) = true
  | [], _, p => by simp [famZ, AV.nls]
  | k :: ks, [], p => by simp only [famZ, AV.nls, famZ_nl i ks]; rfl
  | k :: ks, d :: ds, p => by
    simp only [famZ, AV.nls, famZ_nl i ks, Bool.and_true]
    unfold encF
    split
    · rfl
    · exact encC_nl _ _
theorem nls_app {a b : List AV} (h : AV.nls a = true) (k : AV.nls b = true) : AV.nls (a ++ b) = true := nls_iff.2 (fun x hx => by
  rcases List.mem_append.1 hx with g | g
  · exact nls_iff.1 h x g
  · exact nls_iff.1 k x g)
theorem famR_nl (i : Nat) (e : List CK) : ∀ (xs : List D) (p : Nat), AV.nls (famR i e p xs) = true
  | [], p => rfl
  | d :: ds, p => by
    simp only [famR]
    exact nls_app (famZ_nl i e _ p) (famR_nl i e ds _)
theorem nlH_get : ∀ {H : List (Nat × SB)}, nlH H = true → ∀ i xs, hgetS H i = some (.cells xs) → SV.nls xs = true
  | [], _, i, xs, h => by cases h
  | (q, .cells ys) :: r, hn, i, xs, h => by
    simp only [nlH, Bool.and_eq_true] at hn
    simp only [hgetS] at h
    split at h
    · cases h; exact hn.1
    · exact nlH_get hn.2 i xs h
  | (q, .arr w e a n) :: r, hn, i, xs, h => by
    simp only [nlH] at hn
    simp only [hgetS] at h
    split at h
    · cases h
    · exact nlH_get hn i xs h
theorem nlH_ok {env : List D} {H : List (Nat × SB)} (hn : nlH H = true) : ∀ i cs, hget (denH env H) i = some cs → AV.nls cs = true := by
  intro i cs h
  obtain ⟨t, q⟩ := i
  cases q with
  | zero =>
    rw [hget_denH] at h
    obtain ⟨b, hb, rfl⟩ := Option.map_eq_some_iff.1 h
    cases b with
    | cells xs => exact SV.nls_ok (nlH_get hn t xs hb)
    | arr w e a n =>
      cases w with
      | pl => exact encR_nl _ _
      | ow o => exact famR_nl _ _ _ _
  | succ q =>
    rw [hget_denH1] at h
    obtain ⟨b, hb, hm⟩ := Option.bind_eq_some_iff.1 h
    obtain ⟨e, xs, rfl⟩ := more_val hm
    exact encR_nl _ _
def resOk (tab : TyTab) (T : List (Nat × SV)) (H : List (Nat × SB)) : List ResultVar → List SV → Bool
  | [], [] => true
  | .tmp t :: r, v :: vs => SV.beq (tkS T t) v && resOk tab T H r vs
  | .cell a t :: r, v :: vs => (match tyGet tab t, tkS T a with
    | some ty, .ptr i k => (match hgetS H i with
      | some (.cells xs) => if ty.agg = true then !Nat.beq ty.size 0 && Nat.ble (k + ty.size) xs.length && SV.beq (.agg ((xs.drop k).take ty.size)) v else (match xs[k]? with
        | some x => SV.beq x v
        | none => false)
      | _ => false)
    | _, _ => false) && resOk tab T H r vs
  | _, _ => false
theorem resOk_ok {P : Program} {tab : TyTab} (htab : TabOk P tab) {env : List D} {T : List (Nat × SV)} {H : List (Nat × SB)} {nx : Nat} : ∀ {rs : List ResultVar} {vs : List SV}, resOk tab T H rs vs = true → RVs P ⟨denT env T, denH env H, nx⟩ rs (SV.dens env vs)
  | [], [], _ => .nil
  | [], _ :: _, h => by simp [resOk] at h
  | .tmp t :: r, [], h => by simp [resOk] at h
  | .cell a t :: r, [], h => by simp [resOk] at h
  | .tmp t :: r, v :: vs, h => by
    simp only [resOk, Bool.and_eq_true] at h
    refine .cons (.tmp t ?_) (resOk_ok htab h.2)
    rw [← SV.beq_eq h.1]
    exact tk_denT _ _ _
  | .cell a t :: r, v :: vs, h => by
    simp only [resOk, Bool.and_eq_true] at h
    refine .cons ?_ (resOk_ok htab h.2)
    have h1 := h.1
    split at h1
    · rename_i ty i k hty hp
      obtain ⟨d, info, z, t1, t2, t3, t4, t5, t6, t7⟩ := tyGet_ok htab hty
      have hpd : tk (denT env T) a = .ptr i k := by rw [tk_denT, hp]; rfl
      split at h1
      · rename_i xs hh
        have hg : hget (denH env H) i = some (SV.dens env xs) := by rw [hget_denH, hh]; rfl
        split at h1
        · rename_i ha
          simp only [Bool.and_eq_true, Bool.not_eq_true'] at h1
          rw [← SV.beq_eq h1.2]
          rw [t6] at ha
          have hsz := Nat.le_of_ble_eq_true h1.1.2
          rw [t4] at hsz
          refine .cellN (info := info) (k := k) t1 ha t2 (fun g => ?_) hpd hg (by rw [dens_map, List.length_map]; exact hsz) ?_
          · rw [t4, g] at h1
            simp at h1
          · rw [t4, dens_map, dens_map, List.map_take, List.map_drop]
        · rename_i ha
          rw [t6] at ha
          split at h1
          · rename_i x hx
            rw [← SV.beq_eq h1]
            exact .cell1 t1 (by simpa using ha) hpd hg (by rw [dens_map, List.getElem?_map, hx]; rfl)
          · cases h1
      · cases h1
    · cases h1
/-! ### a function -/
def argTS : Nat → List SV → List (Nat × SV)
  | _, [] => []
  | n, x :: xs => (n, x) :: argTS (n + 1) xs
theorem argTS_den {env : List D} : ∀ (n : Nat) (xs : List SV), denT env (argTS n xs) = argT n (SV.dens env xs)
  | _, [] => rfl
  | n, x :: xs => by simp only [argTS, denT, SV.dens, argT, argTS_den (n + 1) xs]
/-- A function of the table: its sign; hints; what its result variables need; its tree (or: what it is taken to do). -/
structure Fe where
  sig : Sig
  hs : Hn
  rT : List (Nat × SV)
  tr : Option Tr
  prim : List D → Option (List D)
def sigsOf (fes : List Fe) : List Sig := fes.map (·.sig)
def kindsOf (fes : List Fe) : Kinds := fun i => match (sigsOf fes)[i]? with
  | some s => some (s.ps, s.rs)
  | none => none
def Fe.ret (fe : Fe) : Shp := ⟨fe.sig.rs, fe.rT, fe.sig.H', fe.sig.nx'⟩
def Fe.G (fe : Fe) : List CK := fe.sig.ps ++ tysOf (lenNds fe.sig.H)
/-- The function's tree, by its text. -/
def Fe.tree (tab : TyTab) (sigs : List Sig) (S : Kinds) (n : Nat) (c : Code) (fe : Fe) : Option Tr :=
  sx ⟨tab, sigs, winH fe.hs, ownH fe.hs⟩ S n fe.sig.H.length fe.hs c 1 ⟨argTS 0 fe.sig.args, fe.sig.H, fe.sig.H.length⟩ fe.G [(1, fe.sig.ps, fe.ret)] (leaf fe.sig.H.length 1 fe.sig.ps fe.ret)
def Fe.ok (P : Program) (tab : TyTab) (sigs : List Sig) (S : Kinds) (fe : Fe) : Bool :=
  match P.funcs[fe.sig.fid]?, fe.tr with
  | some fn, some t => (match fn.body with
    | some c => fn.name != "runtime.NumGoroutine" && Nat.ble fe.sig.args.length fn.ntmps && resOk tab fe.rT fe.sig.H' fn.results.toList fe.sig.res && SV.nls fe.sig.res && nlH fe.sig.H' && arrsOk fe.sig.ps fe.sig.H && lensIx fe.sig.ps.length fe.sig.H && chkTr S [(1, fe.sig.rs)] fe.G t && (match fe.tree tab sigs S fn.ntmps c with
      | some t' => Tr.beq t' t
      | none => false)
    | none => false)
  | _, _ => false
def outF : Option (Nat × List D) → Option (List D)
  | some (1, vs) => some vs
  | _ => none
/-- What the table computes. -/
noncomputable def semF (fes : List Fe) : Nat → Fns
  | 0 => fun _ _ => none
  | k + 1 => fun i vs => match fes[i]? with
    | some fe => (match fe.tr with
      | some t => outF (t.den (semF fes k) k (envA fe.sig vs))
      | none => fe.prim vs)
    | none => none
section
variable {P : Program} {tab : TyTab}
theorem Fe.sigOk {fe : Fe} {sigs : List Sig} {S : Kinds} {Φ : Fns} {k i : Nat} {t : Tr} (hm : P.follows .mixedOrders = true) (htab : TabOk P tab) (hS : ∀ (j : Nat) (s : Sig), sigs[j]? = some s → SigOk P Φ j s) (hF : FnsOk S Φ) (h : fe.ok P tab sigs S = true) (ht : fe.tr = some t) {Ψ : Fns} (hΨ : ∀ vs, Ψ i vs = outF (t.den Φ k (envA fe.sig vs))) : SigOk P Ψ i fe.sig := by
  unfold Fe.ok at h
  split at h
  · rename_i fn t' hfn ht'
    rw [ht] at ht'
    cases ht'
    split at h
    · rename_i c hc
      simp only [Bool.and_eq_true] at h
      obtain ⟨⟨⟨⟨⟨⟨⟨⟨h1, h2⟩, h3⟩, h4⟩, h5⟩, h6⟩, h7⟩, h8⟩, h9⟩ := h
      refine ⟨?_, fun vs rsv hv hr => ?_⟩
      · simp only [knownB, hfn, hc, h1, Option.isSome_some, Bool.and_self]
      split at h9
      · rename_i t'' ht''
        obtain rfl := Tr.beq_eq h9
        rw [hΨ] at hr
        generalize hd : t''.den Φ k (envA fe.sig vs) = o at hr
        unfold outF at hr
        split at hr
        · rename_i ws
          cases hr
          have hzl : okZ (tysOf (lenNds fe.sig.H)) (lensOf vs fe.sig.H) = true := by
            have key : ∀ H : List (Nat × SB), okZ (tysOf (lenNds H)) (lensOf vs H) = true := by
              intro H
              induction H with
              | nil => rfl
              | cons b r ih =>
                obtain ⟨q, b⟩ := b
                cases b with
                | cells xs => exact ih
                | arr w e a n =>
                  simp only [lenNds, tysOf, Nd.tys, lensOf, List.cons_append, List.nil_append, okZ, Bool.and_eq_true]
                  exact ⟨rfl, ih⟩
            exact key _
          have hz : okZ fe.G (envA fe.sig vs) = true := okZ_app hv hzl
          obtain ⟨ks, hk1, hk2⟩ := chkTr_ok hF h8 hz hd
          simp only [ksAt, Nat.beq_refl, if_true] at hk1
          cases hk1
          refine ⟨hk2, ?_⟩
          have hi : SInv (envA fe.sig vs) ⟨argTS 0 fe.sig.args, fe.sig.H, fe.sig.H.length⟩ := by
            intro j w' e a n hh
            have e1 := lensIx_ok (e1 := vs) (l := envA fe.sig vs) h7 (fun k d hd => by
              simp only [At.den, envA]
              rw [okZ_len hv, List.getElem?_append_right (by omega), Nat.add_sub_cancel_left, hd]
              rfl) j w' e a n hh
            rw [e1, envA, tyA_ext hv (arrsOk_get h6 j w' e a n hh)]
          have htake : (envA fe.sig vs).take fe.sig.ps.length = vs := by rw [envA, okZ_len hv, List.take_left]
          have hx : XOk [(1, fe.sig.ps, fe.ret)] (envA fe.sig vs) := fun q G0 sh he => by
            simp only [entOf] at he
            split at he
            · cases he
              rw [htake]; exact hv
            · cases he
          refine FT.of_body hfn hc (by rw [dens_map, List.length_map]; exact Nat.le_of_ble_eq_true h2) (fun μ w g => ?_)
          let E : En := ⟨μ, w, mayH μ (denH (envA fe.sig vs) fe.sig.H), fn.ntmps, fe.sig.H.length, g, fun i => (hget (denH (envA fe.sig vs) fe.sig.H) i).isSome = true⟩
          have key := sx_ok (P := P) (E := E) (C := ⟨tab, sigs, winH fe.hs, ownH fe.hs⟩) (Φ := Φ) (S := S) (k := k) (N := fun τ => ∃ τ', GS E τ τ' ∧ τ' = shSt fe.ret vs rsv) rfl rfl hm htab hS hF ht'' hz hi hx hd (fun σ' G' t' env' e1 h' hz' hi' hd' => by
            have htk : env'.take fe.sig.ps.length = vs := by rw [take_ext (by rw [htake]; exact hv) e1, htake]
            obtain ⟨g1, g2, g3, g4⟩ := leaf_ok (E := E) rfl h' (by rw [htk]; exact hv) hz' hi' hd'
            rw [htk] at g4
            exact ⟨_, g4, rfl⟩)
          simp only [SS.den, argTS_den] at key
          have fin : ∀ e : Exit, (e = .ret ∨ e = .normal) → RQ P fn.results.toList (fun r H' nx => r = oneOf (SV.dens (envR fe.sig vs rsv) fe.sig.res) ∧ Le (denH (envR fe.sig vs rsv) fe.sig.H') H' ∧ nx = fe.sig.nx') e (shSt fe.ret vs rsv) := fun e he =>
            ⟨he, nlH_ok h5, _, resOk_ok htab h3, SV.nls_ok h4, rfl, fun _ _ h => h, rfl⟩
          refine CT.gsQ (key.mono (fun e τ q => ?_))
          cases e with
          | normal =>
            obtain ⟨τ', q1, rfl⟩ := q
            exact ⟨_, .inr q1, fin _ (.inr rfl)⟩
          | ret =>
            obtain ⟨n, q1, q2, G0, sh, q3, q4, q5, q6⟩ := q
            cases q1
            simp only [entOf, Nat.beq_refl, if_true] at q3
            cases q3
            rw [htake] at q6
            exact ⟨_, .inl rfl, by rw [q6]; exact fin _ (.inl rfl)⟩
          | exit j =>
            obtain ⟨n, q1, q2, _⟩ := q
            cases q1
            simp only at q2
            omega
          | _ =>
            obtain ⟨n, q1, _⟩ := q
            cases q1
        · cases hr
      · cases h9
    · cases h
  · cases h
def Fe.known (P : Program) (fe : Fe) : Prop := knownB P fe.sig.fid = true
theorem known_of_ok {fe : Fe} {sigs : List Sig} {S : Kinds} (h : fe.ok P tab sigs S = true) : knownB P fe.sig.fid = true := by
  unfold Fe.ok at h
  split at h
  · rename_i fn t' hfn ht'
    split at h
    · rename_i c hc
      simp only [Bool.and_eq_true] at h
      simp only [knownB, hfn, hc, h.1.1.1.1.1.1.1.1, Option.isSome_some, Bool.and_self]
    · cases h
  · cases h
/-- A table whose functions do as they say. -/
def FeOk (P : Program) (tab : TyTab) (fes : List Fe) (i : Nat) (fe : Fe) : Prop :=
  match fe.tr with
  | some _ => fe.ok P tab (sigsOf fes) (kindsOf fes) = true
  | none => SigOk P (fun _ vs => fe.prim vs) i fe.sig
theorem table_ok {fes : List Fe} (hm : P.follows .mixedOrders = true) (htab : TabOk P tab) (h : ∀ (i : Nat) (fe : Fe), fes[i]? = some fe → FeOk P tab fes i fe) : ∀ (k i : Nat) (s : Sig), (sigsOf fes)[i]? = some s → SigOk P (semF fes k) i s := by
  intro k
  induction k with
  | zero =>
    intro i s hs
    simp only [sigsOf, List.getElem?_map] at hs
    obtain ⟨fe, h1, rfl⟩ := Option.map_eq_some_iff.1 hs
    refine ⟨?_, fun vs rsv hv hr => by cases hr⟩
    have := h i fe h1
    unfold FeOk at this
    split at this
    · exact known_of_ok this
    · exact this.1
  | succ k ih =>
    intro i s hs
    simp only [sigsOf, List.getElem?_map] at hs
    obtain ⟨fe, h1, rfl⟩ := Option.map_eq_some_iff.1 hs
    have hF : FnsOk (kindsOf fes) (semF fes k) := fun f ps rs hf vs ws hv hw => by
      unfold kindsOf at hf
      split at hf
      · rename_i s' hs'
        cases hf
        exact ((ih f s' hs').2 vs ws hv hw).1
      · cases hf
    have hi := h i fe h1
    unfold FeOk at hi
    split at hi
    · rename_i t ht
      exact Fe.sigOk hm htab ih hF hi ht (k := k) (fun vs => by simp only [semF, h1, ht])
    · rename_i ht
      refine ⟨hi.1, fun vs rsv hv hr => hi.2 vs rsv hv ?_⟩
      simp only [semF, h1, ht] at hr
      exact hr
/-! ### reckoning with trees -/
/-- The tree leaves with o, whatever bound is large enough. -/
def Ev (fes : List Fe) (t : Tr) (env : List D) (o : Nat × List D) : Prop := ∃ k0, ∀ k, k0 ≤ k → t.den (semF fes k) k env = some o
/-- The function gives ws. -/
def EvF (fes : List Fe) (i : Nat) (vs ws : List D) : Prop := ∃ k0, ∀ k, k0 ≤ k → semF fes k i vs = some ws
def EvI (fes : List Fe) (b : Tr) (env vs : List D) (o : Nat × List D) : Prop := ∃ k0, ∀ k, k0 ≤ k → ∀ j, k0 ≤ j → iter (fun vs => b.den (semF fes k) k (env ++ vs)) j vs = some o
variable {fes : List Fe} {env : List D} {o : Nat × List D}
theorem EvF.mk {i : Nat} {fe : Fe} {t : Tr} {vs ws : List D} (h1 : fes[i]? = some fe) (h2 : fe.tr = some t) (h : Ev fes t (envA fe.sig vs) (1, ws)) : EvF fes i vs ws := by
  obtain ⟨k0, h⟩ := h
  refine ⟨k0 + 1, fun k hk => ?_⟩
  cases k with
  | zero => omega
  | succ k =>
    simp only [semF, h1, h2]
    rw [h k (by omega)]
    rfl
theorem EvF.prim {i : Nat} {fe : Fe} {vs ws : List D} (h1 : fes[i]? = some fe) (h2 : fe.tr = none) (h : fe.prim vs = some ws) : EvF fes i vs ws := by
  refine ⟨1, fun k hk => ?_⟩
  cases k with
  | zero => omega
  | succ k =>
    simp only [semF, h1, h2]
    exact h
theorem EvF.get (hm : P.follows .mixedOrders = true) (htab : TabOk P tab) (h : ∀ (i : Nat) (fe : Fe), fes[i]? = some fe → FeOk P tab fes i fe) {i : Nat} {fe : Fe} {vs ws : List D} (h1 : fes[i]? = some fe) (hv : okZ fe.sig.ps vs = true) (he : EvF fes i vs ws) : okZ fe.sig.rs ws = true ∧
    FT P fe.sig.fid (SV.dens (envA fe.sig vs) fe.sig.args) (denH (envA fe.sig vs) fe.sig.H) fe.sig.H.length (fun r H' nx => r = oneOf (SV.dens (envR fe.sig vs ws) fe.sig.res) ∧ Le (denH (envR fe.sig vs ws) fe.sig.H') H' ∧ nx = fe.sig.nx') := by
  obtain ⟨k0, he⟩ := he
  exact (table_ok hm htab h k0 i fe.sig (by simp [sigsOf, h1])).2 vs ws hv (he k0 (Nat.le_refl _))
theorem Ev.out {e : Nat} {xs : List At} {vs : List D} (h : xs.map (At.den env) = vs) : Ev fes (.out e xs) env (e, vs) := ⟨0, fun k _ => by rw [Tr.den, h]⟩
theorem Ev.pr {p : Pr} {xs : List At} {t : Tr} {d : D} (h : p.eval (xs.map (At.den env)) = some d) (k : Ev fes t (env ++ [d]) o) : Ev fes (.nd (.pr p xs) t) env o := by
  obtain ⟨k0, k⟩ := k
  exact ⟨k0, fun n hn => by simp only [Tr.den, runNd, h]; exact k n hn⟩
theorem Ev.call {f : Nat} {xs : List At} {ps tys : List CK} {t : Tr} {ds : List D} (h : EvF fes f (xs.map (At.den env)) ds) (k : Ev fes t (env ++ ds) o) : Ev fes (.nd (.call f xs ps tys) t) env o := by
  obtain ⟨k0, k⟩ := k
  obtain ⟨k1, h⟩ := h
  exact ⟨k0 + k1, fun n hn => by simp only [Tr.den, runNd, h n (by omega)]; exact k n (by omega)⟩
theorem Ev.iteT {a : At} {t f : Tr} (h : a.den env = .b true) (k : Ev fes t env o) : Ev fes (.ite a t f) env o := by
  obtain ⟨k0, k⟩ := k
  exact ⟨k0, fun n hn => by simp only [Tr.den, h]; exact k n hn⟩
theorem Ev.iteF {a : At} {t f : Tr} (h : a.den env = .b false) (k : Ev fes f env o) : Ev fes (.ite a t f) env o := by
  obtain ⟨k0, k⟩ := k
  exact ⟨k0, fun n hn => by simp only [Tr.den, h]; exact k n hn⟩
theorem Ev.ite {a : At} {t f : Tr} {c : Bool} (h : a.den env = .b c) (k : c = true → Ev fes t env o) (l : c = false → Ev fes f env o) : Ev fes (.ite a t f) env o := by
  cases c with
  | true => exact .iteT h (k rfl)
  | false => exact .iteF h (l rfl)
theorem Ev.both {a : At} {t f : Tr} (h : (a.den env).isE = true) (k : Ev fes t env o) (l : Ev fes f env o) : Ev fes (.both a t f) env o := by
  obtain ⟨k0, k⟩ := k
  obtain ⟨k1, l⟩ := l
  exact ⟨k0 + k1, fun n hn => by simp only [Tr.den, h, if_true, k n (by omega), l n (by omega), agree_self]⟩
theorem Ev.bothF {a : At} {t f : Tr} (h : (a.den env).isE = false) (l : Ev fes f env o) : Ev fes (.both a t f) env o := by
  obtain ⟨k1, l⟩ := l
  exact ⟨k1, fun n hn => by simp only [Tr.den, h, Bool.false_eq_true, if_false]; exact l n hn⟩
theorem Ev.seq {ps : List CK} {a b : Tr} {vs : List D} (h : Ev fes a env (0, vs)) (k : Ev fes b (env ++ vs) o) : Ev fes (.seq ps a b) env o := by
  obtain ⟨k0, k⟩ := k
  obtain ⟨k1, h⟩ := h
  exact ⟨k0 + k1, fun n hn => by simp only [Tr.den, h n (by omega)]; exact k n (by omega)⟩
theorem Ev.seqX {ps : List CK} {a b : Tr} {e : Nat} {vs : List D} (h : Ev fes a env (e + 1, vs)) : Ev fes (.seq ps a b) env (e + 1, vs) := by
  obtain ⟨k1, h⟩ := h
  exact ⟨k1, fun n hn => by simp only [Tr.den, h n (by omega)]⟩
theorem Ev.blk {e : Nat} {ps : List CK} {a b : Tr} {vs : List D} (h : Ev fes a env (0, vs)) (k : Ev fes b (env ++ vs) o) : Ev fes (.blk e ps a b) env o := by
  obtain ⟨k0, k⟩ := k
  obtain ⟨k1, h⟩ := h
  exact ⟨k0 + k1, fun n hn => by simp only [Tr.den, h n (by omega)]; exact k n (by omega)⟩
theorem Ev.blkE {e : Nat} {ps : List CK} {a b : Tr} {vs : List D} (h : Ev fes a env (e + 1, vs)) (k : Ev fes b (env ++ vs) o) : Ev fes (.blk (e + 1) ps a b) env o := by
  obtain ⟨k0, k⟩ := k
  obtain ⟨k1, h⟩ := h
  exact ⟨k0 + k1, fun n hn => by simp only [Tr.den, h n (by omega), Nat.beq_refl, if_true]; exact k n (by omega)⟩
theorem Ev.blkX {e e' : Nat} {ps : List CK} {a b : Tr} {vs : List D} (h : Ev fes a env (e' + 1, vs)) (hne : Nat.beq (e' + 1) e = false) : Ev fes (.blk e ps a b) env (e' + 1, vs) := by
  obtain ⟨k1, h⟩ := h
  exact ⟨k1, fun n hn => by simp only [Tr.den, h n (by omega), hne]; rfl⟩
theorem Ev.loop {ps : List CK} {xs : List At} {b : Tr} {vs : List D} (hv : xs.map (At.den env) = vs) (h : EvI fes b env vs o) : Ev fes (.loop ps xs b) env o := by
  obtain ⟨k0, h⟩ := h
  exact ⟨k0, fun n hn => by simp only [Tr.den, hv]; exact h n hn n hn⟩
theorem EvI.go {b : Tr} {vs ws : List D} (h : Ev fes b (env ++ vs) (0, ws)) (k : EvI fes b env ws o) : EvI fes b env vs o := by
  obtain ⟨k0, k⟩ := k
  obtain ⟨k1, h⟩ := h
  refine ⟨k0 + k1 + 1, fun n hn j hj => ?_⟩
  cases j with
  | zero => omega
  | succ j =>
    simp only [iter, h n (by omega)]
    exact k n (by omega) j (by omega)
theorem EvI.end {b : Tr} {vs ws : List D} {e : Nat} (h : Ev fes b (env ++ vs) (e + 1, ws)) : EvI fes b env vs (e + 1, ws) := by
  obtain ⟨k1, h⟩ := h
  refine ⟨k1 + 1, fun n hn j hj => ?_⟩
  cases j with
  | zero => omega
  | succ j => simp only [iter, h n (by omega)]
end
end Go.BH

/- Rows: whatever reads as data is so in letters; a law that only reads. -/
set_option linter.unusedVariables false
set_option linter.unusedSimpArgs false
namespace Go.BH
open Go.RowKit Go.Deep
mutual
/-- Whole numbers of their kinds; lengths that a machine can hold. -/
def wfC : CK → D → Prop
  | .int k, .i n => (Lit.int k n).wf = true
  | .bool, .b _ => True
  | .str, .s x => x.size ≤ maxLen
  | .sl e, .l xs => xs.length ≤ maxLen ∧ ∀ x ∈ xs, wfZ e (row e x)
  | _, _ => False
def wfZ : List CK → List D → Prop
  | [], [] => True
  | k :: ks, d :: ds => wfC k d ∧ wfZ ks ds
  | _, _ => False
end
mutual
theorem wfC_ok : ∀ {k : CK} {d : D}, wfC k d → okC k d = true
  | .int k, d, h => by cases d <;> simp [wfC] at h ⊢ <;> rfl
  | .bool, d, h => by cases d <;> simp [wfC] at h ⊢ <;> rfl
  | .str, d, h => by cases d <;> simp [wfC] at h ⊢ <;> rfl
  | .sl e, .l xs, h => by
    rw [wfC] at h
    simp only [okC, List.all_eq_true]
    exact fun x hx => wfZ_ok (h.2 x hx)
  | .sl e, .i _, h => by simp [wfC] at h
  | .sl e, .b _, h => by simp [wfC] at h
  | .sl e, .s _, h => by simp [wfC] at h
theorem wfZ_ok : ∀ {e : List CK} {ds : List D}, wfZ e ds → okZ e ds = true
  | [], [], _ => rfl
  | [], _ :: _, h => by simp [wfZ] at h
  | _ :: _, [], h => by simp [wfZ] at h
  | k :: ks, d :: ds, h => by
    rw [wfZ] at h
    simp only [okZ, Bool.and_eq_true]
    exact ⟨wfC_ok h.1, wfZ_ok h.2⟩
end
theorem wfZ_app : ∀ {a b : List CK} {x y : List D}, wfZ a x → wfZ b y → wfZ (a ++ b) (x ++ y)
  | [], b, [], y, _, h => h
  | [], b, _ :: _, y, h, _ => by simp [wfZ] at h
  | _ :: _, b, [], y, h, _ => by simp [wfZ] at h
  | k :: ks, b, d :: ds, y, h, h' => by
    rw [wfZ] at h
    rw [List.cons_append, List.cons_append, wfZ]
    exact ⟨h.1, wfZ_app h.2 h'⟩
theorem encZ_app : ∀ {a b : List CK} {x y : List D}, x.length = a.length → encZ (a ++ b) (x ++ y) = encZ a x ++ encZ b y
  | [], b, [], y, _ => by simp [encZ]
  | [], b, _ :: _, y, h => by simp at h
  | _ :: _, b, [], y, h => by simp at h
  | k :: ks, b, d :: ds, y, h => by
    rw [List.cons_append, List.cons_append, encZ, encZ, encZ_app (by simpa using h)]
    rfl
/-- A world's cells, as they can be read. -/
def rdW (W : World) (b : Nat) : Option (List Value) := match W.heap[b]? with
  | some (.cells c _ _) => some c.toList
  | _ => none
def muW (W : World) : Mu := ⟨fun _ => none, rdW W, rdW W⟩
theorem muW_rd (W : World) (l : Bool) : (muW W).rd l = rdW W := by cases l <;> rfl
theorem VR.lend {W : World} {l l' : Bool} {s n : Nat} {xs : List AV} {c : Value} (h : VR (muW W) (.fz l s n xs) c) : VR (muW W) (.fz l' s n xs) c := by
  cases h with
  | fz h hl hc k => exact .fz (by rw [muW_rd] at h ⊢; exact h) hl hc k
  | fz0 A c => exact .fz0 A c
theorem VRs.app {μ : Mu} {x y : List AV} {c d : List Value} (h : VRs μ x c) (k : VRs μ y d) : VRs μ (x ++ y) (c ++ d) := by
  induction x generalizing c with
  | nil => cases h; exact k
  | cons a x ih =>
    cases h with
    | cons h1 h2 => exact .cons h1 (ih h2)
def flatF (P : Program) (g : TypeId → Option (List CK)) : List Field → Nat → Option (List CK)
  | [], _ => some []
  | f :: r, o => match g f.type with
    | some l => if (Nat.beq f.offset o && Nat.beq (P.cellsOf f.type) l.length) = true then (match flatF P g r (o + l.length) with
      | some m => some (l ++ m)
      | none => none) else none
    | none => none
/-- The kinds of a type's cells. -/
def flatB (P : Program) : Nat → TypeId → Option (List CK)
  | 0, _ => none
  | n + 1, t => match P.underlying t with
    | some (.int k) => some [.int k]
    | some .bool => some [.bool]
    | some .string => some [.str]
    | some (.slice e) => (match flatB P n e with
      | some l => if (Nat.beq (P.cellsOf e) l.length && !Nat.beq l.length 0) = true then some [.sl l] else none
      | none => none)
    | some (.struct fs) => (match flatF P (flatB P n) fs.toList 0 with
      | some l => if Nat.beq (P.cellsOf t) l.length = true then some l else none
      | none => none)
    | _ => none
theorem rows_vrs {μ : Mu} {e : List CK} : ∀ {xs : List D} {l : List Value}, (∀ i x, xs[i]? = some x → VRs μ (encZ e (row e x)) ((l.drop (i * e.length)).take e.length)) → VRs μ (encR e xs) (l.take (xs.length * e.length))
  | [], l, _ => by
    simp only [encR, List.flatMap_nil, List.length_nil, Nat.zero_mul, List.take_zero]
    exact .nil
  | x :: xs, l, h => by
    have h0 := h 0 x rfl
    have h1 := rows_vrs (μ := μ) (e := e) (xs := xs) (l := l.drop e.length) (fun i y hy => by
      have := h (i + 1) y (by simpa using hy)
      rwa [Nat.add_mul, Nat.one_mul, Nat.add_comm, ← List.drop_drop] at this)
    simp only [Nat.zero_mul, List.drop_zero] at h0
    simp only [encR, List.flatMap_cons, List.length_cons] at h1 ⊢
    rw [Nat.add_mul, Nat.one_mul, Nat.add_comm, List.take_add]
    exact h0.app h1
theorem choose_rows {Q : Nat → D → Prop} : ∀ n : Nat, (∀ i, i < n → ∃ x, Q i x) → ∃ xs : List D, xs.length = n ∧ ∀ i x, xs[i]? = some x → Q i x
  | 0, _ => ⟨[], rfl, fun i x h => by simp at h⟩
  | n + 1, h => by
    obtain ⟨xs, hl, hx⟩ := choose_rows n (fun i hi => h i (by omega))
    obtain ⟨x, hq⟩ := h n (by omega)
    refine ⟨xs ++ [x], by simp [hl], fun i y hy => ?_⟩
    rw [List.getElem?_append] at hy
    split at hy
    · exact hx i y hy
    · rename_i hlt
      have : i = n := by
        by_cases e : i - xs.length = 0
        · omega
        · rw [List.getElem?_eq_none (by simp; omega)] at hy
          cases hy
      subst this
      rw [show i - xs.length = 0 by omega] at hy
      simp at hy
      subst hy
      exact hq
section
variable {P : Program} {H : Type} {enc : TypeId × Value → H} {w : World}
theorem trod_kinds : ∀ {n : Nat} {t : TypeId} {e : List CK} {fuel : Nat} {cs : List Value} {y : DataW H × List MemPlace}, flatB P n t = some e → DataW.trod enc P w 0 (fun _ => true) true fuel t cs = some y → ∃ ds, wfZ e ds ∧ VRs (muW w) (encZ e ds) cs
  | 0, t, e, fuel, cs, y, h, _ => by cases h
  | n + 1, t, e, fuel, cs, y, h, hy => by
    unfold flatB at h
    split at h
    · rename_i k ht
      cases h
      obtain ⟨z, rfl, _, hw⟩ := DataW.trod_int ht hy
      refine ⟨[.i z], ⟨hw, trivial⟩, ?_⟩
      rw [encZ, encZ, encC]
      exact .cons (.v _) .nil
    · rename_i ht
      cases h
      obtain ⟨z, rfl, _⟩ := DataW.trod_bool ht hy
      refine ⟨[.b z], ⟨trivial, trivial⟩, ?_⟩
      rw [encZ, encZ, encC]
      exact .cons (.v _) .nil
    · rename_i ht
      cases h
      obtain ⟨z, rfl, _, hw⟩ := DataW.trod_string ht hy
      refine ⟨[.s z], ⟨hw, trivial⟩, ?_⟩
      rw [encZ, encZ, encC]
      exact .cons (.v _) .nil
    · rename_i el ht
      split at h
      · rename_i l hl
        split at h
        · rename_i hb
          cases h
          simp only [Bool.and_eq_true, Bool.not_eq_true'] at hb
          have hsz := Nat.eq_of_beq_eq_true hb.1
          have hpos : 0 < l.length := by
            rcases Nat.eq_zero_or_pos l.length with g | g
            · rw [g] at hb; simp at hb
            · exact g
          rcases open_slice ht hy with ⟨rfl, _⟩ | ⟨a, len, cap, m, n', D', Pl', rfl, _, hlc, hm, hmm, _, hx⟩
          · refine ⟨[.l []], ⟨⟨by simp [maxLen], fun x hx => by cases hx⟩, trivial⟩, ?_⟩
            rw [encZ, encZ, encC_sl]
            exact .cons (.fz0 _ _) .nil
          · simp only [if_true] at hmm
            subst hmm
            have hrow : ∀ i, i < len → ∃ x : D, (wfZ l (row l x)) ∧ ∃ cs', VRs (muW w) (encZ l (row l x)) cs' ∧ cs'.length = l.length ∧ ∀ j, j < l.length → w.cell? (a.add (i * l.length + j)) = cs'[j]? := fun i hi => by
              obtain ⟨cs', hc, htr⟩ := hx i (by omega)
              obtain ⟨_, hcl, hat⟩ := World.cells?_some hc
              obtain ⟨ds, h1, h2⟩ := trod_kinds hl htr
              have hlen := okZ_length (wfZ_ok h1)
              refine ⟨unrow l ds, by rw [row_unrow hlen]; exact h1, cs', by rw [row_unrow hlen]; exact h2, by rw [hcl, hsz], fun j hj => ?_⟩
              rw [← hat j (by rw [hsz]; exact hj), Go.Deep.add_add, hsz]
            obtain ⟨xs, hxl, hq⟩ := choose_rows len hrow
            have hwf : wfZ [.sl l] [.l xs] := ⟨⟨by omega, fun x hx => by
              obtain ⟨j, hj⟩ := List.mem_iff_getElem?.1 hx
              exact (hq j x hj).1⟩, trivial⟩
            refine ⟨[.l xs], hwf, ?_⟩
            rw [encZ, encZ, encC_sl]
            refine .cons ?_ .nil
            rcases Nat.eq_zero_or_pos len with rfl | hlp
            · have : xs = [] := List.eq_nil_of_length_eq_zero hxl
              subst this
              exact .fz0 _ _
            · have hh : a.spot = none ∧ ∃ c ty r, w.heap[a.block]? = some (.cells c ty r) := by
                obtain ⟨x, hx0⟩ : ∃ x, xs[0]? = some x := by
                  cases xs with
                  | nil => simp at hxl; omega
                  | cons x r => exact ⟨x, rfl⟩
                obtain ⟨_, cs', _, h2, h3⟩ := hq 0 x hx0
                have := h3 0 hpos
                rw [List.getElem?_eq_getElem (by omega)] at this
                unfold World.cell? at this
                split at this
                · rename_i c ty r hh
                  split at this
                  · cases this
                  · rename_i hsp
                    exact ⟨by simpa [Addr.add] using hsp, c, ty, r, by simpa [Addr.add] using hh⟩
                · cases this
              obtain ⟨hsp, c, ty, r, hheap⟩ := hh
              obtain ⟨b, o, sp⟩ := a
              simp only at hsp hheap
              subst hsp
              have hrd : (muW w).rd false b = some c.toList := by
                rw [muW_rd, rdW, hheap]
              have hcell : ∀ j, w.cell? ((⟨b, o, none⟩ : Addr).add j) = c.toList[o + j]? := fun j => by
                by_cases hj0 : j = 0
                · subst hj0
                  simp [World.cell?, Addr.add, hheap]
                · simp [World.cell?, Addr.add, hheap, hj0]
              rw [← hxl]
              refine .fz hrd (encR_length _ _) (by omega) ?_
              refine rows_vrs (fun i x hi => ?_)
              obtain ⟨_, cs', h1, h2, h3⟩ := hq i x hi
              have : (((c.toList.drop o).drop (i * l.length)).take l.length) = cs' := by
                apply List.ext_getElem?
                intro j
                rcases Nat.lt_or_ge j l.length with hj | hj
                · rw [List.getElem?_take_of_lt hj, List.drop_drop, List.getElem?_drop, ← h3 j hj, hcell]
                  congr 1
                  omega
                · rw [List.getElem?_eq_none (by rw [List.length_take]; omega), List.getElem?_eq_none (by omega)]
              rw [this]
              exact h1
        · cases h
      · cases h
    · rename_i fs ht
      split at h
      · rename_i l hl
        split at h
        · rename_i hb
          cases h
          have hcl := Nat.eq_of_beq_eq_true hb
          obtain ⟨xs, m, _, _, hlen, hxl, hg⟩ := DataW.trod_struct ht hy
          have hf : ∀ f ∈ fs.toList, ∃ y, DataW.trod enc P w 0 (fun _ => true) true m f.type ((cs.drop f.offset).take (P.cellsOf f.type)) = some y := fun f hf => by
            obtain ⟨i, hi⟩ := List.mem_iff_getElem?.1 hf
            have hi' : fs[i]? = some f := by simpa using hi
            have hlt : i < fs.size := (Array.getElem?_eq_some_iff.1 hi').1
            have := hg i f hi'
            rw [List.getElem?_eq_getElem (by omega)] at this
            exact ⟨_, this⟩
          have key : ∀ (fl : List Field) (o : Nat) (l : List CK), flatF P (flatB P n) fl o = some l → (∀ f ∈ fl, ∃ y, DataW.trod enc P w 0 (fun _ => true) true m f.type ((cs.drop f.offset).take (P.cellsOf f.type)) = some y) → ∃ ds, wfZ l ds ∧ VRs (muW w) (encZ l ds) ((cs.drop o).take l.length) := by
            intro fl
            induction fl with
            | nil =>
              intro o l h _
              cases h
              exact ⟨[], trivial, by rw [encZ]; simp only [List.length_nil, List.take_zero]; exact .nil⟩
            | cons f r ih =>
              intro o l h hf
              simp only [flatF] at h
              split at h
              · rename_i l1 hl1
                split at h
                · rename_i hb
                  simp only [Bool.and_eq_true] at hb
                  split at h
                  · rename_i m1 hm1
                    cases h
                    obtain ⟨ds2, h3, h4⟩ := ih _ _ hm1 (fun g hg => hf g (List.mem_cons_of_mem _ hg))
                    obtain ⟨y, hy⟩ := hf f List.mem_cons_self
                    obtain ⟨ds1, h1, h2⟩ := trod_kinds hl1 hy
                    rw [Nat.eq_of_beq_eq_true hb.1, Nat.eq_of_beq_eq_true hb.2] at h2
                    refine ⟨ds1 ++ ds2, wfZ_app h1 h3, ?_⟩
                    rw [encZ_app (okZ_length (wfZ_ok h1)), List.length_append, List.take_add, List.drop_drop]
                    exact h2.app h4
                  · cases h
                · cases h
              · cases h
          obtain ⟨ds, h1, h2⟩ := key _ _ _ hl hf
          refine ⟨ds, h1, ?_⟩
          rwa [List.drop_zero, List.take_of_length_le (by omega)] at h2
        · cases h
      · cases h
    · cases h
end
/-- A law that takes no block of its own: it gives x, and what was there is as it was. -/
theorem FT.row {P : Program} {f : FuncId} {args : List AV} {x : Value} {W : World} {vs : List Value} {R : AV → Hp → Nat → Prop} (h : FT P f args [] 0 R) (hR : ∀ r H' nx, R r H' nx → r = .v x) (hv : VRs (muW W) args vs) (hG : GK (muW W).ln) : Calls P f vs.toArray W (fun e W' => e = .returned x ∧ Below W.heap.size W W') := by
  refine Calls.mono (h (muW W) W vs ⟨fun i cs h => (by cases h), fun i cs h => (by cases h), fun i j cs ds _ h => (by cases h), fun l b cs hl => ?_, fun i cs a h => (by cases h)⟩ (fun i _ => rfl) (fun i cs h => by cases h) hv hG) ?_
  · rw [muW_rd] at hl
    unfold rdW at hl
    split at hl
    · rename_i c ty r hh
      cases hl
      exact ⟨c, ty, r, hh, rfl⟩
    · cases hl
  · rintro e w' ⟨c, r, H', nx, μ', rfl, hr, _, _, hvr, _, _, _, hk, _⟩
    rw [hR _ _ _ hr] at hvr
    refine ⟨by rw [hvr.val], hk.os, hk.tape, hk.output, hk.size, fun k hk' => hk.block k hk' ?_⟩
    rintro ⟨i, cs, p, hi, _⟩
    cases hi
end Go.BH

/- Reckoning with trees. -/
set_option linter.unusedVariables false
set_option linter.unusedSimpArgs false
namespace Go.BH
open Go.RowKit
/-! ### a larger bound changes nothing -/
def Sube (Φ Ψ : Fns) : Prop := ∀ f vs ws, Φ f vs = some ws → Ψ f vs = some ws
theorem runNd_mono {Φ Ψ : Fns} (h : Sube Φ Ψ) {n : Nd} {env ds : List D} (hr : runNd Φ n env = some ds) : runNd Ψ n env = some ds := by
  cases n with
  | pr p xs => exact hr
  | call f xs ps tys => exact h _ _ _ hr
theorem iter_mono {f g : List D → Option (Nat × List D)} (h : ∀ vs o, f vs = some o → g vs = some o) : ∀ {k k' : Nat} {vs : List D} {o : Nat × List D}, k ≤ k' → iter f k vs = some o → iter g k' vs = some o
  | 0, _, _, _, _, h => by cases h
  | k + 1, 0, _, _, hk, _ => by omega
  | k + 1, k' + 1, vs, o, hk, hi => by
    simp only [iter] at hi ⊢
    cases hf : f vs with
    | none => rw [hf] at hi; cases hi
    | some q =>
      rw [hf] at hi
      rw [h _ _ hf]
      obtain ⟨e, ws⟩ := q
      cases e with
      | zero => exact iter_mono h (by omega) hi
      | succ e => exact hi
theorem den_mono {Φ Ψ : Fns} (h : Sube Φ Ψ) {k k' : Nat} (hk : k ≤ k') : ∀ {t : Tr} {env : List D} {o : Nat × List D}, t.den Φ k env = some o → t.den Ψ k' env = some o
  | .out e xs, env, o, hd => hd
  | .nd n t, env, o, hd => by
    simp only [Tr.den] at hd ⊢
    cases hr : runNd Φ n env with
    | none => rw [hr] at hd; cases hd
    | some ds =>
      rw [hr] at hd
      rw [runNd_mono h hr]
      exact den_mono h hk hd
  | .ite a t f, env, o, hd => by
    simp only [Tr.den] at hd ⊢
    split at hd
    · exact den_mono h hk hd
    · exact den_mono h hk hd
    · cases hd
  | .seq ps a b, env, o, hd => by
    simp only [Tr.den] at hd ⊢
    cases ha : a.den Φ k env with
    | none => rw [ha] at hd; cases hd
    | some q =>
      rw [ha] at hd
      rw [den_mono h hk ha]
      obtain ⟨e, vs⟩ := q
      cases e with
      | zero => exact den_mono h hk hd
      | succ e => exact hd
  | .loop ps xs b, env, o, hd => by
    simp only [Tr.den] at hd ⊢
    exact iter_mono (fun vs o hb => den_mono h hk hb) hk hd
  | .blk e ps a b, env, o, hd => by
    simp only [Tr.den] at hd ⊢
    cases ha : a.den Φ k env with
    | none => rw [ha] at hd; cases hd
    | some q =>
      rw [ha] at hd
      rw [den_mono h hk ha]
      obtain ⟨e', vs⟩ := q
      cases e' with
      | zero => exact den_mono h hk hd
      | succ e' =>
        simp only at hd ⊢
        split at hd
        · rename_i hb
          rw [if_pos hb]
          exact den_mono h hk hd
        · rename_i hb
          rw [if_neg hb]
          exact hd
  | .both a t f, env, o, hd => by
    simp only [Tr.den] at hd ⊢
    split at hd
    · rename_i hb
      rw [if_pos hb]
      obtain ⟨h1, h2⟩ := agree_some hd
      rw [den_mono h hk h1, den_mono h hk h2, agree_self]
    · rename_i hb
      rw [if_neg hb]
      exact den_mono h hk hd
theorem semF_mono {fes : List Fe} : ∀ {k k' : Nat}, k ≤ k' → Sube (semF fes k) (semF fes k')
  | 0, _, _ => fun f vs ws h => by cases h
  | k + 1, 0, hk => by omega
  | k + 1, k' + 1, hk => fun f vs ws h => by
    simp only [semF] at h ⊢
    split at h
    · rename_i fe hfe
      split at h
      · rename_i t ht
        cases hd : t.den (semF fes k) k (envA fe.sig vs) with
        | none => rw [hd] at h; cases h
        | some o =>
          rw [hd] at h
          rw [den_mono (semF_mono (by omega)) (by omega) hd]
          exact h
      · exact h
    · cases h
/-- What is reckoned at one bound holds. -/
theorem EvF.at {fes : List Fe} {i : Nat} {vs ws : List D} (k : Nat) (h : semF fes k i vs = some ws) : EvF fes i vs ws := ⟨k, fun n hn => semF_mono hn _ _ _ h⟩
/-! ### what a tree asks -/
def LW (fes : List Fe) (b : Tr) (env vs : List D) (Q : Nat → List D → Prop) : Prop := ∃ e ws, EvI fes b env vs (e, ws) ∧ Q e ws
def CW (fes : List Fe) (f : Nat) (vs : List D) (K : List D → Prop) : Prop := ∃ ds, EvF fes f vs ds ∧ K ds
/-- There is a value, and K holds of it. -/
def Wm (o : Option D) (K : D → Prop) : Prop := match o with
  | some d => K d
  | none => False
def W (fes : List Fe) : Tr → List D → (Nat → List D → Prop) → Prop
  | .out e xs, env, Q => Q e (xs.map (At.den env))
  | .nd (.pr p xs) t, env, Q => Wm (p.eval (xs.map (At.den env))) (fun d => W fes t (env ++ [d]) Q)
  | .nd (.call f xs _ _) t, env, Q => CW fes f (xs.map (At.den env)) (fun ds => W fes t (env ++ ds) Q)
  | .ite a t f, env, Q => match a.den env with
    | .b c => if c = true then W fes t env Q else W fes f env Q
    | _ => False
  | .seq _ a b, env, Q => W fes a env (fun e vs => if e = 0 then W fes b (env ++ vs) Q else Q e vs)
  | .loop _ xs b, env, Q => LW fes b env (xs.map (At.den env)) Q
  | .blk e _ a b, env, Q => W fes a env (fun e' vs => if e' = 0 ∨ e' = e then W fes b (env ++ vs) Q else Q e' vs)
  | .both a t f, env, Q => if (a.den env).isE = true then ∃ e ws, W fes t env (fun e' ws' => e' = e ∧ ws' = ws) ∧ W fes f env (fun e' ws' => e' = e ∧ ws' = ws) ∧ Q e ws else W fes f env Q
section
variable {fes : List Fe}
theorem W.ev : ∀ {t : Tr} {env : List D} {Q : Nat → List D → Prop}, W fes t env Q → ∃ e vs, Ev fes t env (e, vs) ∧ Q e vs
  | .out e xs, env, Q, h => ⟨e, _, .out rfl, h⟩
  | .nd (.pr p xs) t, env, Q, h => by
    unfold W Wm at h
    split at h
    · rename_i d hd
      obtain ⟨e, vs, h1, h2⟩ := W.ev h
      exact ⟨e, vs, .pr hd h1, h2⟩
    · cases h
  | .nd (.call f xs _ _) t, env, Q, h => by
    unfold W at h
    obtain ⟨ds, hd, h⟩ := h
    obtain ⟨e, vs, h1, h2⟩ := W.ev h
    exact ⟨e, vs, .call hd h1, h2⟩
  | .ite a t f, env, Q, h => by
    unfold W at h
    split at h
    · rename_i c hc
      split at h
      · rename_i g
        subst g
        obtain ⟨e, vs, h1, h2⟩ := W.ev h
        exact ⟨e, vs, .iteT hc h1, h2⟩
      · rename_i g
        obtain ⟨e, vs, h1, h2⟩ := W.ev h
        exact ⟨e, vs, .iteF (by rw [hc]; simpa using g) h1, h2⟩
    · cases h
  | .seq ps a b, env, Q, h => by
    unfold W at h
    obtain ⟨e, vs, h1, h2⟩ := W.ev h
    cases e with
    | zero =>
      rw [if_pos rfl] at h2
      obtain ⟨e, ws, h3, h4⟩ := W.ev h2
      exact ⟨e, ws, .seq h1 h3, h4⟩
    | succ e =>
      rw [if_neg (by omega)] at h2
      exact ⟨_, vs, .seqX h1, h2⟩
  | .loop ps xs b, env, Q, h => by
    unfold W at h
    obtain ⟨e, ws, h1, h2⟩ := h
    exact ⟨e, ws, .loop rfl h1, h2⟩
  | .blk n ps a b, env, Q, h => by
    unfold W at h
    obtain ⟨e, vs, h1, h2⟩ := W.ev h
    cases e with
    | zero =>
      rw [if_pos (.inl rfl)] at h2
      obtain ⟨e, ws, h3, h4⟩ := W.ev h2
      exact ⟨e, ws, .blk h1 h3, h4⟩
    | succ e =>
      by_cases g : e + 1 = n
      · subst g
        rw [if_pos (.inr rfl)] at h2
        obtain ⟨e', ws, h3, h4⟩ := W.ev h2
        exact ⟨e', ws, .blkE h1 h3, h4⟩
      · rw [if_neg (by omega)] at h2
        refine ⟨_, vs, .blkX h1 ?_, h2⟩
        cases hb : Nat.beq (e + 1) n with
        | false => rfl
        | true => exact absurd (Nat.eq_of_beq_eq_true hb) g
  | .both a t f, env, Q, h => by
    unfold W at h
    split at h
    · rename_i hb
      obtain ⟨e, ws, h1, h2, h3⟩ := h
      obtain ⟨_, _, k1, rfl, rfl⟩ := W.ev h1
      obtain ⟨_, _, k2, rfl, rfl⟩ := W.ev h2
      exact ⟨_, _, .both hb k1 k2, h3⟩
    · rename_i hb
      obtain ⟨e, ws, h1, h2⟩ := W.ev h
      exact ⟨e, ws, .bothF (by simpa using hb) h1, h2⟩
theorem EvF.w {i : Nat} {fe : Fe} {t : Tr} {vs ws : List D} (h1 : fes[i]? = some fe) (h2 : fe.tr = some t) (h : W fes t (envA fe.sig vs) (fun e us => e = 1 ∧ us = ws)) : EvF fes i vs ws := by
  obtain ⟨e, us, h3, rfl, rfl⟩ := W.ev h
  exact EvF.mk h1 h2 h3
theorem CW.mk {f : Nat} {vs ds : List D} {K : List D → Prop} (h : EvF fes f vs ds) (k : K ds) : CW fes f vs K := ⟨ds, h, k⟩
/-- A loop by what holds at each round's head, and a number that goes down. -/
theorem LW.inv {α : Type} {b : Tr} {env : List D} {Q : Nat → List D → Prop} (I : α → Prop) (v : α → List D) (m : α → Nat) (h : ∀ a, I a → W fes b (env ++ v a) (fun e ws => if e = 0 then ∃ a', I a' ∧ m a' < m a ∧ ws = v a' else Q e ws)) {a : α} (ha : I a) {vs : List D} (hv : vs = v a) : LW fes b env vs Q := by
  subst hv
  have key : ∀ (n : Nat) (a : α), m a = n → I a → LW fes b env (v a) Q := by
    intro n
    induction n using Nat.strongRecOn with
    | _ n ih =>
      intro a hn ha
      obtain ⟨e, ws, h1, h2⟩ := W.ev (h a ha)
      cases e with
      | zero =>
        rw [if_pos rfl] at h2
        obtain ⟨a', g1, g2, rfl⟩ := h2
        obtain ⟨e, us, h3, h4⟩ := ih (m a') (by omega) a' rfl g1
        exact ⟨e, us, .go h1 h3, h4⟩
      | succ e =>
        rw [if_neg (by omega)] at h2
        exact ⟨_, ws, .end h1, h2⟩
  exact key _ a rfl ha
theorem LW.mono {b : Tr} {env vs : List D} {Q Q' : Nat → List D → Prop} (h : LW fes b env vs Q) (hq : ∀ e ws, Q e ws → Q' e ws) : LW fes b env vs Q' := by
  obtain ⟨e, ws, h1, h2⟩ := h
  exact ⟨e, ws, h1, hq _ _ h2⟩
end
/-- One round of a loop. -/
theorem LW.go {fes : List Fe} {b : Tr} {env vs : List D} {Q : Nat → List D → Prop} (h : W fes b (env ++ vs) (fun e ws => if e = 0 then LW fes b env ws Q else Q e ws)) : LW fes b env vs Q := by
  obtain ⟨e, ws, h1, h2⟩ := W.ev h
  cases e with
  | zero =>
    rw [if_pos rfl] at h2
    obtain ⟨e, us, h3, h4⟩ := h2
    exact ⟨e, us, .go h1 h3, h4⟩
  | succ e =>
    rw [if_neg (by omega)] at h2
    exact ⟨_, ws, .end h1, h2⟩
section
variable {K : D → Prop} {d : D} {c : Prop} [Decidable c] {o : Option D}
@[simp] theorem Wm_some : Wm (some d) K = K d := rfl
@[simp] theorem Wm_none : Wm none K = False := rfl
@[simp] theorem Wm_ite : Wm (if c then o else none) K = (c ∧ Wm o K) := by by_cases h : c <;> simp [h]
@[simp] theorem Wm_ite' : Wm (if c then none else o) K = (¬ c ∧ Wm o K) := by by_cases h : c <;> simp [h]
@[simp] theorem Wm_map {α : Type} {f : α → D} {a : Option α} : Wm (a.map f) K = ∃ x, a = some x ∧ K (f x) := by cases a <;> simp
@[simp] theorem Wm_bind {α : Type} {f : α → Option D} {a : Option α} : Wm (a.bind f) K = ∃ x, a = some x ∧ Wm (f x) K := by cases a <;> simp
end
section
variable {k k' : IntKind} {x y : Int} {e : List CK} {xs ys : List D}
@[simp] theorem ev_add : (Pr.bin .add k).eval [.i x, .i y] = some (.i (k.wrap (x + y))) := rfl
@[simp] theorem ev_sub : (Pr.bin .sub k).eval [.i x, .i y] = some (.i (k.wrap (x - y))) := rfl
@[simp] theorem ev_mul : (Pr.bin .mul k).eval [.i x, .i y] = some (.i (k.wrap (x * y))) := rfl
@[simp] theorem ev_quo : (Pr.bin .quo k).eval [.i x, .i y] = if y = 0 then none else some (.i (k.wrap (x.tdiv y))) := by simp only [Pr.eval, binI]; split <;> rfl
@[simp] theorem ev_rem : (Pr.bin .rem k).eval [.i x, .i y] = if y = 0 then none else some (.i (x.tmod y)) := by simp only [Pr.eval, binI]; split <;> rfl
@[simp] theorem ev_band : (Pr.bin .and k).eval [.i x, .i y] = some (.i (k.wrap (BitVec.ofInt k.bits x &&& BitVec.ofInt k.bits y).toNat)) := rfl
@[simp] theorem ev_bor : (Pr.bin .or k).eval [.i x, .i y] = some (.i (k.wrap (BitVec.ofInt k.bits x ||| BitVec.ofInt k.bits y).toNat)) := rfl
@[simp] theorem ev_bxor : (Pr.bin .xor k).eval [.i x, .i y] = some (.i (k.wrap (BitVec.ofInt k.bits x ^^^ BitVec.ofInt k.bits y).toNat)) := rfl
@[simp] theorem ev_bandNot : (Pr.bin .andNot k).eval [.i x, .i y] = some (.i (k.wrap (BitVec.ofInt k.bits x &&& ~~~ BitVec.ofInt k.bits y).toNat)) := rfl
@[simp] theorem ev_shl : (Pr.sh .shl k k').eval [.i x, .i y] = if y < 0 then none else some (.i (k.wrap (x * 2 ^ (min y.toNat k.bits)))) := by simp only [Pr.eval, shI]; split <;> rfl
@[simp] theorem ev_shr : (Pr.sh .shr k k').eval [.i x, .i y] = if y < 0 then none else some (.i (x.fdiv (2 ^ (min y.toNat k.bits)))) := by simp only [Pr.eval, shI]; split <;> rfl
@[simp] theorem ev_eql : (Pr.cmp .eql k).eval [.i x, .i y] = some (.b (decide (x = y))) := rfl
@[simp] theorem ev_neq : (Pr.cmp .neq k).eval [.i x, .i y] = some (.b (!decide (x = y))) := rfl
@[simp] theorem ev_lss : (Pr.cmp .lss k).eval [.i x, .i y] = some (.b (decide (x < y))) := rfl
@[simp] theorem ev_leq : (Pr.cmp .leq k).eval [.i x, .i y] = some (.b (decide (x ≤ y))) := rfl
@[simp] theorem ev_gtr : (Pr.cmp .gtr k).eval [.i x, .i y] = some (.b (decide (y < x))) := rfl
@[simp] theorem ev_geq : (Pr.cmp .geq k).eval [.i x, .i y] = some (.b (decide (y ≤ x))) := rfl
@[simp] theorem ev_not {b : Bool} : Pr.not.eval [.b b] = some (.b (!b)) := rfl
@[simp] theorem ev_and {b c : Bool} : Pr.and.eval [.b b, .b c] = some (.b (b && c)) := rfl
@[simp] theorem ev_or {b c : Bool} : Pr.or.eval [.b b, .b c] = some (.b (b || c)) := rfl
@[simp] theorem ev_eqb {b c : Bool} : Pr.eqb.eval [.b b, .b c] = some (.b (b == c)) := rfl
@[simp] theorem ev_nat : (Pr.nat k).eval [.i x] = if 0 ≤ x then some (.i x) else none := rfl
@[simp] theorem ev_neg : (Pr.neg k).eval [.i x] = some (.i (k.wrap (0 - x))) := rfl
@[simp] theorem ev_conv : (Pr.conv k k').eval [.i x] = some (.i (k'.wrap x)) := rfl
@[simp] theorem ev_mx : (Pr.mx k).eval [.i x, .i y] = some (.i (if y > x then y else x)) := rfl
@[simp] theorem ev_mn : (Pr.mn k).eval [.i x, .i y] = some (.i (if y < x then y else x)) := rfl
@[simp] theorem ev_len : (Pr.len e).eval [.l xs] = some (.i xs.length) := rfl
@[simp] theorem ev_lenS {s : ByteArray} : Pr.lenS.eval [.s s] = some (.i s.size) := rfl
@[simp] theorem ev_get {j : Nat} : (Pr.get e j).eval [.l xs, .i x] = if x < 0 then none else (xs[x.toNat]?).bind fun d => (row e d)[j]? := rfl
@[simp] theorem ev_ixc : (Pr.ixc k).eval [.i x, .i y] = if 0 ≤ x ∧ x < y then some (.i x) else none := rfl
@[simp] theorem ev_cut : (Pr.cut e k k').eval [.l xs, .i x, .i y] = if 0 ≤ x ∧ x ≤ y ∧ y ≤ xs.length then some (.l ((xs.drop x.toNat).take (y.toNat - x.toNat))) else none := rfl
@[simp] theorem ev_cutS {s : ByteArray} : (Pr.cutS k k').eval [.s s, .i x, .i y] = if 0 ≤ x ∧ x ≤ y ∧ y ≤ s.size then some (.s (s.extract x.toNat y.toNat)) else none := rfl
@[simp] theorem ev_rng {z : Int} : (Pr.rng k k').eval [.i x, .i y, .i z] = if 0 ≤ x ∧ x ≤ y ∧ y ≤ z then some (.i (y - x)) else none := rfl
@[simp] theorem ev_plus : Pr.plus.eval [.i x, .i y] = if 0 ≤ x ∧ 0 ≤ y then some (.i (x + y)) else none := rfl
@[simp] theorem ev_idxS {s : ByteArray} : (Pr.idxS k).eval [.s s, .i x] = if x < 0 then none else (s[x.toNat]?).map fun b => .i b.toNat := rfl
@[simp] theorem ev_app {n : Nat} : (Pr.app e n).eval [.l xs, .l ys] = if (xs.length + ys.length) * n ≤ 140737488355328 ∧ xs.length + ys.length < 9223372036854775808 then some (.l (xs ++ ys)) else none := rfl
@[simp] theorem ev_mk {n : Nat} : (Pr.mk e n).eval ys = some (.l (rowsOf e n ys)) := rfl
@[simp] theorem ev_mkz {n : Nat} {z : List D} : (Pr.mkz e k n z).eval [.i x] = if 0 ≤ x ∧ n * x.toNat ≤ 281474976710656 ∧ x < 9223372036854775808 then some (.l (List.replicate x.toNat (unrow e z))) else none := rfl
@[simp] theorem ev_set {j : Nat} {d : D} : (Pr.set e j).eval [.l xs, .i x, d] = if 0 ≤ x ∧ x < xs.length then some (.l (xs.modify x.toNat (setRow e j d))) else none := by cases d <;> rfl
@[simp] theorem ev_bstr : Pr.bstr.eval [.l xs] = some (.s (bytesOf xs)) := rfl
@[simp] theorem ev_ite {b : Bool} {q : CK} {d d' : D} : (Pr.ite q).eval [.b b, d, d'] = some (if b then d else d') := by cases d <;> rfl
@[simp] theorem ev_cat {s t : ByteArray} : Pr.cat.eval [.s s, .s t] = if ((s.size + t.size : Nat) : Int) > 9223372036854775807 then none else some (.s (s ++ t)) := rfl
@[simp] theorem ev_cmpS {o : BinOp} {s t : ByteArray} : (Pr.cmpS o).eval [.s s, .s t] = (cmpT o s t).map .b := rfl
end
section
variable {fes : List Fe} {env : List D} {Q : Nat → List D → Prop}
@[simp] theorem W_out {e : Nat} {xs : List At} : W fes (.out e xs) env Q = Q e (xs.map (At.den env)) := by rw [W]
@[simp] theorem W_pr {p : Pr} {xs : List At} {t : Tr} : W fes (.nd (.pr p xs) t) env Q = Wm (p.eval (xs.map (At.den env))) (fun d => W fes t (env ++ [d]) Q) := by rw [W]
@[simp] theorem W_call {f : Nat} {xs : List At} {ps tys : List CK} {t : Tr} : W fes (.nd (.call f xs ps tys) t) env Q = CW fes f (xs.map (At.den env)) (fun ds => W fes t (env ++ ds) Q) := by rw [W]
@[simp] theorem W_ite {a : At} {t f : Tr} : W fes (.ite a t f) env Q = (match a.den env with
    | .b c => if c = true then W fes t env Q else W fes f env Q
    | _ => False) := by rw [W]
@[simp] theorem W_seq {ps : List CK} {a b : Tr} : W fes (.seq ps a b) env Q = W fes a env (fun e vs => if e = 0 then W fes b (env ++ vs) Q else Q e vs) := by rw [W]
@[simp] theorem W_loop {ps : List CK} {xs : List At} {b : Tr} : W fes (.loop ps xs b) env Q = LW fes b env (xs.map (At.den env)) Q := by rw [W]
@[simp] theorem W_blk {e : Nat} {ps : List CK} {a b : Tr} : W fes (.blk e ps a b) env Q = W fes a env (fun e' vs => if e' = 0 ∨ e' = e then W fes b (env ++ vs) Q else Q e' vs) := by rw [W]
@[simp] theorem W_both {a : At} {t f : Tr} : W fes (.both a t f) env Q = if (a.den env).isE = true then ∃ e ws, W fes t env (fun e' ws' => e' = e ∧ ws' = ws) ∧ W fes f env (fun e' ws' => e' = e ∧ ws' = ws) ∧ Q e ws else W fes f env Q := by rw [W]
@[simp] theorem isE_nil : (D.l []).isE = true := rfl
@[simp] theorem isE_cons {x : D} {xs : List D} : (D.l (x :: xs)).isE = false := rfl
@[simp] theorem den_k {d : D} : (At.k d).den env = d := rfl
@[simp] theorem den_v {i : Nat} : (At.v i).den env = (env[i]?).getD (.l []) := rfl
@[simp] theorem items_l {xs : List D} : (D.l xs).items = xs := rfl
@[simp] theorem row_one {k : CK} {d : D} : row [k] d = [d] := rfl
@[simp] theorem setRow_one {k : CK} {x d : D} : setRow [k] 0 x d = x := rfl
@[simp] theorem rowsOf_one {k : CK} {d : D} : rowsOf [k] 1 [d] = [d] := rfl
@[simp] theorem unrow_one {k : CK} {d : D} : unrow [k] [d] = d := rfl
end
/-! ### whole numbers that fit -/
theorem wrap64 {x : Int} (h : -9223372036854775808 ≤ x ∧ x < 9223372036854775808) : IntKind.wrap .i64 x = x := by
  rw [IntKind.wrap_i64]
  omega
theorem wrapU32 {x : Int} (h : 0 ≤ x ∧ x < 4294967296) : IntKind.wrap .u32 x = x := by
  rw [IntKind.wrap_u32]
  omega
theorem wrapU64 {x : Int} (h : 0 ≤ x ∧ x < 18446744073709551616) : IntKind.wrap .u64 x = x := by
  rw [IntKind.wrap_u64]
  omega
theorem wrapU8 {x : Int} (h : 0 ≤ x ∧ x < 256) : IntKind.wrap .u8 x = x := by
  rw [IntKind.wrap_u8]
  omega
theorem wrap64N {x : Nat} (h : x < 9223372036854775808) : IntKind.wrap .i64 (x : Int) = x := wrap64 (by omega)
theorem wrapU32N {x : Nat} (h : x < 4294967296) : IntKind.wrap .u32 (x : Int) = x := wrapU32 (by omega)
theorem tdivN (x y : Nat) : (x : Int).tdiv y = ((x / y : Nat) : Int) := rfl
theorem tmodN (x y : Nat) : (x : Int).tmod y = ((x % y : Nat) : Int) := rfl
theorem divPow (m i : Nat) : (m : Int) / 2 ^ i = ((m / 2 ^ i : Nat) : Int) := by push_cast; rfl
end Go.BH

/- Tables, told once for a program. -/
set_option linter.unusedVariables false
set_option linter.unusedSimpArgs false
namespace Go.BH
open Go.RowKit
abbrev ki8 : CK := .int .i8
abbrev ki16 : CK := .int .i16
abbrev ki32 : CK := .int .i32
abbrev ki64 : CK := .int .i64
abbrev ku8 : CK := .int .u8
abbrev ku16 : CK := .int .u16
abbrev ku32 : CK := .int .u32
abbrev ku64 : CK := .int .u64
abbrev kb : CK := .bool
abbrev ks : CK := .str
def valB : Value → Value → Bool
  | .int k n, .int k' n' => decide (k = k') && decide (n = n')
  | .bool b, .bool c => decide (b = c)
  | .string s, .string t => u8sB s.data.toList t.data.toList
  | .slice none a b, .slice none c d => Nat.beq a c && Nat.beq b d
  | .pointer none, .pointer none => true
  | .nilFunc, .nilFunc => true
  | .nilIface, .nilIface => true
  | _, _ => false
theorem valB_eq {a b : Value} (h : valB a b = true) : a = b := by
  unfold valB at h
  split at h
  · simp only [Bool.and_eq_true, decide_eq_true_eq] at h
    rw [h.1, h.2]
  · rw [of_decide_eq_true h]
  · rename_i s t
    have := Array.toList_inj.1 (u8sB_eq h)
    rw [show s = t from ByteArray.ext this]
  · simp only [Bool.and_eq_true] at h
    rw [Nat.eq_of_beq_eq_true h.1, Nat.eq_of_beq_eq_true h.2]
  · rfl
  · rfl
  · rfl
  · cases h
def valsB : List Value → List Value → Bool
  | [], [] => true
  | x :: xs, y :: ys => valB x y && valsB xs ys
  | _, _ => false
theorem valsB_eq : ∀ {a b : List Value}, valsB a b = true → a = b
  | [], [], _ => rfl
  | [], _ :: _, h => by simp [valsB] at h
  | _ :: _, [], h => by simp [valsB] at h
  | x :: xs, y :: ys, h => by
    simp only [valsB, Bool.and_eq_true] at h
    rw [valB_eq h.1, valsB_eq h.2]
def fldsB : List (TypeId × Nat) → List (TypeId × Nat) → Bool
  | [], [] => true
  | (a, b) :: xs, (c, d) :: ys => Nat.beq a c && Nat.beq b d && fldsB xs ys
  | _, _ => false
theorem fldsB_eq : ∀ {a b : List (TypeId × Nat)}, fldsB a b = true → a = b
  | [], [], _ => rfl
  | [], _ :: _, h => by simp [fldsB] at h
  | _ :: _, [], h => by simp [fldsB] at h
  | (a, b) :: xs, (c, d) :: ys, h => by
    simp only [fldsB, Bool.and_eq_true] at h
    rw [Nat.eq_of_beq_eq_true h.1.1, Nat.eq_of_beq_eq_true h.1.2, fldsB_eq h.2]
def kindB : TyK → TyK → Bool
  | .slice a, .slice b => Nat.beq a b
  | .struct a, .struct b => fldsB a b
  | .array a b, .array c d => Nat.beq a c && Nat.beq b d
  | .str, .str => true
  | .int k, .int k' => decide (k = k')
  | .bool, .bool => true
  | .iface, .iface => true
  | .other, .other => true
  | _, _ => false
theorem kindB_eq {a b : TyK} (h : kindB a b = true) : a = b := by
  unfold kindB at h
  split at h
  · rw [Nat.eq_of_beq_eq_true h]
  · rw [fldsB_eq h]
  · simp only [Bool.and_eq_true] at h
    rw [Nat.eq_of_beq_eq_true h.1, Nat.eq_of_beq_eq_true h.2]
  · rfl
  · rw [of_decide_eq_true h]
  · rfl
  · rfl
  · rfl
  · cases h
def tyB (P : Program) (t : TypeId) (T : Ty) : Bool :=
  match P.underlying t, P.info? t with
  | some d, some i => (match i.zero with
    | some z => Nat.beq T.size i.size && Nat.beq T.bytes i.bytes && decide (T.agg = aggD d) && kindB T.kind (kindD d) && valsB T.zero z.cells.toList && (match T.eqi with
      | true => eqIntsB P t T.size
      | false => true)
    | none => false)
  | _, _ => false
def tabB (P : Program) : TyTab → Bool
  | [] => true
  | (t, T) :: r => tyB P t T && tabB P r
theorem tabB_ok {P : Program} : ∀ {tab : TyTab}, tabB P tab = true → TabOk P tab
  | [], _ => fun p hp => by cases hp
  | (t, T) :: r, h => fun p hp => by
    simp only [tabB, Bool.and_eq_true] at h
    rcases List.mem_cons.1 hp with rfl | hp
    · have h1 := h.1
      unfold tyB at h1
      split at h1
      · rename_i d i hd hi
        split at h1
        · rename_i z hz
          simp only [Bool.and_eq_true] at h1
          obtain ⟨⟨⟨⟨⟨a1, a2⟩, a3⟩, a4⟩, a5⟩, a6⟩ := h1
          refine ⟨d, i, z, hd, hi, hz, Nat.eq_of_beq_eq_true a1, Nat.eq_of_beq_eq_true a2, of_decide_eq_true a3, kindB_eq a4, valsB_eq a5, fun e => ?_⟩
          rw [e] at a6
          exact a6
        · cases h1
      · cases h1
    · exact tabB_ok h.2 p hp
def FeL (P : Program) (tab : TyTab) (fes : List Fe) : Nat → List Fe → Prop
  | _, [] => True
  | n, fe :: r => FeOk P tab fes n fe ∧ FeL P tab fes (n + 1) r
theorem FeL.get {P : Program} {tab : TyTab} {fes : List Fe} : ∀ {n : Nat} {l : List Fe}, FeL P tab fes n l → ∀ (i : Nat) (fe : Fe), l[i]? = some fe → FeOk P tab fes (n + i) fe
  | n, [], _, i, fe, h => by simp at h
  | n, x :: r, hl, 0, fe, h => by
    simp only [List.getElem?_cons_zero, Option.some.injEq] at h
    subst h
    exact hl.1
  | n, x :: r, hl, i + 1, fe, h => by
    have := FeL.get hl.2 i fe (by simpa using h)
    rwa [show n + 1 + i = n + (i + 1) by omega] at this
theorem FeL.all {P : Program} {tab : TyTab} {fes : List Fe} (h : FeL P tab fes 0 fes) : ∀ (i : Nat) (fe : Fe), fes[i]? = some fe → FeOk P tab fes i fe := fun i fe hi => by
  have := h.get i fe hi
  rwa [Nat.zero_add] at this
end Go.BH
