/- A state that says what a shape says. -/
import Derived.Test.YtdjfhggmcigahaaDoorB26
set_option linter.unusedVariables false
set_option linter.unusedSimpArgs false
namespace Go.BH
open Go.RowKit
/-- The shape of a state: the kinds of its own letters (behind those named outside; then the lengths of its blocks). -/
structure Shp where
  ps : List CK
  T : List (Nat × SV)
  H : List (Nat × SB)
  nx : Nat
  deriving Inhabited
def shSt (sh : Shp) (eo vs : List D) : St := (⟨sh.T, sh.H, sh.nx⟩ : SS).den ((eo ++ vs) ++ lensOf (eo ++ vs) sh.H)
/-- y says no more than x: where neither holds others. -/
def wk0 (x y : SV) : Bool :=
  match y with
  | .any => true
  | .sl _ lo n _ => (match x with
    | .nilS => At.beq lo (.k (.i 0)) && At.beq n (.k (.i 0))
    | .e0 => At.beq lo (.k (.i 0)) && At.beq n (.k (.i 0))
    | x => SV.beq x y)
  | .dat (.sl _) a => (match x with
    | .nilS => At.beq a (.k (.l []))
    | .e0 => At.beq a (.k (.l []))
    | x => SV.beq x y)
  | .e0 => (match x with
    | .nilS => true
    | x => SV.beq x y)
  | y => SV.beq x y
mutual
/-- y says no more than x. -/
def wkB : SV → SV → Bool
  | .any, y => wk0 (.any) y
  | .dat k a, y => wk0 (.dat k a) y
  | .lz k a, y => wk0 (.lz k a) y
  | .K v, y => wk0 (.K v) y
  | .nilS, y => wk0 (.nilS) y
  | .e0, y => wk0 (.e0) y
  | .ifc a, y => wk0 (.ifc a) y
  | .ptr i o, y => wk0 (.ptr i o) y
  | .ptrE i ix s o, y => wk0 (.ptrE i ix s o) y
  | .sl i lo n s, y => wk0 (.sl i lo n s) y
  | .pfz l e a ix o, y => wk0 (.pfz l e a ix o) y
  | .agg xs, y => (match y with
    | .agg ys => wkBs xs ys
    | .any => true
    | _ => false)
  | .tup xs, y => (match y with
    | .tup ys => wkBs xs ys
    | .any => true
    | _ => false)
  | .fn f xs, y => (match y with
    | .fn g ys => Nat.beq f g && wkBs xs ys
    | .any => true
    | _ => false)
def wkBs : List SV → List SV → Bool
  | [], y => (match y with
    | [] => true
    | _ => false)
  | x :: xs, y => (match y with
    | y :: ys => wkB x y && wkBs xs ys
    | _ => false)
end
section
variable {env : List D}
theorem wk0_ok {x y : SV} (h : wk0 x y = true) : Wk (x.den env) (y.den env) := by
  have nl : ∀ {lo n : At} {i s : Nat}, (At.beq lo (.k (.i 0)) && At.beq n (.k (.i 0))) = true → ∀ μ c, (∃ A, c = Value.slice A 0 0) → VR μ ((SV.sl i lo n s).den env) c := fun {lo n i s} h μ c ⟨A, e⟩ => by
    simp only [Bool.and_eq_true] at h
    rw [At.beq_eq h.1, At.beq_eq h.2, e]
    simp only [SV.den, At.den, D.nat, D.int, Int.toNat_zero, Nat.zero_mul]
    exact .sl0 _
  have nd : ∀ {e : List CK} {a : At}, At.beq a (.k (.l [])) = true → ∀ μ c, (∃ A, c = Value.slice A 0 0) → VR μ ((SV.dat (.sl e) a).den env) c := fun {e a} h μ c ⟨A, e1⟩ => by
    rw [At.beq_eq h, e1]
    show VR μ (encC (.sl e) (.l [])) _
    rw [encC_sl]
    exact .fz0 _ _
  unfold wk0 at h
  split at h
  · exact .any _
  · split at h
    · exact fun μ c k => nl h μ c (by cases k; exact ⟨_, rfl⟩)
    · exact fun μ c k => nl h μ c (by cases k; exact ⟨_, rfl⟩)
    · rw [SV.beq_eq h]; exact .refl _
  · split at h
    · exact fun μ c k => nd h μ c (by cases k; exact ⟨_, rfl⟩)
    · exact fun μ c k => nd h μ c (by cases k; exact ⟨_, rfl⟩)
    · rw [SV.beq_eq h]; exact .refl _
  · split at h
    · exact fun μ c k => by cases k; exact .e0 _
    · rw [SV.beq_eq h]; exact .refl _
  · rw [SV.beq_eq h]; exact .refl _
mutual
theorem wkB_ok : ∀ {x y : SV}, wkB x y = true → Wk (x.den env) (y.den env)
  | .any, y, h => wk0_ok (by rw [wkB] at h; exact h)
  | .dat k a, y, h => wk0_ok (by rw [wkB] at h; exact h)
  | .lz k a, y, h => wk0_ok (by rw [wkB] at h; exact h)
  | .K v, y, h => wk0_ok (by rw [wkB] at h; exact h)
  | .nilS, y, h => wk0_ok (by rw [wkB] at h; exact h)
  | .e0, y, h => wk0_ok (by rw [wkB] at h; exact h)
  | .ifc a, y, h => wk0_ok (by rw [wkB] at h; exact h)
  | .ptr i o, y, h => wk0_ok (by rw [wkB] at h; exact h)
  | .ptrE i ix s o, y, h => wk0_ok (by rw [wkB] at h; exact h)
  | .sl i lo n s, y, h => wk0_ok (by rw [wkB] at h; exact h)
  | .pfz l e a ix o, y, h => wk0_ok (by rw [wkB] at h; exact h)
  | .agg xs, y, h => by
    unfold wkB at h
    split at h
    · exact .agg (wkBs_ok h)
    · exact .any _
    · cases h
  | .tup xs, y, h => by
    unfold wkB at h
    split at h
    · exact .tup (wkBs_ok h)
    · exact .any _
    · cases h
  | .fn f xs, y, h => by
    unfold wkB at h
    split at h
    · simp only [Bool.and_eq_true] at h
      obtain rfl := Nat.eq_of_beq_eq_true h.1
      exact .fn (wkBs_ok h.2)
    · exact .any _
    · cases h
theorem wkBs_ok : ∀ {xs ys : List SV}, wkBs xs ys = true → Wks (SV.dens env xs) (SV.dens env ys)
  | [], y, h => by
    unfold wkBs at h
    split at h
    · exact .nil
    · cases h
  | x :: xs, y, h => by
    unfold wkBs at h
    split at h
    · simp only [Bool.and_eq_true] at h
      exact .cons (wkB_ok h.1) (wkBs_ok h.2)
    · cases h
end
end
mutual
/-- What the letters and names of a shape stand for (looked for; nothing rests on it). -/
def bindM (n0 : Nat) : SV → SV → List (Nat × At) × List (Nat × Nat) → List (Nat × At) × List (Nat × Nat)
  | .dat _ a, .dat _ (.v j), (vs, is) => ((j, a) :: vs, is)
  | .lz _ a, .lz _ (.v j), (vs, is) => ((j, a) :: vs, is)
  | .nilS, .dat _ (.v j), (vs, is) => ((j, .k (.l [])) :: vs, is)
  | .e0, .dat _ (.v j), (vs, is) => ((j, .k (.l [])) :: vs, is)
  | .nilS, .sl _ lo' n' _, (vs, is) => ((match lo' with
      | .v j => [(j, .k (.i 0))]
      | _ => []) ++ (match n' with
      | .v j => [(j, .k (.i 0))]
      | _ => []) ++ vs, is)
  | .e0, .sl _ lo' n' _, (vs, is) => ((match lo' with
      | .v j => [(j, .k (.i 0))]
      | _ => []) ++ (match n' with
      | .v j => [(j, .k (.i 0))]
      | _ => []) ++ vs, is)
  | .sl _ _ _ _, .dat _ _, acc => acc
  | .ptr i _, .ptr q _, (vs, is) => (vs, (q, i) :: is)
  | .ptrE i ix _ _, .ptrE q (.v j) _ _, (vs, is) => ((j, ix) :: vs, (q, i) :: is)
  | .sl i lo n _, .sl q lo' n' _, (vs, is) => ((match lo' with
      | .v j => [(j, lo)]
      | _ => []) ++ (match n' with
      | .v j => [(j, n)]
      | _ => []) ++ vs, (q, i) :: is)
  | .pfz _ _ a ix _, .pfz _ _ a' ix' _, (vs, is) => ((match a' with
      | .v j => [(j, a)]
      | _ => []) ++ (match ix' with
      | .v j => [(j, ix)]
      | _ => []) ++ vs, is)
  | .agg xs, .agg ys, acc => bindMs n0 xs ys acc
  | .tup xs, .tup ys, acc => bindMs n0 xs ys acc
  | .fn _ xs, .fn _ ys, acc => bindMs n0 xs ys acc
  | _, _, acc => acc
def bindMs (n0 : Nat) : List SV → List SV → List (Nat × At) × List (Nat × Nat) → List (Nat × At) × List (Nat × Nat)
  | x :: xs, y :: ys, acc => bindMs n0 xs ys (bindM n0 x y acc)
  | _, _, acc => acc
end
mutual
/-- Slices that the shape wants by value. -/
def fzM : SV → SV → List Nat
  | .sl i _ _ _, .dat _ _ => [i]
  | .agg xs, .agg ys => fzMs xs ys
  | .tup xs, .tup ys => fzMs xs ys
  | .fn _ xs, .fn _ ys => fzMs xs ys
  | _, _ => []
def fzMs : List SV → List SV → List Nat
  | x :: xs, y :: ys => fzM x y ++ fzMs xs ys
  | _, _ => []
end
def bindT (n0 : Nat) (T : List (Nat × SV)) : List (Nat × SV) → List (Nat × At) × List (Nat × Nat) → List (Nat × At) × List (Nat × Nat)
  | [], acc => acc
  | (t, p) :: r, acc => bindT n0 T r (bindM n0 (tkS T t) p acc)
def fzT (T : List (Nat × SV)) : List (Nat × SV) → List Nat
  | [] => []
  | (t, p) :: r => fzM (tkS T t) p ++ fzT T r
def hasN (l : List (Nat × Nat)) (i : Nat) : Bool := match l with
  | [] => false
  | (j, _) :: r => Nat.beq j i || hasN r i
def fzHM (H : List (Nat × SB)) (is : List (Nat × Nat)) : List (Nat × SB) → List Nat
  | [] => []
  | (i, pb) :: r => (match hgetS H (lookN is i), pb with
    | some (.cells xs), .cells ys => if hasN is i = true then fzMs xs ys else []
    | _, _ => []) ++ fzHM H is r
/-- Blocks of the shape, in order; those that nothing names are new and empty. -/
def bindHM (n0 : Nat) (M : Nat) : List (Nat × SB) → SS → List (Nat × At) × List (Nat × Nat) → SS × List (Nat × At) × List (Nat × Nat)
  | [], σ, acc => (σ, acc)
  | (i, pb) :: r, σ, acc => if (hasN acc.2 i || Nat.blt i M) = true then
      let q := if Nat.blt i M = true then i else lookN acc.2 i
      let acc := (acc.1, (i, q) :: acc.2)
      (match hgetS σ.H q, pb with
      | some (.cells xs), .cells ys => bindHM n0 M r σ (bindMs n0 xs ys acc)
      | some (.arr _ a _), .arr _ (.v j) _ => bindHM n0 M r σ ((j, a) :: acc.1, acc.2)
      | _, _ => bindHM n0 M r σ acc)
    else (match pb with
      | .arr e (.v j) _ => bindHM n0 M r ⟨σ.T, σ.H ++ [(σ.nx, .arr e (.k (.l [])) (.k (.i 0)))], σ.nx + 1⟩ ((j, .k (.l [])) :: acc.1, (i, σ.nx) :: acc.2)
      | .arr e _ _ => bindHM n0 M r ⟨σ.T, σ.H ++ [(σ.nx, .arr e (.k (.l [])) (.k (.i 0)))], σ.nx + 1⟩ (acc.1, (i, σ.nx) :: acc.2)
      | _ => bindHM n0 M r σ acc)
def lensM (σ : SS) (rs : List Nat) : List (Nat × SB) → List At
  | [] => []
  | (i, .arr _ _ _) :: r => (match hgetS σ.H (rs.getD i 0) with
    | some (.arr _ _ k) => k
    | _ => .k (.i 0)) :: lensM σ rs r
  | (_, .cells _) :: r => lensM σ rs r
def chkT (σ : SS) (θ : List At) (f : Nat → Nat) : List (Nat × SV) → Bool
  | [] => true
  | (t, p) :: r => wkB (tkS σ.T t) (p.sub θ f) && chkT σ θ f r
def chkH (σ : SS) (θ : List At) (f : Nat → Nat) (rs : List Nat) : List (Nat × SB) → Bool
  | [] => true
  | (i, pb) :: r => (match rs[i]? with
    | some j => (match hgetS σ.H j, pb with
      | some (.cells xs), .cells ys => wkBs xs (SV.subs θ f ys)
      | some (.arr e a _), .arr e' a' _ => CK.beqs e e' && At.beq a (a'.sub θ)
      | _, _ => false)
    | none => false) && chkH σ θ f rs r
def namesH : List (Nat × SB) → List Nat
  | [] => []
  | (i, _) :: r => i :: namesH r
def sameRs : Nat → List Nat → Nat → Bool
  | _, _, 0 => true
  | i, r :: rs, m + 1 => Nat.beq r i && sameRs (i + 1) rs m
  | _, [], _ + 1 => false
def nmS (rs : List Nat) (nx : Nat) (i : Nat) : Nat := (rs[i]?).getD nx
def Shp.wf (G0 : List CK) (sh : Shp) : Bool := arrsOk (G0 ++ sh.ps) sh.H && lensIx (G0.length + sh.ps.length) sh.H
/-- The data by which a state takes a shape. -/
def goVals (M : Nat) (G0 : List CK) (sh : Shp) (σ : SS) (G : List CK) : Option (List At) :=
  let n0 := G0.length
  if σ.wt G = true then
    let a0 := bindT n0 σ.T sh.T ([], [])
    match frzAll (fzT σ.T sh.T ++ fzHM σ.H a0.2 sh.H) σ with
    | some σ1 =>
      let a1 := bindT n0 σ1.T sh.T ([], [])
      match bindHM n0 M sh.H σ1 a1 with
      | (σ2, acc) =>
        let vals := (List.range' n0 sh.ps.length).map (lookA acc.1)
        let rs := (List.range sh.nx).map (fun i => if Nat.blt i M = true then i else if hasN acc.2 i = true then lookN acc.2 i else σ2.nx)
        let θ := varsFrom 0 n0 ++ vals ++ lensM σ2 rs sh.H
        let f := nmS rs σ2.nx
        if (tyAs G vals sh.ps && sh.wf G0 && chkT σ2 θ f sh.T && chkH σ2 θ f rs sh.H && nodupN ((namesH sh.H).map (fun i => rs.getD i 0)) && nodupN (namesH sh.H) && sameRs 0 rs M && Nat.ble M sh.nx) = true then some vals else none
    | none => none
  else none
/-- Behind a change that the world does not see, σ says what σ' says. -/
def GS (E : En) (σ σ' : St) : Prop := ∃ σ1 rs, Gh E σ σ1 ∧ Sel E.m rs σ1 σ'
theorem CT.gs {P : Program} {E : En} {c : Code} {Q : Exit → St → Prop} {σ σ' : St} (k : GS E σ σ') (h : CT P E c Q σ') : CT P E c Q σ := by
  obtain ⟨σ1, rs, h1, h2⟩ := k
  exact (h.sel h2).gh h1
end Go.BH
