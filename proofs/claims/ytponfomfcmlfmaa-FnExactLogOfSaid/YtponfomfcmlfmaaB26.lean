/- The author's own words; nothing here is trusted. -/
import Derived.Test.YtponfomfcmlfmaaB22
/- Calls, in letters, 2. -/
set_option linter.unusedVariables false
set_option linter.unusedSimpArgs false
namespace Go.BH
open Go.RowKit
mutual
/-- What the letters of a sign stand for (looked for; nothing rests on it). -/
def bindV (σ : SS) (cs : List (Nat × At × At × At)) : SV → SV → List (Nat × At) × List (Nat × Nat) → List (Nat × At) × List (Nat × Nat)
  | .dat _ a, .dat _ (.v j), (vs, is) => ((j, a) :: vs, is)
  | .dat _ a, .lz _ _ (.v j), (vs, is) => ((j, a) :: vs, is)
  | .lz _ _ a, .lz _ _ (.v j), (vs, is) => ((j, a) :: vs, is)
  | .nilS, .dat _ (.v j), (vs, is) => ((j, .k (.l [])) :: vs, is)
  | .nilS, .lz _ _ (.v j), (vs, is) => ((j, .k (.l [])) :: vs, is)
  | .e0, .dat _ (.v j), (vs, is) => ((j, .k (.l [])) :: vs, is)
  | .e0, .lz _ _ (.v j), (vs, is) => ((j, .k (.l [])) :: vs, is)
  | .sl i lo n s, .lz _ _ (.v j), (vs, is) => if (isZ lo && whole σ i n) = true then (match hgetS σ.H i with
      | some (.arr _ _ a _) => ((j, a) :: vs, is)
      | _ => (vs, is)) else (match cutFind i lo n cs with
      | some c => ((j, c) :: vs, is)
      | none => (vs, is))
  | .ptr i _, .ptr n _, (vs, is) => (vs, (n, i) :: is)
  | .sl i _ _ _, .sl n _ _ _, (vs, is) => (vs, (n, i) :: is)
  | .agg xs, .agg ys, acc => bindVs σ cs xs ys acc
  | .fn _ xs, .fn _ ys, acc => bindVs σ cs xs ys acc
  | _, _, acc => acc
def bindVs (σ : SS) (cs : List (Nat × At × At × At)) : List SV → List SV → List (Nat × At) × List (Nat × Nat) → List (Nat × At) × List (Nat × Nat)
  | x :: xs, y :: ys, acc => bindVs σ cs xs ys (bindV σ cs x y acc)
  | _, _, acc => acc
end
def lookA : List (Nat × At) → Nat → At
  | [], _ => .k (.l [])
  | (j, a) :: r, n => if Nat.beq j n = true then a else lookA r n
def lookN : List (Nat × Nat) → Nat → Nat
  | [], _ => 0
  | (j, a) :: r, n => if Nat.beq j n = true then a else lookN r n
def bindH (σ : SS) (cs : List (Nat × At × At × At)) : List (Nat × SB) → List (Nat × At) × List (Nat × Nat) → List (Nat × At) × List (Nat × Nat)
  | [], acc => acc
  | (n, pb) :: r, acc => match hgetS σ.H (lookN acc.2 n), pb with
    | some (.cells xs), .cells ys => bindH σ cs r (bindVs σ cs xs ys acc)
    | some (.arr _ _ a _), .arr _ _ (.v j) _ => bindH σ cs r ((j, a) :: acc.1, acc.2)
    | _, _ => bindH σ cs r acc
def lensAt (σ : SS) (ids : List Nat) : List (Nat × SB) → List At
  | [] => []
  | (n, .arr _ _ _ _) :: r => (match hgetS σ.H (ids.getD n 0) with
    | some (.arr _ _ _ k) => k
    | _ => .k (.i 0)) :: lensAt σ ids r
  | (_, .cells _) :: r => lensAt σ ids r
/-- The same owner, and nothing taken out. -/
def owB : Ow → Ow → Bool
  | .pl, .pl => true
  | .ow none, .ow none => true
  | _, _ => false
def handB (σ : SS) (θ : List At) (ids : List Nat) (cs : List (Nat × At × At × At)) : Nat → List (Nat × SB) → Bool
  | _, [] => true
  | p, (n, pb) :: r => Nat.beq n p && (match ids[n]? with
    | none => false
    | some i => (match hgetS σ.H i, pb with
      | some (.cells xs), .cells ys => lndBs σ θ ids cs false xs ys
      | some (.arr w e a _), .arr w' e' a' _ => owB w w' && CK.beqs e e' && At.beq a (a'.sub θ)
      | _, _ => false)) && handB σ θ ids cs (p + 1) r
def nodupN : List Nat → Bool
  | [] => true
  | i :: r => !memN i r && nodupN r
def disjN (a : List Nat) : List Nat → Bool
  | [] => true
  | i :: r => !memN i a && disjN a r
def arrsOk (G : List CK) : List (Nat × SB) → Bool
  | [] => true
  | (_, .arr w e a _) :: r => tyA G a (.sl e) && arrsOk G r
  | (_, .cells _) :: r => arrsOk G r
def lensIx : Nat → List (Nat × SB) → Bool
  | _, [] => true
  | j, (_, .arr _ _ _ n) :: r => At.beq n (.v j) && lensIx (j + 1) r
  | j, (_, .cells _) :: r => lensIx j r
def Sig.wf (s : Sig) : Bool := arrsOk s.ps s.H && arrsOk (s.ps ++ s.rs) s.H' && lensIx (s.ps.length + s.rs.length) s.H'
def subH (θ : List At) (f : Nat → Nat) : List (Nat × SB) → List (Nat × SB)
  | [] => []
  | (n, b) :: r => (f n, b.sub θ f) :: subH θ f r
def hdelsS (H : List (Nat × SB)) : List Nat → List (Nat × SB)
  | [] => H
  | i :: is => hdelsS (hdelS H i) is
def varsFrom : Nat → Nat → List At
  | _, 0 => []
  | m, n + 1 => .v m :: varsFrom (m + 1) n
def oneOfS : List SV → SV
  | [x] => x
  | l => .tup l
/-- The caller's name for block n of the callee. -/
def nmdS (ids : List Nat) (nx n : Nat) : Nat := (ids[n]?).getD (nx + (n - ids.length))
def ltAll (ids : List Nat) (nx : Nat) : Bool := match ids with
  | [] => true
  | i :: r => Nat.blt i nx && ltAll r nx
/-- A call by its sign. -/
def sCallW (ks : List Nat) (σ : SS) (m : Nat) (e : Nat) (s : Sig) (A : List SV) : Option (List Nd × SV × SS) :=
  match cutN σ m (cutLs σ A) with
  | (n1, cs) =>
    let acc := bindH σ cs s.H (bindVs σ cs A s.args ([], []))
    let vals := (List.range s.ps.length).map (lookA acc.1)
    let ids := (List.range s.H.length).map (lookN acc.2)
    let θ := vals ++ lensAt σ ids s.H
    if (lndBs σ θ ids cs true A s.args && handB σ θ ids cs 0 s.H && nodupN ids && aliveS σ ids && aliveS σ ks && disjN ids ks && s.wf && ltAll ids σ.nx) = true then
      let m1 := m + n1.length
      let θ1 := vals ++ varsFrom m1 s.rs.length
      let n2 := lenNds (subH θ1 (nmdS ids σ.nx) s.H')
      let θ2 := θ1 ++ varsFrom (m1 + s.rs.length) n2.length
      some (n1 ++ .call e vals s.ps s.rs :: n2, oneOfS (SV.subs θ2 (nmdS ids σ.nx) s.res), ⟨σ.T, hdelsS σ.H ids ++ subH θ2 (nmdS ids σ.nx) s.H', σ.nx + (s.nx' - ids.length)⟩)
    else none
/-- The first sign that fits. -/
def sCallF (ks : List Nat) (σ : SS) (m : Nat) (f : Nat) (A : List SV) : Nat → List Sig → Option (List Nd × SV × SS)
  | _, [] => none
  | e, s :: r => if Nat.beq s.fid f = true then (match sCallW ks σ m e s A with
    | some x => some x
    | none => sCallF ks σ m f A (e + 1) r) else sCallF ks σ m f A (e + 1) r
section
variable {P : Program} {E : En} {σ : SS} {o : Oper} {ks : List Nat} {tab : TyTab} {env : List D} {m : Nat} {nds : List Nd} {v : SV} {Φ : Fns}
theorem cutN_pr : ∀ (L : List (Nat × At × At)) (m : Nat), ∀ x ∈ (cutN σ m L).1, ∃ p xs, x = Nd.pr p xs
  | [], m, x, hx => by simp [cutN] at hx
  | (j, lo, n) :: r, m, x, hx => by
    simp only [cutN] at hx
    split at hx
    · simp only [List.mem_cons] at hx
      rcases hx with rfl | rfl | hx
      · exact ⟨_, _, rfl⟩
      · exact ⟨_, _, rfl⟩
      · exact cutN_pr r _ x hx
    · exact cutN_pr r _ x hx
theorem nodupN_spec : ∀ {l : List Nat}, nodupN l = true → ∀ (n m i : Nat), l[n]? = some i → l[m]? = some i → n = m
  | [], _, n, m, i, h, _ => by simp at h
  | x :: r, hd, 0, 0, i, _, _ => rfl
  | x :: r, hd, 0, m + 1, i, h1, h2 => by
    simp only [nodupN, Bool.and_eq_true, Bool.not_eq_true'] at hd
    simp at h1 h2
    subst h1
    have := memN_iff.2 (List.mem_of_getElem? h2)
    rw [hd.1] at this
    cases this
  | x :: r, hd, n + 1, 0, i, h1, h2 => by
    simp only [nodupN, Bool.and_eq_true, Bool.not_eq_true'] at hd
    simp at h1 h2
    subst h2
    have := memN_iff.2 (List.mem_of_getElem? h1)
    rw [hd.1] at this
    cases this
  | x :: r, hd, n + 1, m + 1, i, h1, h2 => by
    simp only [nodupN, Bool.and_eq_true] at hd
    rw [nodupN_spec hd.2 n m i (by simpa using h1) (by simpa using h2)]
theorem disjN_spec : ∀ {a l : List Nat}, disjN a l = true → ∀ i ∈ l, i ∉ a
  | a, [], _, i, h => by cases h
  | a, x :: r, hd, i, h => by
    simp only [disjN, Bool.and_eq_true, Bool.not_eq_true'] at hd
    rcases List.mem_cons.1 h with rfl | h
    · intro hm
      rw [memN_iff.2 hm] at hd
      cases hd.1
    · exact disjN_spec hd.2 i h
theorem At.den_app {G : List CK} {vs : List D} (h : okZ G vs = true) {a : At} {k : CK} (ha : tyA G a k = true) (l : List D) : a.den (vs ++ l) = a.den vs := tyA_ext h ha l
theorem lensOf_ext {G : List CK} {vs : List D} (h : okZ G vs = true) (l : List D) : ∀ {H : List (Nat × SB)}, arrsOk G H = true → lensOf (vs ++ l) H = lensOf vs H
  | [], _ => rfl
  | (_, .arr w e a n) :: r, ha => by
    simp only [arrsOk, Bool.and_eq_true] at ha
    simp only [lensOf]
    rw [tyA_ext h ha.1, lensOf_ext h l ha.2]
  | (_, .cells _) :: r, ha => by
    simp only [arrsOk] at ha
    simp only [lensOf]
    exact lensOf_ext h l ha
theorem lensAt_ok {θ : List At} {ids : List Nat} {cs : List (Nat × At × At × At)} (hg : σ.Good env) : ∀ {p : Nat} {H : List (Nat × SB)}, handB σ θ ids cs p H = true → (lensAt σ ids H).map (At.den env) = lensOf (θ.map (At.den env)) H
  | p, [], _ => rfl
  | p, (n, .cells ys) :: r, h => by
    simp only [handB, Bool.and_eq_true] at h
    simp only [lensAt, lensOf]
    exact lensAt_ok hg h.2
  | p, (n, .arr w' e' a' k') :: r, h => by
    simp only [handB, Bool.and_eq_true] at h
    obtain ⟨⟨h1, h2⟩, h3⟩ := h
    simp only [lensAt, lensOf, List.map_cons]
    rw [lensAt_ok hg h3]
    congr 1
    split at h2
    · cases h2
    · rename_i i hi
      split at h2
      · cases ‹SB.arr w' e' a' k' = SB.cells _›
      · rename_i w e a k w1 e1 a1 k1 hh heq
        cases heq
        simp only [Bool.and_eq_true] at h2
        have : ids.getD n 0 = i := by simp [List.getD, hi]
        rw [this, hh]
        simp only
        rw [(hg.A i w e a k hh).2, At.beq_eq h2.2, At.sub_den]
      · cases h2
theorem varsFrom_den : ∀ {n m : Nat} {ds : List D}, ds.length = n → (∀ (j : Nat) (d : D), ds[j]? = some d → (At.v (m + j)).den env = d) → (varsFrom m n).map (At.den env) = ds
  | 0, m, ds, h, _ => by
    have := List.eq_nil_of_length_eq_zero h
    subst this
    rfl
  | n + 1, m, d :: ds, h, hk => by
    simp only [varsFrom, List.map_cons]
    rw [show (At.v m).den env = d from hk 0 d rfl, varsFrom_den (by simpa using h) (fun j d' hj => by
      have := hk (j + 1) d' (by simpa using hj)
      rwa [← Nat.add_assoc, Nat.add_right_comm] at this)]
  | n + 1, m, [], h, _ => by simp at h
theorem lens_fact {θ : List At} {f : Nat → Nat} : ∀ {H : List (Nat × SB)} {m : Nat}, Facts Φ env m (lenNds (subH θ f H)) → (varsFrom m (lenNds (subH θ f H)).length).map (At.den env) = lensOf (θ.map (At.den env)) H
  | [], m, _ => rfl
  | (n, .cells xs) :: r, m, hf => by
    simp only [subH, SB.sub, lenNds, lensOf] at hf ⊢
    exact lens_fact hf
  | (n, .arr w e a k) :: r, m, hf => by
    simp only [subH, SB.sub, lenNds, lensOf, List.length_cons, varsFrom, List.map_cons] at hf ⊢
    obtain ⟨xs, h1, h2⟩ := fact_len hf.1
    rw [lens_fact hf.2, h2]
    rw [At.sub_den] at h1
    rw [h1]
    rfl
theorem hgetS_dels_none : ∀ {l : List Nat} {H : List (Nat × SB)} {j : Nat}, hgetS (hdelsS H l) j = none → j ∈ l ∨ hgetS H j = none
  | [], H, j, h => .inr h
  | i :: is, H, j, h => by
    rcases hgetS_dels_none (l := is) h with g | g
    · exact .inl (List.mem_cons_of_mem _ g)
    · by_cases e : j = i
      · exact .inl (by rw [e]; exact List.mem_cons_self)
      · rw [hgetS_del_ne e] at g
        exact .inr g
theorem hgetS_dels_some : ∀ {l : List Nat} {H : List (Nat × SB)} {j : Nat} {b : SB}, hgetS (hdelsS H l) j = some b → j ∉ l ∧ hgetS H j = some b
  | [], H, j, b, h => ⟨by simp, h⟩
  | i :: is, H, j, b, h => by
    obtain ⟨g1, g2⟩ := hgetS_dels_some (l := is) h
    by_cases e : j = i
    · subst e; rw [hgetS_del_self] at g2; cases g2
    · rw [hgetS_del_ne e] at g2
      exact ⟨by simp [e, g1], g2⟩
theorem hgetS_app_eq : ∀ {H K : List (Nat × SB)} {j : Nat}, hgetS (H ++ K) j = match hgetS H j with
    | some b => some b
    | none => hgetS K j
  | [], K, j => rfl
  | (k, c) :: r, K, j => by
    simp only [List.cons_append, hgetS]
    split
    · rfl
    · exact hgetS_app_eq
theorem oneOf_sub {θ : List At} {f : Nat → Nat} (l : List SV) : (oneOfS (SV.subs θ f l)).den env = (oneOf (SV.dens (θ.map (At.den env)) l)).ren (nf f) := by
  match l with
  | [] => rfl
  | [x] => simp only [SV.subs, oneOfS, SV.dens, oneOf]; exact SV.sub_den x
  | x :: y :: r =>
    simp only [SV.subs, oneOfS, SV.dens, oneOf, SV.den, AV.ren, AV.rens]
    rw [SV.sub_den, SV.sub_den, SV.subs_den]
theorem handB_get {θ : List At} {ids : List Nat} {cs : List (Nat × At × At × At)} : ∀ {p : Nat} {H : List (Nat × SB)}, handB σ θ ids cs p H = true → ∀ t pb, hgetS H t = some pb → t < p + H.length ∧ ∃ i c, ids[t]? = some i ∧ hgetS σ.H i = some c ∧ (match c, pb with
      | .cells xs, .cells ys => lndBs σ θ ids cs false xs ys
      | .arr w e a _, .arr w' e' a' _ => owB w w' && CK.beqs e e' && At.beq a (a'.sub θ)
      | _, _ => false) = true
  | p, [], _, t, pb, h => by cases h
  | p, (n, pb0) :: r, h, t, pb, ht => by
    simp only [handB, Bool.and_eq_true] at h
    obtain ⟨⟨h1, h2⟩, h3⟩ := h
    obtain rfl := Nat.eq_of_beq_eq_true h1
    simp only [hgetS] at ht
    split at ht
    · rename_i e
      obtain rfl := Nat.eq_of_beq_eq_true e
      cases ht
      refine ⟨by simp, ?_⟩
      split at h2
      · cases h2
      · rename_i i hi
        cases hh : hgetS σ.H i with
        | none => rw [hh] at h2; cases pb0 <;> cases h2
        | some b =>
          rw [hh] at h2
          refine ⟨i, b, hi, hh, ?_⟩
          cases b <;> cases pb0 <;> exact h2
    · obtain ⟨g1, g2⟩ := handB_get h3 t pb ht
      exact ⟨by simp only [List.length_cons]; omega, g2⟩
theorem blkZ_at {h : Nat → Bool} (i t q : Nat) : ∀ (e : List CK) (ds : List D) (p : Nat), hget (blkZ t h p e ds) (t, q) = hget (blkZ i h p e ds) (i, q)
  | [], ds, p => by simp [blkZ, hget]
  | k :: ks, [], p => by simp [blkZ, hget]
  | k :: ks, d :: ds, p => by
    have ih := blkZ_at i t q ks ds (p + 1) (h := h)
    cases k with
    | sl e =>
      cases d with
      | l xs =>
        simp only [blkZ, hget_app]
        rw [ih]
        by_cases hp : h p = true
        · rw [if_pos hp, if_pos hp]; rfl
        · rw [if_neg hp, if_neg hp]
          simp only [hget, nbeq, Nat.beq_refl, Bool.true_and]
      | _ => simpa only [blkZ, List.nil_append] using ih
    | _ => simpa only [blkZ, List.nil_append] using ih
theorem blkR_at {h : Nat → Bool} {e : List CK} (i t q : Nat) : ∀ (xs : List D) (p : Nat), hget (blkR t h e p xs) (t, q) = hget (blkR i h e p xs) (i, q)
  | [], p => by simp [blkR, hget]
  | d :: ds, p => by
    simp only [blkR, hget_app]
    rw [blkR_at i t q ds, blkZ_at i t q]
theorem famZ_hand {H : Hp} {ids : Nm → Option Nm} {ok : Nm → Bool} {b : Bool} {i t : Nat} : ∀ {e : List CK} {ds : List D} {p : Nat}, okZ e ds = true → (∀ q cs, hget (blkZ t (fun _ => false) p e ds) (t, q) = some cs → ids (t, q) = some (i, q)) → Lnds H ids ok b (famZ i p e ds) (famZ t p e ds)
  | [], ds, p, _, _ => by simp only [famZ]; exact .nil
  | _ :: _, [], p, h, _ => by simp [okZ] at h
  | k :: ks, d :: ds, p, h, hH => by
    simp only [okZ, Bool.and_eq_true] at h
    simp only [famZ]
    refine .cons ?_ (famZ_hand h.2 (fun q cs hj => hH q cs ?_))
    · cases k with
      | sl e' =>
        obtain ⟨xs, rfl, _⟩ := okC_sl h.1
        simp only [encF]
        exact .slN (hH (p + 1) (encR e' xs) (by simp [blkZ, hget]))
      | int k => exact encC_lnd _ _
      | bool => exact encC_lnd _ _
      | str => exact encC_lnd _ _
    · simp only [blkZ, hget_app]
      split
      · rename_i cs' g1
        exfalso
        have h1 : ((t, q) : Nm) = (t, p + 1) := by
          split at g1
          · simp only [Bool.false_eq_true, if_false, hget] at g1
            split at g1
            · rename_i e'; exact (nbeq_eq e').symm
            · cases g1
          · cases g1
        have h2 := blkZ_name hj
        have := congrArg Prod.snd h1
        simp only at this h2
        omega
      · exact hj
theorem famR_hand {H : Hp} {ids : Nm → Option Nm} {ok : Nm → Bool} {b : Bool} {i t : Nat} {e : List CK} : ∀ {xs : List D} {p : Nat}, (∀ x ∈ xs, okE e x = true) → (∀ q cs, hget (blkR t (fun _ => false) e p xs) (t, q) = some cs → ids (t, q) = some (i, q)) → Lnds H ids ok b (famR i e p xs) (famR t e p xs)
  | [], p, _, _ => by simp only [famR]; exact .nil
  | d :: ds, p, h, hH => by
    simp only [famR]
    refine lnds_app (famZ_hand (h d List.mem_cons_self) (fun q cs hj => hH q cs ?_)) (famR_hand (fun x hx => h x (List.mem_cons_of_mem _ hx)) (fun q cs hj => hH q cs ?_))
    · simp only [blkR, hget_app]
      rw [hj]
    · simp only [blkR, hget_app]
      split
      · rename_i g1
        exfalso
        have h1 := blkZ_name g1
        have h2 := blkR_name hj
        omega
      · exact hj
theorem hand_ok {θ : List At} {ids : List Nat} {cs : List (Nat × At × At × At)} (hg : σ.Good env) (hc : CutOk σ env cs) (hal : aliveS σ ids = true) {p : Nat} {H : List (Nat × SB)} (h : handB σ θ ids cs p H = true) : ∀ n ds, hget (denH (θ.map (At.den env)) H) n = some ds → n.1 < p + H.length ∧ ∃ i ds', idsA (denH env σ.H) ids n = some i ∧ hget (denH env σ.H) i = some ds' ∧ Lnds (denH env σ.H) (idsA (denH env σ.H) ids) (okI ids) false ds' ds := by
  intro n ds hn
  obtain ⟨t, q⟩ := n
  have key : ∀ (w' : Ow) (e' : List CK) (a' k' : At), hgetS H t = some (.arr w' e' a' k') → w' = .ow none → ∃ i a k xs, ids[t]? = some i ∧ hgetS σ.H i = some (.arr (.ow none) e' a k) ∧ a.den env = .l xs ∧ (∀ x ∈ xs, okE e' x = true) ∧ a'.den (θ.map (At.den env)) = .l xs := fun w' e' a' k' hb hw => by
    obtain ⟨_, i, c, g1, g2, g3⟩ := handB_get h t _ hb
    subst hw
    cases c with
    | cells xs => cases g3
    | arr w e a k =>
      simp only [Bool.and_eq_true] at g3
      obtain ⟨⟨g4, g5⟩, g6⟩ := g3
      obtain rfl := CK.beqs_eq g5
      cases w with
      | pl => cases g4
      | ow h0 =>
        cases h0 with
        | some q => cases g4
        | none =>
          obtain ⟨xs, e1, e2⟩ := okC_sl (hg.A i _ e a k g2).1
          exact ⟨i, a, k, xs, g1, g2, e1, e2, by rw [← At.sub_den, ← At.beq_eq g6]; exact e1⟩
  have blk : ∀ (i : Nat) (e' : List CK) (a k : At) (xs : List D), ids[t]? = some i → hgetS σ.H i = some (.arr (.ow none) e' a k) → a.den env = .l xs → ∀ q cs, hget (blkR t (fun _ => false) e' 0 xs) (t, q) = some cs → idsA (denH env σ.H) ids (t, q) = some (i, q) ∧ hget (denH env σ.H) (i, q) = some cs := fun i e' a k xs g1 g2 g3 q cs hq => by
    have h1 := blkR_name hq
    cases q with
    | zero => simp at h1
    | succ q =>
      rw [blkR_at i t] at hq
      have : hget (denH env σ.H) (i, q + 1) = some cs := by
        rw [hget_denH1, g2]
        simp only [Option.bind_some, SB.more, g3, D.items]
        exact hq
      refine ⟨?_, this⟩
      simp only [idsA, g1]
      rw [this]
      rfl
  cases q with
  | zero =>
    rw [hget_denH] at hn
    obtain ⟨pb, hb, rfl⟩ := Option.map_eq_some_iff.1 hn
    obtain ⟨g0, i, c, g1, g2, g3⟩ := handB_get h t pb hb
    refine ⟨g0, (i, 0), _, idsA_of hal g1, by rw [hget_denH, g2]; rfl, ?_⟩
    cases pb with
    | cells ys =>
      cases c with
      | arr w e a k => cases g3
      | cells xs => exact lndBs_ok hg hc hal (hg.C i xs g2) g3
    | arr w' e' a' k' =>
      cases c with
      | cells xs => cases g3
      | arr w e a k =>
        simp only [Bool.and_eq_true] at g3
        obtain ⟨⟨g4, g5⟩, g6⟩ := g3
        obtain rfl := CK.beqs_eq g5
        cases w with
        | pl =>
          cases w' with
          | ow h0 => cases g4
          | pl =>
            simp only [SB.den]
            rw [At.beq_eq g6, At.sub_den]
            exact encR_lnd _ _
        | ow h0 =>
          cases h0 with
          | some q => cases w' <;> cases g4
          | none =>
            cases w' with
            | pl => cases g4
            | ow h1 =>
              cases h1 with
              | some q => cases g4
              | none =>
                obtain ⟨i', a1, k1, xs, q1, q2, q3, q4, q5⟩ := key _ _ _ _ hb rfl
                rw [g1] at q1
                cases q1
                rw [g2] at q2
                cases q2
                simp only [SB.den, q3, q5, D.items]
                exact famR_hand q4 (fun q cs hq => (blk i e a k xs g1 g2 q3 q cs hq).1)
  | succ q =>
    rw [hget_denH1] at hn
    obtain ⟨pb, hb, hm⟩ := Option.bind_eq_some_iff.1 hn
    obtain ⟨g0, i, c, g1, g2, g3⟩ := handB_get h t pb hb
    refine ⟨g0, ?_⟩
    cases pb with
    | cells ys => cases hm
    | arr w' e' a' k' =>
      cases w' with
      | pl => cases hm
      | ow h0 =>
        have hw : (Ow.ow h0) = .ow none := by
          cases c with
          | cells xs => cases g3
          | arr w e a k =>
            simp only [Bool.and_eq_true] at g3
            cases h0 with
            | none => rfl
            | some q =>
              have := g3.1.1
              cases w with
              | pl => cases this
              | ow h1 => cases h1 <;> cases this
        cases hw
        obtain ⟨i', a1, k1, xs, q1, q2, q3, q4, q5⟩ := key _ _ _ _ hb rfl
        simp only [SB.more, q5, D.items] at hm
        obtain ⟨r1, r2⟩ := blk i' e' a1 k1 xs q1 q2 q3 (q + 1) ds hm
        obtain ⟨e2, ys, rfl⟩ := blkR_val hm
        exact ⟨_, _, r1, r2, encR_lnd _ _⟩
theorem lensIx_ok : ∀ {j : Nat} {H : List (Nat × SB)} {e1 : List D} {l : List D}, lensIx j H = true → (∀ (k : Nat) (d : D), (lensOf e1 H)[k]? = some d → (At.v (j + k)).den l = d) → ∀ i w e a n, hgetS H i = some (.arr w e a n) → n.den l = .i (a.den e1).items.length
  | j, [], e1, l, _, _, i, w, e, a, n, h => by cases h
  | j, (q, .cells xs) :: r, e1, l, hx, hk, i, w, e, a, n, h => by
    simp only [hgetS] at h
    split at h
    · cases h
    · exact lensIx_ok (by simpa only [lensIx] using hx) (by simpa only [lensOf] using hk) i w e a n h
  | j, (q, .arr w' e' a' n') :: r, e1, l, hx, hk, i, w, e, a, n, h => by
    simp only [lensIx, Bool.and_eq_true] at hx
    simp only [hgetS] at h
    split at h
    · cases h
      rw [At.beq_eq hx.1]
      exact hk 0 _ rfl
    · refine lensIx_ok hx.2 (fun k d hd => ?_) i w e a n h
      have := hk (k + 1) d (by simpa only [lensOf, List.getElem?_cons_succ] using hd)
      rwa [← Nat.add_assoc, Nat.add_right_comm] at this
theorem arrsOk_get {G : List CK} : ∀ {H : List (Nat × SB)}, arrsOk G H = true → ∀ i w e a n, hgetS H i = some (.arr w e a n) → tyA G a (.sl e) = true
  | [], _, i, w, e, a, n, h => by cases h
  | (q, .cells xs) :: r, hx, i, w, e, a, n, h => by
    simp only [hgetS] at h
    split at h
    · cases h
    · exact arrsOk_get (by simpa only [arrsOk] using hx) i w e a n h
  | (q, .arr w' e' a' n') :: r, hx, i, w, e, a, n, h => by
    simp only [arrsOk, Bool.and_eq_true] at hx
    simp only [hgetS] at h
    split at h
    · cases h; exact hx.1
    · exact arrsOk_get hx.2 i w e a n h
theorem hgetS_app : ∀ {H K : List (Nat × SB)} {j : Nat} {b : SB}, hgetS (H ++ K) j = some b → hgetS H j = some b ∨ hgetS K j = some b
  | [], K, j, b, h => .inr h
  | (k, c) :: r, K, j, b, h => by
    simp only [List.cons_append, hgetS] at h ⊢
    split at h
    · rename_i e; rw [if_pos e]; exact .inl h
    · rename_i e; rw [if_neg e]; exact hgetS_app h
theorem hgetS_dels : ∀ {l : List Nat} {H : List (Nat × SB)} {j : Nat} {b : SB}, hgetS (hdelsS H l) j = some b → hgetS H j = some b
  | [], H, j, b, h => h
  | i :: is, H, j, b, h => hgetS_del (hgetS_dels (l := is) h)
theorem hgetS_subH {θ : List At} {f : Nat → Nat} : ∀ {H : List (Nat × SB)} {j : Nat} {b : SB}, hgetS (subH θ f H) j = some b → ∃ n c, f n = j ∧ hgetS H n = some c ∧ b = c.sub θ f
  | [], j, b, h => by cases h
  | (k, c) :: r, j, b, h => by
    simp only [subH, hgetS] at h
    split at h
    · rename_i e
      exact ⟨k, c, Nat.eq_of_beq_eq_true e, by simp [hgetS], (Option.some.inj h).symm⟩
    · rename_i e
      obtain ⟨n, d, h0, h1, h2⟩ := hgetS_subH h
      refine ⟨n, d, h0, ?_, h2⟩
      have hne : ¬ (Nat.beq k n = true) := fun g => e (by rw [Nat.eq_of_beq_eq_true g, h0]; simp)
      simp only [hgetS, if_neg hne]
      exact h1
theorem idsA_spec {ids : List Nat} {H : Hp} {n i : Nm} (h : idsA H ids n = some i) : (∃ j, ids[n.1]? = some j ∧ i = (j, n.2)) ∧ True ∧ (hget H i).isSome = true := by
  unfold idsA at h
  split at h
  · rename_i j e
    split at h
    · rename_i e2
      obtain rfl := Option.some.inj h
      exact ⟨⟨j, e, rfl⟩, trivial, e2⟩
    · cases h
  · cases h
theorem ltAll_spec : ∀ {ids : List Nat} {nx : Nat}, ltAll ids nx = true → ∀ i ∈ ids, i < nx
  | [], _, _, i, h => by cases h
  | j :: r, nx, h, i, hi => by
    simp only [ltAll, Bool.and_eq_true] at h
    rcases List.mem_cons.1 hi with rfl | hi
    · exact Nat.le_of_ble_eq_true h.1
    · exact ltAll_spec h.2 i hi
theorem nmdS_inj {ids : List Nat} {nx : Nat} (h : ltAll ids nx = true) (hd : nodupN ids = true) : ∀ a b, nmdS ids nx a = nmdS ids nx b → a = b := by
  intro a b hab
  simp only [nmdS] at hab
  cases ha : ids[a]? with
  | some x =>
    have hx := ltAll_spec h x (List.mem_of_getElem? ha)
    cases hb : ids[b]? with
    | some y =>
      rw [ha, hb] at hab
      simp only [Option.getD_some] at hab
      subst hab
      exact nodupN_spec hd a b x ha hb
    | none =>
      rw [ha, hb] at hab
      simp only [Option.getD_some, Option.getD_none] at hab
      omega
  | none =>
    have h1 := List.getElem?_eq_none_iff.1 ha
    cases hb : ids[b]? with
    | some y =>
      have hy := ltAll_spec h y (List.mem_of_getElem? hb)
      rw [ha, hb] at hab
      simp only [Option.getD_some, Option.getD_none] at hab
      omega
    | none =>
      have h2 := List.getElem?_eq_none_iff.1 hb
      rw [ha, hb] at hab
      simp only [Option.getD_none] at hab
      omega
theorem hget_renH_inj {g : Nm → Nm} (hi : ∀ a b, g a = g b → a = b) : ∀ {H : Hp} {n : Nm}, hget (renH g H) (g n) = (hget H n).map (AV.rens g)
  | [], n => rfl
  | (k, cs) :: r, n => by
    simp only [renH, hget]
    by_cases e : k = n
    · subst e; simp
    · rw [beq_ne e, beq_ne (fun q => e (hi _ _ q))]
      simp only [Bool.false_eq_true, if_false]
      exact hget_renH_inj hi
theorem denH_subH {θ : List At} {f : Nat → Nat} {H : List (Nat × SB)} {j : Nm} {cs : List AV} (h : hget (denH env (subH θ f H)) j = some cs) : ∃ n ds, nf f n = j ∧ hget (denH (θ.map (At.den env)) H) n = some ds ∧ cs = AV.rens (nf f) ds := by
  obtain ⟨t, q⟩ := j
  cases q with
  | zero =>
    rw [hget_denH] at h
    obtain ⟨b, hb, rfl⟩ := Option.map_eq_some_iff.1 h
    obtain ⟨n, c, rfl, h1, rfl⟩ := hgetS_subH hb
    exact ⟨(n, 0), _, rfl, by rw [hget_denH, h1]; rfl, SB.sub_den c⟩
  | succ q =>
    rw [hget_denH1] at h
    obtain ⟨b, hb, hm⟩ := Option.bind_eq_some_iff.1 h
    obtain ⟨n, c, rfl, h1, rfl⟩ := hgetS_subH hb
    rw [SB.sub_more] at hm
    obtain ⟨m, ds, g1, g2, g3⟩ := hget_renH hm
    obtain ⟨k1, k2⟩ := more_name g2
    obtain ⟨m1, m2⟩ := m
    obtain rfl : m1 = n := k1
    have : m2 = q + 1 := congrArg Prod.snd g1
    subst this
    exact ⟨_, ds, g1, by rw [hget_denH1, h1]; exact g2, g3⟩
theorem le_call {θ : List At} {ids : List Nat} {nx : Nat} {K : List (Nat × SB)} {H' : Hp} (hi : ∀ a b, nmdS ids nx a = nmdS ids nx b → a = b) (hle : Le (denH (θ.map (At.den env)) K) H') : Le (denH env (hdelsS σ.H ids ++ subH θ (nmdS ids nx) K)) (hrem (fun n => memN n.1 ids) (denH env σ.H) ++ renH (nf (nmdS ids nx)) H') := by
  intro j cs hj
  have hin : ∀ a b, nf (nmdS ids nx) a = nf (nmdS ids nx) b → a = b := fun a b h => Prod.ext (hi _ _ (show (nf (nmdS ids nx) a).1 = (nf (nmdS ids nx) b).1 by rw [h])) (show (nf (nmdS ids nx) a).2 = (nf (nmdS ids nx) b).2 by rw [h])
  have old : ∀ b, hgetS (hdelsS σ.H ids) j.1 = some b → hget (denH env σ.H) j = some cs → hget (hrem (fun n => memN n.1 ids) (denH env σ.H) ++ renH (nf (nmdS ids nx)) H') j = some cs := fun b hb hc => by
    obtain ⟨g1, g2⟩ := hgetS_dels_some hb
    rw [hget_app, hget_hrem, if_neg (fun e => g1 (memN_iff.1 e)), hc]
  have new : hgetS (hdelsS σ.H ids) j.1 = none → hget (denH env (subH θ (nmdS ids nx) K)) j = some cs → hget (hrem (fun n => memN n.1 ids) (denH env σ.H) ++ renH (nf (nmdS ids nx)) H') j = some cs := fun hb hc => by
    have h0 : hget (hrem (fun n => memN n.1 ids) (denH env σ.H)) j = none := by
      rw [hget_hrem]
      rcases hgetS_dels_none hb with g | g
      · rw [if_pos (memN_iff.2 g)]
      · split
        · rfl
        · obtain ⟨t, q⟩ := j
          cases q with
          | zero => rw [hget_denH, g]; rfl
          | succ q => rw [hget_denH1, g]; rfl
    obtain ⟨n, ds, g1, g2, g3⟩ := denH_subH hc
    rw [hget_app, h0]
    simp only
    rw [← g1, hget_renH_inj hin, hle n ds g2, g3]
    rfl
  obtain ⟨t, q⟩ := j
  cases q with
  | zero =>
    rw [hget_denH, hgetS_app_eq] at hj
    cases hb : hgetS (hdelsS σ.H ids) t with
    | some b =>
      rw [hb] at hj
      exact old b hb (by rw [hget_denH, (hgetS_dels_some hb).2]; exact hj)
    | none =>
      rw [hb] at hj
      exact new hb (by rw [hget_denH]; exact hj)
  | succ q =>
    rw [hget_denH1, hgetS_app_eq] at hj
    cases hb : hgetS (hdelsS σ.H ids) t with
    | some b =>
      rw [hb] at hj
      exact old b hb (by rw [hget_denH1, (hgetS_dels_some hb).2]; exact hj)
    | none =>
      rw [hb] at hj
      exact new hb (by rw [hget_denH1]; exact hj)
/-- .. and every block keeps its place. -/
def EffP (P : Program) (E : En) (ks : List Nat) (o : Oper) (σ : SS) (env : List D) (v : SV) (σ' : SS) : Prop :=
  OXp P E (kpOf ks) o (σ.den env) (fun r τ => r = v.den env ∧ LeS (σ'.den env) τ) ∧ SInv env σ'
theorem EffP.r {σ' : SS} (h : EffP P E ks o σ env v σ') : EffR P E ks o σ env v σ' := ⟨h.1.ox, h.2⟩
theorem sCallW_ok {e : Nat} {s : Sig} {x : Operand} {args : List Operand} {tys : Array TypeId} {f : Nat} {caps : List SV} {σ' : SS} (hg : σ.Good env) (hS : SigOk P Φ e s) (ho : o.op = .call ⟨.value x, args.toArray, tys⟩) (hx : σ.ev x = .fn f caps) (hf : s.fid = f) (h : sCallW ks σ m e s (evS σ args ++ caps) = some (nds, v, σ')) (hfa : Facts Φ env m nds) : EffP P E ks o σ env v σ' := by
  unfold sCallW at h
  generalize hA : evS σ args ++ caps = A at h
  generalize hcn : cutN σ m (cutLs σ A) = q at h
  obtain ⟨n1, cs⟩ := q
  simp only at h
  generalize hacc : bindH σ cs s.H (bindVs σ cs A s.args ([], [])) = acc at h
  generalize hvals : (List.range s.ps.length).map (lookA acc.1) = vals at h
  generalize hids : (List.range s.H.length).map (lookN acc.2) = ids at h
  split at h
  · rename_i hb
    simp only [Bool.and_eq_true] at hb
    obtain ⟨⟨⟨⟨⟨⟨⟨b1, b2⟩, b3⟩, b4⟩, b5⟩, b6⟩, b7⟩, b8⟩ := hb
    simp only [Sig.wf, Bool.and_eq_true] at b7
    obtain ⟨⟨w1, w2⟩, w3⟩ := b7
    simp only [Option.some.injEq, Prod.mk.injEq] at h
    obtain ⟨hnds, hv, hσ⟩ := h
    subst hnds
    have hpr : ∀ x ∈ n1, ∃ p xs, x = Nd.pr p xs := by
      have := cutN_pr (σ := σ) (cutLs σ A) m
      rw [hcn] at this
      exact this
    obtain ⟨hf1, hf2⟩ := facts_app hpr hfa
    have hcut : CutOk σ env cs := by
      have := cutN_ok (Φ := Φ) (env := env) (σ := σ) (L := cutLs σ A) (m := m) (by rw [hcn]; exact hf1)
      rw [hcn] at this
      exact this
    obtain ⟨⟨hps, rsv, hcall, hrs, hrv⟩, hf3⟩ := hf2
    have hgA : SV.goods env A = true := by
      rw [← hA, goods_iff]
      intro y hy
      rcases List.mem_append.1 hy with g | g
      · have : ∀ l : List Operand, ∀ y ∈ evS σ l, y.good env = true := by
          intro l
          induction l with
          | nil => intro y hy; cases hy
          | cons z r ih =>
            intro y hy
            rcases List.mem_cons.1 hy with rfl | hy
            · exact ev_good hg z
            · exact ih y hy
        exact this args y g
      · have := ev_good hg x
        rw [hx] at this
        exact goods_iff.1 (show SV.goods env caps = true from this) y g
    have hA' : (vals ++ lensAt σ ids s.H).map (At.den env) = envA s (vals.map (At.den env)) := by
      have h1 := lensAt_ok (env := env) hg b2
      rw [List.map_append] at h1 ⊢
      rw [envA]
      congr 1
      rw [h1, lensOf_ext hps _ w1]
    obtain ⟨hk, hsig⟩ := hS
    obtain ⟨_, hft⟩ := hsig _ _ hps hcall
    rw [← hA'] at hft
    obtain ⟨fn, cc, k1, k2, k3⟩ := knownB_spec hk
    have hlen : ids.length = s.H.length := by rw [← hids]; simp
    have hhand := hand_ok (env := env) hg hcut b4 b2
    have hx' := SS.ev_den env σ x
    rw [hx, SV.den] at hx'
    have hrsl := okZ_length hrs
    generalize hm1 : m + n1.length = m1 at *
    have hθ1 : (vals ++ varsFrom m1 s.rs.length).map (At.den env) = vals.map (At.den env) ++ rsv := by
      rw [List.map_append, varsFrom_den hrsl hrv]
    have hlens := lens_fact (θ := vals ++ varsFrom m1 s.rs.length) (f := nmdS ids σ.nx) hf3
    rw [hθ1] at hlens
    have hθ2 : ((vals ++ varsFrom m1 s.rs.length) ++ varsFrom (m1 + s.rs.length) (lenNds (subH (vals ++ varsFrom m1 s.rs.length) (nmdS ids σ.nx) s.H')).length).map (At.den env) = envR s (vals.map (At.den env)) rsv := by
      rw [List.map_append, hθ1, hlens]
      rfl
    refine ⟨?_, ?_⟩
    · refine OXp.call (P := P) (E := E) (σ := σ.den env) (kp := kpOf ks) (ids := idsA (denH env σ.H) ids) (cl := ids.length) (g := nf (nmdS ids σ.nx)) (dl := fun n => memN n.1 ids) (ok := okI ids) ho hx' (by rw [← hf]; exact k1) k2 k3 (by rw [hlen, ← hf]; exact hft) ?_ (fun n ds hn => (hhand n ds hn).2) (fun n ds hn => by rw [hlen]; have := (hhand n ds hn).1; omega) ?_ ?_ ?_ ?_ ?_ ?_ ?_ ?_ ?_
      · have := lndBs_ok hg hcut b4 hgA b1
        rw [← hA] at this
        rw [← evS_den]
        rw [dens_map, List.map_append, ← dens_map, ← dens_map] at this
        exact this
      · intro n i hn
        exact (idsA_spec hn).2.2
      · intro n i hn
        obtain ⟨j, g1, _⟩ := (idsA_spec hn).1
        rcases Nat.lt_or_ge n.1 ids.length with q | q
        · exact q
        · rw [List.getElem?_eq_none q] at g1; cases g1
      · intro n i hn
        obtain ⟨j, g1, g2⟩ := (idsA_spec hn).1
        rw [g2]
        exact memN_iff.2 (List.mem_of_getElem? g1)
      · intro n n' i hn hn'
        obtain ⟨j, g1, g2⟩ := (idsA_spec hn).1
        obtain ⟨j', g1', g2'⟩ := (idsA_spec hn').1
        rw [g2] at g2'
        have q1 := congrArg Prod.fst g2'
        have q2 := congrArg Prod.snd g2'
        simp only at q1 q2
        rw [q1] at g1
        exact Prod.ext (nodupN_spec b3 _ _ _ g1 g1') q2
      · intro i n hi hn
        obtain ⟨j, g1, g2⟩ := (idsA_spec hn).1
        subst g2
        simp only [okI, Bool.not_eq_true'] at hi
        rw [memN_iff.2 (List.mem_of_getElem? g1)] at hi
        cases hi
      · intro n i hn
        obtain ⟨j, g1, g2⟩ := (idsA_spec hn).1
        rw [g2]
        simp only [nf, nmdS, g1, Option.getD_some]
      · intro n hn
        simp only [nf, nmdS, List.getElem?_eq_none hn, Option.getD_none]
        rfl
      · intro j hj
        refine ⟨alive_ok b5 j hj, fun n hn => ?_⟩
        obtain ⟨j', g1, g2⟩ := (idsA_spec hn).1
        have q1 := congrArg Prod.fst g2
        simp only at q1
        rw [q1] at hj
        exact disjN_spec b6 j' (memN_iff.1 hj) (List.mem_of_getElem? g1)
      · rintro r H' nx' ⟨rfl, hle, rfl⟩ _
        rw [← hv, ← hσ]
        refine ⟨?_, ⟨rfl, ?_, ?_⟩⟩
        · rw [oneOf_sub, hθ2]
        · rfl
        · rw [← hθ2] at hle
          exact le_call (nmdS_inj b8 b3) hle
    · rw [← hσ]
      intro i w' e' a n hh
      rcases hgetS_app hh with hh | hh
      · exact (hg.A i w' e' a n (hgetS_dels hh)).2
      · obtain ⟨q, c, _, hc, hsub⟩ := hgetS_subH hh
        cases c with
        | cells xs => cases hsub
        | arr w2' e2 a2 n2 =>
          cases hsub
          rw [At.sub_den, At.sub_den, hθ2]
          have hok : okZ (s.ps ++ s.rs) (vals.map (At.den env) ++ rsv) = true := okZ_app hps hrs
          have h1 := lensIx_ok (l := envR s (vals.map (At.den env)) rsv) w3 (fun k d hd => by
            simp only [At.den, envR]
            have e1 : (vals.map (At.den env) ++ rsv).length = s.ps.length + s.rs.length := by
              rw [← okZ_len hok, List.length_append]
            rw [List.getElem?_append_right (by omega), show s.ps.length + s.rs.length + k - (vals.map (At.den env) ++ rsv).length = k by omega, hd]
            rfl) q _ _ a2 n2 hc
          rw [h1, envR, tyA_ext hok (arrsOk_get w2 q _ _ a2 n2 hc)]
  · cases h
theorem sCallF_ok {x : Operand} {args : List Operand} {tys : Array TypeId} {f : Nat} {caps : List SV} {σ' : SS} (hg : σ.Good env) (ho : o.op = .call ⟨.value x, args.toArray, tys⟩) (hx : σ.ev x = .fn f caps) : ∀ {sigs : List Sig} {e : Nat}, (∀ j s, sigs[j]? = some s → SigOk P Φ (e + j) s) → sCallF ks σ m f (evS σ args ++ caps) e sigs = some (nds, v, σ') → Facts Φ env m nds → EffP P E ks o σ env v σ'
  | [], e, _, h, _ => by cases h
  | s :: r, e, hS, h, hf => by
    simp only [sCallF] at h
    have hS' : ∀ (j : Nat) (s' : Sig), r[j]? = some s' → SigOk P Φ (e + 1 + j) s' := fun j s' hj => by
      have := hS (j + 1) s' (by simpa using hj)
      rwa [show e + (j + 1) = e + 1 + j by omega] at this
    split at h
    · rename_i hid
      split at h
      · rename_i y hy
        cases h
        exact sCallW_ok hg (hS 0 s rfl) ho hx (Nat.eq_of_beq_eq_true hid) hy hf
      · exact sCallF_ok hg ho hx hS' h hf
    · exact sCallF_ok hg ho hx hS' h hf
end
end Go.BH

/- Rows that come to own their slices: make, append, store, in letters. -/
set_option linter.unusedVariables false
set_option linter.unusedSimpArgs false
namespace Go.BH
open Go.RowKit
/-- Where a cell of a row comes from: its datum, and the block that is a slice's. -/
def ownC (σ : SS) (k : CK) (x : SV) : Option (At × Option Nat) :=
  match k with
  | .sl e' => (match x with
    | .nilS => some (.k (.l []), none)
    | .e0 => some (.k (.l []), none)
    | .sl V lo n s => if (isZ lo && whole σ V n && Nat.beq s e'.length) = true then (match hgetS σ.H V with
      | some (.arr .pl e2 b _) => if CK.beqs e2 e' = true then some (b, some V) else none
      | _ => none) else none
    | _ => none)
  | k => (match x with
    | .dat k' a => if CK.beq k' k = true then some (a, none) else none
    | _ => none)
def ownZ (σ : SS) : List CK → List SV → Option (List At × List (Option Nat))
  | [], [] => some ([], [])
  | k :: ks, x :: xs => (match ownC σ k x with
    | some (a, o) => (match ownZ σ ks xs with
      | some (as, os) => some (a :: as, o :: os)
      | none => none)
    | none => none)
  | _, _ => none
def someN : List (Option Nat) → List Nat
  | [] => []
  | some i :: r => i :: someN r
  | none :: r => someN r
def onm (o : Option Nat) : Option Nm := o.map fun V => (V, 0)
section
variable {P : Program} {E : En} {σ : SS} {o : Oper} {ks : List Nat} {tab : TyTab} {env : List D} {m : Nat} {nds : List Nd} {v : SV} {Φ : Fns}
theorem OCell.mono {H K : Hp} {og : Option Nm} {k : CK} {d : D} {x : AV} (h : OCell H og k d x) (hK : ∀ j cs, og = some j → hget H j = some cs → hget K j = some cs) : OCell K og k d x := by
  unfold OCell at h ⊢
  split
  · rcases h with ⟨q, h1, h2, h3⟩ | h
    · exact .inl ⟨q, h1, h2, hK q _ h1 h3⟩
    · exact .inr h
  · rename_i hne
    split at h
    · exact absurd rfl (hne _ _ rfl)
    · exact h
theorem ownC_ok (hg : σ.Good env) {k : CK} {x : SV} {a : At} {q : Option Nat} (h : ownC σ k x = some (a, q)) : OCell (denH env σ.H) (onm q) k (a.den env) (x.den env) := by
  unfold ownC at h
  split at h
  · rename_i e'
    split at h
    · cases h; exact .inr ⟨rfl, rfl, .inl rfl⟩
    · cases h; exact .inr ⟨rfl, rfl, .inr rfl⟩
    · rename_i V lo n s
      split at h
      · rename_i hb
        simp only [Bool.and_eq_true] at hb
        obtain ⟨⟨b1, b2⟩, b3⟩ := hb
        obtain rfl := Nat.eq_of_beq_eq_true b3
        split at h
        · rename_i e2 b k' hh
          split at h
          · rename_i he
            cases h
            obtain rfl := CK.beqs_eq he
            obtain ⟨ow1, e1, a1, n1, w1, w2⟩ := whole_inv hg b2
            rw [hh] at w1
            cases w1
            obtain ⟨ls, e1, _⟩ := okC_sl (hg.A V _ e2 a k' hh).1
            rw [e1] at w2 ⊢
            refine .inl ⟨(V, 0), rfl, ?_, ?_⟩
            · simp only [SV.den, isZ_den b1, w2, D.nat, D.int, D.items, Int.toNat_zero, Nat.zero_mul, Int.toNat_natCast]
            · rw [hget_denH, hh]
              simp [SB.den, e1, D.items]
          · cases h
        · cases h
      · cases h
    · cases h
  · rename_i hk
    split at h
    · rename_i k' a'
      split at h
      · rename_i he
        cases h
        obtain rfl := CK.beq_eq he
        unfold OCell
        split
        · rename_i e _
          exact absurd rfl (hk _)
        · rfl
      · cases h
    · cases h
theorem ownZ_ok (hg : σ.Good env) : ∀ {e : List CK} {xs : List SV} {as : List At} {os : List (Option Nat)}, ownZ σ e xs = some (as, os) → as.length = e.length ∧ os.length = e.length ∧ xs.length = e.length ∧ ∀ (c : Nat) (k : CK), e[c]? = some k → ∃ (x : SV) (a : At) (q : Option Nat), xs[c]? = some x ∧ as[c]? = some a ∧ os[c]? = some q ∧ OCell (denH env σ.H) (onm q) k (a.den env) (x.den env)
  | [], [], as, os, h => by
    simp only [ownZ, Option.some.injEq, Prod.mk.injEq] at h
    obtain ⟨rfl, rfl⟩ := h
    exact ⟨rfl, rfl, rfl, fun c k hk => by simp at hk⟩
  | [], _ :: _, as, os, h => by simp [ownZ] at h
  | _ :: _, [], as, os, h => by simp [ownZ] at h
  | k :: ks, x :: xs, as, os, h => by
    simp only [ownZ] at h
    split at h
    · rename_i a q hq
      split at h
      · rename_i as' os' hr
        cases h
        obtain ⟨h1, h2, h3, h4⟩ := ownZ_ok hg hr
        refine ⟨by simp [h1], by simp [h2], by simp [h3], fun c k' hk => ?_⟩
        cases c with
        | zero => simp at hk; subst hk; exact ⟨x, a, q, rfl, rfl, rfl, ownC_ok hg hq⟩
        | succ c => simpa using h4 c k' (by simpa using hk)
      · cases h
    · cases h
theorem someN_mem : ∀ {os : List (Option Nat)} {c V : Nat}, os[c]? = some (some V) → V ∈ someN os
  | [], c, V, h => by simp at h
  | some i :: r, 0, V, h => by simp at h; subst h; simp [someN]
  | none :: r, 0, V, h => by simp at h
  | some i :: r, c + 1, V, h => by simp only [someN]; exact List.mem_cons_of_mem _ (someN_mem (by simpa using h))
  | none :: r, c + 1, V, h => by simp only [someN]; exact someN_mem (by simpa using h)
theorem someN_inj : ∀ {os : List (Option Nat)} {c c' V : Nat}, nodupN (someN os) = true → os[c]? = some (some V) → os[c']? = some (some V) → c = c'
  | [], c, c', V, _, h, _ => by simp at h
  | x :: r, 0, 0, V, _, _, _ => rfl
  | x :: r, 0, c' + 1, V, hd, h, h' => by
    simp at h h'
    subst h
    simp only [someN, nodupN, Bool.and_eq_true, Bool.not_eq_true'] at hd
    rw [memN_iff.2 (someN_mem h')] at hd
    cases hd.1
  | x :: r, c + 1, 0, V, hd, h, h' => by
    simp at h h'
    subst h'
    simp only [someN, nodupN, Bool.and_eq_true, Bool.not_eq_true'] at hd
    rw [memN_iff.2 (someN_mem h)] at hd
    cases hd.1
  | x :: r, c + 1, c' + 1, V, hd, h, h' => by
    have : nodupN (someN r) = true := by
      cases x with
      | none => exact hd
      | some i => simp only [someN, nodupN, Bool.and_eq_true] at hd; exact hd.2
    exact congrArg (· + 1) (someN_inj (c := c) (c' := c') this (by simpa using h) (by simpa using h'))
theorem group_le {L : List Nat} {τH : Hp} {n' : Nat} {e : List CK} {a k : At} {ys : List D} (ha : a.den env = .l ys) (hH : ∀ j cs, memN j.1 L = false → hget (denH env σ.H) j = some cs → hget τH j = some cs) (hfr : ∀ j : Nm, j.1 = n' → hget τH j = none) :
    Le (denH env (hdelsS σ.H L ++ [(n', .arr (.ow none) e a k)])) (hrem (fun n => memN n.1 L) τH ++ (((n', 0), famR n' e 0 ys) :: blkR n' (fun _ => false) e 0 ys)) := by
  intro j cs hj
  obtain ⟨t, q⟩ := j
  have new : hgetS (hdelsS σ.H L) t = none → t = n' → hget (((n', 0), famR n' e 0 ys) :: blkR n' (fun _ => false) e 0 ys) (t, q) = some cs → hget (hrem (fun n => memN n.1 L) τH ++ (((n', 0), famR n' e 0 ys) :: blkR n' (fun _ => false) e 0 ys)) (t, q) = some cs := fun h1 h2 h3 => by
    rw [hget_app]
    have : hget (hrem (fun n => memN n.1 L) τH) (t, q) = none := by
      rw [hget_hrem]
      split
      · rfl
      · exact hfr (t, q) h2
    rw [this]
    exact h3
  have old : ∀ b, hgetS (hdelsS σ.H L) t = some b → hget (denH env σ.H) (t, q) = some cs → hget (hrem (fun n => memN n.1 L) τH ++ (((n', 0), famR n' e 0 ys) :: blkR n' (fun _ => false) e 0 ys)) (t, q) = some cs := fun b h1 h2 => by
    obtain ⟨g1, g2⟩ := hgetS_dels_some h1
    have hm : memN t L = false := by
      cases hm : memN t L with
      | false => rfl
      | true => exact absurd (memN_iff.1 hm) g1
    rw [hget_app, hget_hrem, if_neg (by rw [hm]; simp), hH (t, q) cs hm h2]
  cases q with
  | zero =>
    rw [hget_denH, hgetS_app_eq] at hj
    cases hb : hgetS (hdelsS σ.H L) t with
    | some b =>
      rw [hb] at hj
      exact old b hb (by rw [hget_denH, (hgetS_dels_some hb).2]; exact hj)
    | none =>
      rw [hb] at hj
      simp only [hgetS] at hj
      split at hj
      · rename_i e1
        have e1 := Nat.eq_of_beq_eq_true e1
        refine new hb e1.symm ?_
        subst e1
        simp only [Option.map_some, SB.den, ha, D.items] at hj
        simp only [hget, nbeq_refl, if_true]
        exact hj
      · cases hj
  | succ q =>
    rw [hget_denH1, hgetS_app_eq] at hj
    cases hb : hgetS (hdelsS σ.H L) t with
    | some b =>
      rw [hb] at hj
      exact old b hb (by rw [hget_denH1, (hgetS_dels_some hb).2]; exact hj)
    | none =>
      rw [hb] at hj
      simp only [hgetS] at hj
      split at hj
      · rename_i e1
        have e1 := Nat.eq_of_beq_eq_true e1
        refine new hb e1.symm ?_
        subst e1
        simp only [Option.bind_some, SB.more, ha, D.items] at hj
        simp only [hget, beq_ne (show ((n', 0) : Nm) ≠ (n', q + 1) from fun e => by have := congrArg Prod.snd e; simp at this), Bool.false_eq_true, if_false]
        exact hj
      · cases hj
theorem grp_sl {μ : Mu} {n k s : Nat} {f : Nat → Option Nm} {j : Nm} {c : Value} (hf : f 0 = some j) (h : VR μ (.sl j 0 k s) c) : VR (μ.grp n f) (.sl (n, 0) 0 k s) c := by
  cases h with
  | sl hm hc he => exact .sl (by rw [Mu.grp_new hf]; exact hm) hc he
  | sl0 A => exact .sl0 A
/-- Behind an operation that leaves a block of rows, the rows come to own their slices. -/
theorem eff_group {τ : St} {j0 : Nm} {cells : List AV} {e : List CK} {a k : At} {ys : List D} {og : Nat → Option Nm} {L : List Nat} {n s : Nat}
    (hOX : OX P E (kpOf ks) o (σ.den env) (fun r t => r = .sl j0 0 n s ∧ t = τ)) (hT : τ.T = denT env σ.T) (ha : a.den env = .l ys) (hn : k.den env = .i n) (hok : ∀ y ∈ ys, okE e y = true) (hs : s = e.length)
    (hj : hget τ.H j0 = some cells) (hlen : cells.length = ys.length * e.length)
    (hc : ∀ r c d k v, ys[r]? = some d → e[c]? = some k → (row e d)[c]? = some v → ∃ x, cells[r * e.length + c]? = some x ∧ OCell τ.H (og (r * e.length + c)) k v x) (hd0 : memN j0.1 L = true) (hdl : ∀ p q, og p = some q → memN q.1 L = true) (hinj : ∀ p p' q, og p = some q → og p' = some q → p = p') (hne : ∀ p, og p ≠ some j0)
    (hH : ∀ j cs, memN j.1 L = false → hget (denH env σ.H) j = some cs → hget τ.H j = some cs) :
    OX P E (kpOf ks) o (σ.den env) (fun r t => r = (SV.sl τ.nx (.k (.i 0)) k s).den env ∧ LeS (SS.den env ⟨σ.T, hdelsS σ.H L ++ [(τ.nx, .arr (.ow none) e a k)], τ.nx + 1⟩) t) := by
  refine OX.after hOX (fun v σ' hr μ a' w hi => ?_)
  obtain ⟨rfl, rfl⟩ := hr
  obtain ⟨h1, h2⟩ := hi.group hj hok hlen hc (dl := fun n => memN n.1 L) hd0 hdl hinj hne
  refine ⟨_, _, _, ⟨rfl, ?_⟩, h1, h2, fun c hv => ?_⟩
  · refine ⟨hT, rfl, ?_⟩
    exact group_le ha hH (fun j hj' => by
      cases g : hget σ'.H j with
      | none => rfl
      | some cs => have := (hi.low j cs g).1; omega)
  · simp only [SV.den, isZ_den (show isZ (.k (.i 0)) = true from rfl), hn, D.nat, D.int, Int.toNat_zero, Nat.zero_mul, Int.toNat_natCast]
    exact grp_sl rfl hv
theorem sinv_group {L : List Nat} {T : List (Nat × SV)} {n' q : Nat} {w : Ow} {e : List CK} {a k : At} (hg : σ.Good env) (h : k.den env = .i (a.den env).items.length) : SInv env ⟨T, hdelsS σ.H L ++ [(n', .arr w e a k)], q⟩ := fun i w' e' a' k' hh => by
  rcases hgetS_app hh with hh | hh
  · exact (hg.A i w' e' a' k' (hgetS_dels hh)).2
  · simp only [hgetS] at hh
    split at hh
    · cases hh; exact h
    · cases hh
/-! ### make -/
theorem zerosO_cell {H : Hp} : ∀ {e : List CK} {xs : List SV} {z : List D}, zerosO e xs = some z → xs.length = e.length ∧ ∀ (c : Nat) (k : CK) (v : D), e[c]? = some k → z[c]? = some v → ∃ x, xs[c]? = some x ∧ OCell H none k v (x.den env)
  | [], [], z, h => ⟨rfl, fun c k v hk _ => by simp at hk⟩
  | [], _ :: _, z, h => by simp [zerosO] at h
  | _ :: _, [], z, h => by simp [zerosO] at h
  | k :: ks, x :: xs, z, h => by
    unfold zerosO at h
    split at h
    · split at h
      · rename_i e' r hr
        cases h
        obtain ⟨h1, h2⟩ := zerosO_cell (H := H) hr
        refine ⟨by simp [h1], fun c k v hk hv => ?_⟩
        cases c with
        | zero => simp at hk hv; subst hk; subst hv; exact ⟨_, rfl, .inr ⟨rfl, rfl, .inl rfl⟩⟩
        | succ c => simpa using h2 c k v (by simpa using hk) (by simpa using hv)
      · cases h
    · cases h
    · rename_i k' d hk'
      split at h
      · rename_i hb
        simp only [Bool.and_eq_true] at hb
        obtain rfl := CK.beq_eq hb.1
        split at h
        · rename_i r hr
          cases h
          obtain ⟨h1, h2⟩ := zerosO_cell (H := H) hr
          refine ⟨by simp [h1], fun c k v hk hv => ?_⟩
          cases c with
          | zero =>
            simp at hk hv
            subst hk
            subst hv
            refine ⟨_, rfl, ?_⟩
            unfold OCell
            split
            · exact absurd rfl (hk' _)
            · rfl
          | succ c => simpa using h2 c k v (by simpa using hk) (by simpa using hv)
        · cases h
      · cases h
    · cases h
theorem rep_get {α : Type} {l : List α} : ∀ {n r c : Nat}, r < n → c < l.length → ((List.replicate n l).flatten)[r * l.length + c]? = l[c]?
  | 0, r, c, h, _ => by omega
  | n + 1, 0, c, _, hc => by
    rw [List.replicate_succ, List.flatten_cons, Nat.zero_mul, Nat.zero_add, List.getElem?_append_left hc]
  | n + 1, r + 1, c, h, hc => by
    rw [List.replicate_succ, List.flatten_cons, List.getElem?_append_right (by rw [Nat.add_mul]; omega), show (r + 1) * l.length + c - l.length = r * l.length + c by rw [Nat.add_mul]; omega]
    exact rep_get (by omega) hc
def sMakeO (tab : TyTab) (ks : List Nat) (σ : SS) (m : Nat) (t : TypeId) (l c : SV) : Option (List Nd × SV × SS) :=
  match tyGet tab t with
  | some T => (match T.kind with
    | .slice e => (match tyGet tab e with
      | some F => (match l, c with
        | .dat (.int k) a, .dat (.int k') a' => if (aliveS σ ks && At.beq a a' && Nat.beq F.zero.length F.size && Nat.beq F.row.length F.size && !Nat.beq F.size 0) = true then (match zerosO F.row (F.zero.map zSV) with
            | some z => some ([.pr (.mkz F.row k F.bytes z) [a], .pr (.len F.row) [.v m]], .sl (σ.nx + 1) (.k (.i 0)) (.v (m + 1)) F.size, ⟨σ.T, hdelsS σ.H [σ.nx] ++ [(σ.nx + 1, .arr (.ow none) F.row (.v m) (.v (m + 1)))], σ.nx + 2⟩)
            | none => none) else none
        | _, _ => none)
      | none => none)
    | _ => none)
  | none => none
theorem low_none {μ : Mu} {a : Act} {w : World} {τ : St} (hi : INV E μ τ a w) {j : Nm} (h : τ.nx ≤ j.1) : hget τ.H j = none := by
  cases g : hget τ.H j with
  | none => rfl
  | some cs => have := (hi.low j cs g).1; omega
theorem sMakeO_ok {t : TypeId} {lx cx : Operand} {σ' : SS} (htab : TabOk P tab) (hg : σ.Good env) (ho : o.op = .makeSlice t lx cx) (h : sMakeO tab ks σ m t (σ.ev lx) (σ.ev cx) = some (nds, v, σ')) (hf : Facts Φ env m nds) : EffR P E ks o σ env v σ' := by
  have hl := SS.ev_den env σ lx
  have hc := SS.ev_den env σ cx
  unfold sMakeO at h
  split at h
  · rename_i T hT
    obtain ⟨dt, it, zt, tu, ti, tz, t1, t2, t3, t4, t5, t6⟩ := tyGet_ok htab hT
    split at h
    · rename_i e hk
      rw [t4] at hk
      rw [kindD_slice hk] at tu
      split at h
      · rename_i F hF
        obtain ⟨df, jf, zf, fu, fi, fz', f1, f2, f3, f4, f5, f6⟩ := tyGet_ok htab hF
        split at h
        · rename_i k a k' a' e1 e2
          rw [e1] at hl
          rw [e2] at hc
          split at h
          · rename_i hb
            simp only [Bool.and_eq_true, Bool.not_eq_true'] at hb
            obtain ⟨⟨⟨⟨b1, b2⟩, b3⟩, b4⟩, b5⟩ := hb
            obtain rfl := At.beq_eq b2
            have b3 := Nat.eq_of_beq_eq_true b3
            have b4 := Nat.eq_of_beq_eq_true b4
            split at h
            · rename_i z hz
              cases h
              obtain ⟨g1, g2⟩ := hf.1
              simp only [List.map_cons, List.map_nil, Pr.args, okZ, Bool.and_eq_true, Bool.and_true] at g1 g2
              obtain ⟨n, hn⟩ := okC_int g2
              rw [hn] at g1
              simp only [Pr.eval] at g1
              split at g1
              · rename_i hh
                obtain ⟨c1, c2, c3⟩ := hh
                obtain ⟨zs, l1, l2⟩ := fact_len hf.2.1
                have g1 := Option.some.inj g1
                rw [← g1] at l1
                cases l1
                obtain ⟨z1, z2, _⟩ := zerosO_ok (env := env) (i := 0) hz
                have hzl := okZ_length z1
                rw [SV.den, hn, encC_int] at hl hc
                have hl' : (σ.den env).ev lx = .v (.int k n.toNat) := by rw [Int.toNat_of_nonneg c1]; exact hl
                have hc' : (σ.den env).ev cx = .v (.int k' n.toNat) := by rw [Int.toNat_of_nonneg c1]; exact hc
                have hcells : vals (madeCells zf.cells (n.toNat * jf.size)).toList = (List.replicate n.toNat (vals F.zero)).flatten := by
                  unfold madeCells
                  rw [Array.toList_map, Array.toList_range, ← f1, ← b3]
                  have e2 : (fun j => zf.cells[j % zf.cells.size]!) = (fun j => zf.cells.toList[j % zf.cells.toList.length]!) := funext (fun j => by
                    rw [Array.length_toList, ← Array.getElem!_toList])
                  rw [e2, ← f5, zrep]
                  simp [vals]
                have hzc := (zerosO_cell (env := env) (H := []) hz).2
                have hvl : (vals F.zero).length = F.row.length := by simp [vals, b3, b4]
                refine OX.known (p := ∀ j : Nm, σ.nx ≤ j.1 → hget (denH env σ.H) j = none) (fun μ a w hi j hj => low_none hi hj) (fun hlow => ?_) |> fun hOX => ⟨hOX, ?_⟩
                · have := eff_group (σ := σ) (env := env) (ks := ks) (k := .v (m + 1)) (a := .v m) (L := [σ.nx]) (og := fun _ => none) (cells := vals (madeCells zf.cells (n.toNat * jf.size)).toList) (e := F.row) (s := jf.size) ((OS.makeSlice (P := P) (E := E) (σ := σ.den env) (kp := kpOf ks) ho tu fi fz' hl' hc' (by omega) (by rw [← f2]; exact c2) (alive_ok b1)).ox ⟨rfl, rfl⟩) rfl g1.symm (by rw [l2]; simp) (fun y hy => by rw [(List.mem_replicate.1 hy).2]; exact okE_unrow z1) (by rw [b4, f1])
                    (by
                      show hget (denH env σ.H ++ _) _ = _
                      rw [hget_app, hlow _ (Nat.le_refl _)]
                      simp [hget]) (by rw [hcells, List.length_flatten]; simp [hvl]) (fun r c d k v h1 h2 h3 => by
                      have hr : r < n.toNat := by
                        rcases Nat.lt_or_ge r n.toNat with q | q
                        · exact q
                        · rw [List.getElem?_eq_none (by simpa using q)] at h1; cases h1
                      have hd : d = unrow F.row z := (List.mem_replicate.1 (List.mem_of_getElem? h1)).2
                      subst hd
                      rw [row_unrow hzl] at h3
                      obtain ⟨x, q1, q2⟩ := hzc c k v h2 h3
                      refine ⟨x.den env, ?_, q2.mono (fun j cs hj => by cases hj)⟩
                      rw [hcells, ← hvl, rep_get hr (by rw [hvl]; exact col_lt h2), ← zSVs_den (env := env), dens_get, q1]
                      rfl) (by simp [memN, SS.den]) (fun p q hq => by cases hq) (fun p p' q hq => by cases hq) (fun p hp => by cases hp) (fun j cs h1 h2 => by
                      show hget (denH env σ.H ++ _) _ = _
                      rw [hget_app, h2])
                  rw [f1]
                  exact this
                · exact sinv_group hg (by rw [l2, ← g1]; rfl)
              · cases g1
            · cases h
          · cases h
        · cases h
      · cases h
    · cases h
  · cases h
end
end Go.BH

/- A row appended to rows that own their slices: its slices were blocks of their own. -/
set_option linter.unusedVariables false
set_option linter.unusedSimpArgs false
namespace Go.BH
open Go.RowKit
def appOg (i N : Nat) (os : List (Option Nat)) (p : Nat) : Option Nm := if p < N then some (i, p + 1) else onm ((os[p - N]?).getD none)
section
variable {P : Program} {E : En} {σ : SS} {o : Oper} {ks : List Nat} {tab : TyTab} {env : List D} {m : Nat} {nds : List Nd} {v : SV} {Φ : Fns}
theorem onm_some {q : Option Nat} {j : Nm} (h : onm q = some j) : ∃ V, q = some V ∧ j = (V, 0) := by
  cases q with
  | none => cases h
  | some V => cases h; exact ⟨V, rfl, rfl⟩
theorem appOg_new {i N p : Nat} {os : List (Option Nat)} {j : Nm} (hp : ¬ p < N) (h : appOg i N os p = some j) : ∃ V, os[p - N]? = some (some V) ∧ j = (V, 0) := by
  simp only [appOg, if_neg hp] at h
  obtain ⟨V, h1, h2⟩ := onm_some h
  refine ⟨V, ?_, h2⟩
  cases g : os[p - N]? with
  | none => rw [g] at h1; cases h1
  | some q => rw [g] at h1; simp only [Option.getD_some] at h1; rw [h1]
theorem app_group {xs : List D} {i s : Nat} {e : List CK} {cs : List SV} {as : List At} {os : List (Option Nat)} {HH : Hp} {L : List Nat} {a k : At}
    (hOX : OX P E (kpOf ks) o (σ.den env) (fun r t => r = .sl (σ.nx, 0) 0 (xs.length + 1) s ∧ t = ⟨denT env σ.T, HH ++ [((σ.nx, 0), famR i e 0 xs ++ SV.dens env cs)], σ.nx + 1⟩)) (hg : σ.Good env) (hown : ownZ σ e cs = some (as, os)) (hs : s = e.length)
    (ha : a.den env = .l (xs ++ [unrow e (as.map (At.den env))])) (hk : k.den env = .i ((xs.length + 1 : Nat) : Int)) (hokx : ∀ x ∈ xs, okE e x = true) (hoka : okZ e (as.map (At.den env)) = true)
    (hHH : ∀ j v, j ≠ (i, 0) → hget (denH env σ.H) j = some v → hget HH j = some v) (hHn : hget HH (σ.nx, 0) = none) (hold : ∀ q v, hget (blkR i (fun _ => false) e 0 xs) (i, q) = some v → hget (denH env σ.H) (i, q) = some v)
    (hLn : memN σ.nx L = true) (hLi : memN i L = true) (hLV : ∀ V ∈ someN os, memN V L = true) (hVi : i ∉ someN os) (hVn : ∀ V ∈ someN os, V < σ.nx) (hnd : nodupN (someN os) = true) :
    OX P E (kpOf ks) o (σ.den env) (fun r t => r = (SV.sl (σ.nx + 1) (.k (.i 0)) k s).den env ∧ LeS (SS.den env ⟨σ.T, hdelsS σ.H L ++ [(σ.nx + 1, .arr (.ow none) e a k)], σ.nx + 2⟩) t) := by
  obtain ⟨w1, w2, w3, w4⟩ := ownZ_ok (env := env) hg hown
  have hal : (as.map (At.den env)).length = e.length := by rw [List.length_map, w1]
  have hN : (famR i e 0 xs).length = xs.length * e.length := famR_length i e xs 0
  have hτ : ∀ j v, j ≠ (i, 0) → hget (denH env σ.H) j = some v → hget (HH ++ [((σ.nx, 0), famR i e 0 xs ++ SV.dens env cs)]) j = some v := fun j v h1 h2 => by rw [hget_app, hHH j v h1 h2]
  refine eff_group (σ := σ) (env := env) (ks := ks) (k := k) (a := a) (L := L) (og := appOg i (xs.length * e.length) os) (e := e) (s := s) (cells := famR i e 0 xs ++ SV.dens env cs) hOX rfl ha hk (fun y hy => ?_) hs ?_ ?_ (fun r c d q v h1 h2 h3 => ?_) hLn (fun p q hq => ?_) (fun p p' q hq hq' => ?_) (fun p hp => ?_) (fun j v h1 h2 => hτ j v (fun e1 => by rw [e1] at h1; simp only at h1; rw [hLi] at h1; cases h1) h2)
  · rcases List.mem_append.1 hy with h | h
    · exact hokx y h
    · rw [List.mem_singleton.1 h]; exact okE_unrow hoka
  · show hget (HH ++ _) _ = _
    rw [hget_app, hHn]
    simp [hget]
  · simp only [List.length_append, hN, dens_len, w3, List.length_singleton, Nat.add_mul, Nat.one_mul]
  · have hc := col_lt h2
    rcases Nat.lt_or_ge r xs.length with hr | hr
    · rw [List.getElem?_append_left hr] at h1
      have hP : r * e.length + c < xs.length * e.length := by
        have : (r + 1) * e.length ≤ xs.length * e.length := Nat.mul_le_mul_right _ hr
        rw [Nat.add_mul] at this
        omega
      refine ⟨encF i (r * e.length + c) q v, ?_, ?_⟩
      · rw [List.getElem?_append_left (by rw [hN]; exact hP), famR_get h1 hc, famZ_get c h2 h3]
      · have hq : okC q v = true := by
          obtain ⟨v', k1, k2⟩ := okZ_get (show okZ e (row e d) = true from hokx d (List.mem_of_getElem? h1)) c q h2
          rw [h3] at k1
          cases k1
          exact k2
        rw [appOg, if_pos hP]
        cases q with
        | sl e' =>
          obtain ⟨ls, rfl, _⟩ := okC_sl hq
          refine .inl ⟨_, rfl, rfl, hτ _ _ (fun e1 => by have := congrArg Prod.snd e1; simp at this) (hold _ _ ?_)⟩
          have := blkR_put (i := i) (h := fun _ => false) (p := 0) h1 h2 h3 rfl
          simpa using this
        | int k => obtain ⟨n, rfl⟩ := okC_int hq; rfl
        | bool => obtain ⟨n, rfl⟩ := okC_bool hq; rfl
        | str => obtain ⟨n, rfl⟩ := okC_str hq; rfl
    · have hr' : r = xs.length := by
        rcases Nat.lt_or_ge r (xs.length + 1) with g | g
        · omega
        · rw [List.getElem?_eq_none (by simpa using g)] at h1; cases h1
      subst hr'
      rw [List.getElem?_append_right (Nat.le_refl _), Nat.sub_self] at h1
      simp only [List.getElem?_cons_zero, Option.some.injEq] at h1
      subst h1
      rw [row_unrow hal] at h3
      obtain ⟨x, b, q', g1, g2, g3, g4⟩ := w4 c q h2
      rw [List.getElem?_map, g2] at h3
      simp only [Option.map_some, Option.some.injEq] at h3
      subst h3
      refine ⟨x.den env, ?_, ?_⟩
      · rw [List.getElem?_append_right (by rw [hN]; omega), hN, Nat.add_sub_cancel_left, dens_get, g1]
        rfl
      · rw [appOg, if_neg (by omega), Nat.add_sub_cancel_left, g3]
        refine g4.mono (fun j v hj h' => hτ j v (fun e1 => ?_) h')
        obtain ⟨V, rfl, rfl⟩ := onm_some hj
        have := congrArg Prod.fst e1
        simp only at this
        subst this
        exact hVi (someN_mem g3)
  · rcases Nat.lt_or_ge p (xs.length * e.length) with h | h
    · rw [appOg, if_pos h] at hq
      cases hq
      exact hLi
    · obtain ⟨V, h1, rfl⟩ := appOg_new (by omega) hq
      exact hLV V (someN_mem h1)
  · rcases Nat.lt_or_ge p (xs.length * e.length) with h | h
    · rw [appOg, if_pos h] at hq
      cases hq
      rcases Nat.lt_or_ge p' (xs.length * e.length) with h' | h'
      · rw [appOg, if_pos h'] at hq'
        have := congrArg Prod.snd (Option.some.inj hq')
        simp only at this
        omega
      · obtain ⟨V, h1, h2⟩ := appOg_new (by omega) hq'
        have := congrArg Prod.snd h2
        simp at this
    · obtain ⟨V, h1, rfl⟩ := appOg_new (by omega) hq
      rcases Nat.lt_or_ge p' (xs.length * e.length) with h' | h'
      · rw [appOg, if_pos h'] at hq'
        have := congrArg Prod.snd (Option.some.inj hq')
        simp at this
      · obtain ⟨V', h1', h2'⟩ := appOg_new (by omega) hq'
        have := congrArg Prod.fst h2'
        simp only at this
        subst this
        have := someN_inj hnd h1 h1'
        omega
  · rcases Nat.lt_or_ge p (xs.length * e.length) with h | h
    · rw [appOg, if_pos h] at hp
      have := congrArg Prod.snd (Option.some.inj hp)
      simp at this
    · obtain ⟨V, h1, h2⟩ := appOg_new (by omega) hp
      have := congrArg Prod.fst h2
      simp only at this
      have := hVn V (someN_mem h1)
      omega
/-- The row that is appended: its cells. -/
def srcRow (σ : SS) (e : List CK) (y : SV) : Option (List SV × List At × List (Option Nat)) :=
  match y with
  | .sl j lo n s => if (isZ lo && At.beq n (.k (.i 1)) && Nat.beq s e.length) = true then (match hgetS σ.H j with
    | some (.cells cs) => if SV.ones cs = true then (match ownZ σ e cs with
      | some (as, os) => if (nodupN (someN os) && ltAll (someN os) σ.nx) = true then some (cs, as, os) else none
      | none => none) else none
    | _ => none) else none
  | _ => none
def sAppO (tab : TyTab) (ks : List Nat) (σ : SS) (m : Nat) (t : TypeId) (x y : SV) : Option (List Nd × SV × SS) :=
  match tyGet tab t with
  | some T => (match T.kind with
    | .slice e => (match tyGet tab e with
      | some F => if (aliveS σ ks && Nat.beq F.zero.length F.size && !Nat.beq F.size 0 && Nat.beq F.row.length F.size) = true then (match srcRow σ F.row y with
        | some (_, as, os) => (match x with
          | .nilS => some ([.pr (.mk F.row 1) as, .pr (.app F.row F.bytes) [.k (.l []), .v m], .pr (.len F.row) [.v (m + 1)]], .sl (σ.nx + 1) (.k (.i 0)) (.v (m + 2)) F.size, ⟨σ.T, hdelsS σ.H (σ.nx :: someN os) ++ [(σ.nx + 1, .arr (.ow none) F.row (.v (m + 1)) (.v (m + 2)))], σ.nx + 2⟩)
          | .e0 => some ([.pr (.mk F.row 1) as, .pr (.app F.row F.bytes) [.k (.l []), .v m], .pr (.len F.row) [.v (m + 1)]], .sl (σ.nx + 1) (.k (.i 0)) (.v (m + 2)) F.size, ⟨σ.T, hdelsS σ.H (σ.nx :: someN os) ++ [(σ.nx + 1, .arr (.ow none) F.row (.v (m + 1)) (.v (m + 2)))], σ.nx + 2⟩)
          | .sl i lo n s => if (isZ lo && whole σ i n && Nat.beq s F.size && !memN i ks && !memN i (someN os)) = true then (match hgetS σ.H i with
            | some (.arr (.ow none) e' a _) => if CK.beqs e' F.row = true then some ([.pr (.mk F.row 1) as, .pr (.app F.row F.bytes) [a, .v m], .pr (.len F.row) [.v (m + 1)]], .sl (σ.nx + 1) (.k (.i 0)) (.v (m + 2)) F.size, ⟨σ.T, hdelsS σ.H (σ.nx :: i :: someN os) ++ [(σ.nx + 1, .arr (.ow none) F.row (.v (m + 1)) (.v (m + 2)))], σ.nx + 2⟩) else none
            | _ => none) else none
          | _ => none)
        | none => none) else none
      | none => none)
    | _ => none)
  | none => none
theorem sAppO_ok {t : TypeId} {x y : Operand} {σ' : SS} (htab : TabOk P tab) (hg : σ.Good env) (ho : o.op = .call ⟨.builtin .append, #[x, y], #[t, t]⟩) (h : sAppO tab ks σ m t (σ.ev x) (σ.ev y) = some (nds, v, σ')) (hf : Facts Φ env m nds) : EffR P E ks o σ env v σ' := by
  have hx := SS.ev_den env σ x
  have hy := SS.ev_den env σ y
  unfold sAppO at h
  split at h
  · rename_i T hT
    obtain ⟨dt, it, zt, tu, ti, tz, t1, t2, t3, t4, t5, t6⟩ := tyGet_ok htab hT
    split at h
    · rename_i e hk
      rw [t4] at hk
      rw [kindD_slice hk] at tu
      split at h
      · rename_i F hF
        obtain ⟨df, jf, zf, fu, fi, fz', f1, f2, f3, f4, f5, f6⟩ := tyGet_ok htab hF
        split at h
        · rename_i hb
          simp only [Bool.and_eq_true, Bool.not_eq_true'] at hb
          obtain ⟨⟨⟨b1, b2⟩, b3⟩, b4⟩ := hb
          have b2 := Nat.eq_of_beq_eq_true b2
          have b4 := Nat.eq_of_beq_eq_true b4
          have hzl : zf.cells.size = jf.size := by
            have := congrArg List.length f5
            rw [b2, f1] at this
            simpa using this.symm
          have h0 : jf.size ≠ 0 := fun e0 => by rw [f1, e0] at b3; simp at b3
          split at h
          · rename_i cs as os hsrc
            unfold srcRow at hsrc
            split at hsrc
            · rename_i j lo n s ey
              split at hsrc
              · rename_i hbb
                simp only [Bool.and_eq_true] at hbb
                obtain ⟨⟨y1, y2⟩, y3⟩ := hbb
                obtain rfl := At.beq_eq y2
                have y3 := Nat.eq_of_beq_eq_true y3
                split at hsrc
                · rename_i cs' hcs
                  split at hsrc
                  · rename_i hones
                    split at hsrc
                    · rename_i as' os' hown
                      split at hsrc
                      · rename_i hnd
                        simp only [Option.some.injEq, Prod.mk.injEq] at hsrc
                        obtain ⟨rfl, rfl, rfl⟩ := hsrc
                        simp only [Bool.and_eq_true] at hnd
                        obtain ⟨nd1, nd2⟩ := hnd
                        obtain ⟨w1, w2, w3, _⟩ := ownZ_ok (env := env) hg hown
                        have hgc : hget (σ.den env).H j = some (SV.dens env cs') := by
                          show hget (denH env σ.H) j = _
                          rw [hget_denH, hcs]; rfl
                        rw [ey, SV.den, isZ_den y1, y3, b4, f1] at hy
                        have hsrc : Src (σ.den env) jf.size ((σ.den env).ev y) 1 (SV.dens env cs') := by
                          rw [hy]
                          have := Src.sl (σ := σ.den env) (s := jf.size) (i := j) (k := 0) (m := 1) hgc (by rw [dens_len, w3, b4, f1]; omega)
                          rw [List.drop_zero, List.take_of_length_le (by rw [dens_len, w3, b4, f1]; omega)] at this
                          simp only [D.nat, D.int, Int.toNat_zero, Nat.zero_mul]
                          exact this
                        have hones' : ones (SV.dens env cs') = true := SV.ones_den hones (hg.C j cs' hcs)
                        have row1 : ∀ {a : At} {nds' : List Nd}, Facts Φ env m (.pr (.mk F.row 1) as' :: .pr (.app F.row F.bytes) [a, .v m] :: nds') → ∃ xs, a.den env = .l xs ∧ okZ F.row (as'.map (At.den env)) = true ∧ (∀ x ∈ xs, okE F.row x = true) ∧ (xs.length + 1) * F.bytes ≤ 140737488355328 ∧ xs.length + 1 < 9223372036854775808 ∧ (At.v (m + 1)).den env = .l (xs ++ [unrow F.row (as'.map (At.den env))]) := fun {a nds'} hf => by
                          obtain ⟨g1, g2⟩ := hf.1
                          simp only [Pr.eval, Option.some.injEq] at g1
                          obtain ⟨xs, ys, k1, k2, k3, k4, k5, k6, k7⟩ := fact_app hf.2.1
                          rw [← g1] at k2
                          simp only [rowsOf, D.l.injEq] at k2
                          subst k2
                          have g2' : okZ F.row (as'.map (At.den env)) = true := by simpa [Pr.args, repCK_eq] using g2
                          have hl := okZ_length g2'
                          rw [List.take_of_length_le (by omega)] at k7 k5
                          exact ⟨xs, k1, g2', k3, by simpa using k5, by simpa using k6, k7⟩
                        have hVn : ∀ V ∈ someN os', V < σ.nx := ltAll_spec nd2
                        have new : ∀ (hx0 : (σ.den env).ev x = .v (.slice none 0 0) ∨ (σ.den env).ev x = .e0), some ([Nd.pr (.mk F.row 1) as', .pr (.app F.row F.bytes) [.k (.l []), .v m], .pr (.len F.row) [.v (m + 1)]], SV.sl (σ.nx + 1) (.k (.i 0)) (.v (m + 2)) F.size, (⟨σ.T, hdelsS σ.H (σ.nx :: someN os') ++ [(σ.nx + 1, .arr (.ow none) F.row (.v (m + 1)) (.v (m + 2)))], σ.nx + 2⟩ : SS)) = some (nds, v, σ') → EffR P E ks o σ env v σ' := by
                          intro hx0 h
                          cases h
                          obtain ⟨xs, g1, g2, g3, g5, g6, g7⟩ := row1 hf
                          cases g1
                          obtain ⟨zs, l1, l2⟩ := fact_len hf.2.2.1
                          rw [g7] at l1
                          cases l1
                          refine OX.known (p := ∀ j : Nm, σ.nx ≤ j.1 → hget (denH env σ.H) j = none) (fun μ a w hi j hj => low_none hi hj) (fun hlow => ?_) |> fun hOX => ⟨hOX, ?_⟩
                          · have := app_group (P := P) (E := E) (o := o) (σ := σ) (env := env) (ks := ks) (xs := []) (i := σ.nx) (e := F.row) (s := F.size) (cs := cs') (HH := denH env σ.H) (L := σ.nx :: someN os') (a := .v (m + 1)) (k := .v (m + 2))
                              ((OS.appendNew (P := P) (E := E) (σ := σ.den env) (kp := kpOf ks) ho tu fi fz' hzl h0 hx0 hsrc hones' (by omega) (by rw [← f2]; simpa using g5) (alive_ok b1)).ox ⟨by simp only [List.length_nil, Nat.zero_add, f1]; rfl, rfl⟩) hg hown b4.symm g7 (by rw [l2]; simp) g3 g2 (fun j v _ h => h) (hlow _ (Nat.le_refl _)) (fun q v h => by simp [blkR, hget] at h) (by simp [memN]) (by simp [memN]) (fun V hV => by simp only [memN, Bool.or_eq_true]; exact .inr (memN_iff.2 hV)) (fun hV => by have := hVn _ hV; omega) hVn nd1
                            exact this
                          · exact sinv_group hg (by rw [l2, g7]; rfl)
                        split at h
                        · rename_i ex
                          rw [ex] at hx
                          exact new (.inl hx) h
                        · rename_i ex
                          rw [ex] at hx
                          exact new (.inr hx) h
                        · rename_i i lo' n' s' ex
                          rw [ex] at hx
                          split at h
                          · rename_i hc
                            simp only [Bool.and_eq_true, Bool.not_eq_true'] at hc
                            obtain ⟨⟨⟨⟨c1, c2⟩, c3⟩, c4⟩, c5⟩ := hc
                            have c3 := Nat.eq_of_beq_eq_true c3
                            split at h
                            · rename_i e' a n'' hh
                              split at h
                              · rename_i hk'
                                obtain rfl := CK.beqs_eq hk'
                                cases h
                                obtain ⟨xs, g1, g2, g3, g5, g6, g7⟩ := row1 hf
                                obtain ⟨zs, l1, l2⟩ := fact_len hf.2.2.1
                                rw [g7] at l1
                                cases l1
                                obtain ⟨ow1, e1, a1, n1, w1', w2'⟩ := whole_inv hg c2
                                rw [hh] at w1'
                                cases w1'
                                simp only [SV.den, isZ_den c1, w2', g1, D.nat, D.int, D.items, Int.toNat_zero, Nat.zero_mul, Int.toNat_natCast, c3, f1] at hx
                                have hgt : hget (σ.den env).H i = some (famR i F.row 0 xs) := by
                                  show hget (denH env σ.H) i = _
                                  rw [hget_denH, hh]
                                  simp [SB.den, g1, D.items]
                                refine OX.known (p := ∀ j : Nm, σ.nx ≤ j.1 → hget (denH env σ.H) j = none) (fun μ a w hi j hj => low_none hi hj) (fun hlow => ?_) |> fun hOX => ⟨hOX, ?_⟩
                                · have hni : σ.nx ≠ i := fun e => by
                                    have h3 := hlow (i, 0) (by simp [e])
                                    have h4 : hget (denH env σ.H) (i, 0) = _ := hgt
                                    rw [h3] at h4
                                    cases h4
                                  have := app_group (P := P) (E := E) (o := o) (σ := σ) (env := env) (ks := ks) (xs := xs) (i := i) (e := F.row) (s := F.size) (cs := cs') (HH := hdel (denH env σ.H) (i, 0)) (L := σ.nx :: i :: someN os') (a := .v (m + 1)) (k := .v (m + 2))
                                    ((OS.appendTo (P := P) (E := E) (σ := σ.den env) (kp := kpOf ks) ho tu fi fz' hzl h0 hx hgt (by rw [famR_length, b4, f1]) hsrc hones' g6 (by rw [← f2]; exact g5) (fun j hj => ⟨alive_ok b1 j hj, fun e => by
                                      subst e
                                      rw [show memN j ks = true from hj] at c4
                                      cases c4⟩)).ox ⟨by rw [f1]; rfl, rfl⟩) hg hown b4.symm g7 (by rw [l2]; simp) g3 g2 (fun j v h1 h2 => by rw [hget_hdel_ne (Ne.symm h1)]; exact h2) (by rw [hget_hdel_ne (nm_ne (Ne.symm hni))]; exact hlow _ (Nat.le_refl _)) (fun q v h => by
                                      have h1 := blkR_name h
                                      cases q with
                                      | zero => simp at h1
                                      | succ q =>
                                        rw [hget_denH1, hh]
                                        simp only [Option.bind_some, SB.more, g1, D.items]
                                        exact h) (by simp [memN]) (by simp [memN]) (fun V hV => by simp only [memN, Bool.or_eq_true]; exact .inr (.inr (memN_iff.2 hV))) (fun hV => by rw [memN_iff.2 hV] at c5; cases c5) hVn nd1
                                  exact this
                                · exact sinv_group hg (by rw [l2, g7]; rfl)
                              · cases h
                            · cases h
                          · cases h
                        · cases h
                      · cases hsrc
                    · cases hsrc
                  · cases hsrc
                · cases hsrc
              · cases hsrc
            · cases hsrc
          · cases h
        · cases h
      · cases h
    · cases h
  · cases h
end
end Go.BH

/- A row stored in rows that own their slices: its slices were blocks of their own; the rows get a new name. -/
set_option linter.unusedVariables false
set_option linter.unusedSimpArgs false
namespace Go.BH
open Go.RowKit
mutual
/-- Block i is called n now. -/
def SV.mv (i n : Nat) : SV → SV
  | .ptr j o => if Nat.beq j i = true then .ptr n o else .ptr j o
  | .ptrE j ix s off => if Nat.beq j i = true then .ptrE n ix s off else .ptrE j ix s off
  | .sl j lo k s => if Nat.beq j i = true then .sl n lo k s else .sl j lo k s
  | .slD j e a ix c => if Nat.beq j i = true then .any else .slD j e a ix c
  | .agg xs => .agg (SV.mvs i n xs)
  | .tup xs => .tup (SV.mvs i n xs)
  | .fn f xs => .fn f (SV.mvs i n xs)
  | .any => .any
  | .dat k b => .dat k b
  | .lz q e' b => .lz q e' b
  | .K v => .K v
  | .nilS => .nilS
  | .e0 => .e0
  | .ifc a => .ifc a
  | .pfz l e' b ix off => .pfz l e' b ix off
def SV.mvs (i n : Nat) : List SV → List SV
  | [] => []
  | x :: xs => SV.mv i n x :: SV.mvs i n xs
end
def SB.mv (i n : Nat) : SB → SB
  | .cells xs => .cells (SV.mvs i n xs)
  | .arr w e a k => .arr w e a k
def mvT (i n : Nat) : List (Nat × SV) → List (Nat × SV)
  | [] => []
  | (t, x) :: r => (t, x.mv i n) :: mvT i n r
def mvH (i n : Nat) : List (Nat × SB) → List (Nat × SB)
  | [] => []
  | (t, b) :: r => (t, b.mv i n) :: mvH i n r
def SS.mv (i n : Nat) (σ : SS) : SS := ⟨mvT i n σ.T, mvH i n σ.H, σ.nx⟩
section
variable {P : Program} {E : En} {σ : SS} {o : Oper} {ks : List Nat} {tab : TyTab} {env : List D} {m : Nat} {nds : List Nd} {v : SV} {Φ : Fns}
mutual
theorem SV.mv_vr {μ : Mu} {i n : Nat} (hp : ∀ p, μ.pl (i, 0) = some p → μ.pl (n, 0) = some p) : ∀ (x : SV) (c : Value), VR μ (x.den env) c → VR μ ((x.mv i n).den env) c
  | .any, c, h => h
  | .dat k b, c, h => h
  | .lz q e' b, c, h => h
  | .K v, c, h => h
  | .nilS, c, h => h
  | .e0, c, h => h
  | .ifc a, c, h => h
  | .pfz l e' b ix off, c, h => h
  | .slD j e a ix q, c, h => by
    simp only [SV.mv]
    split
    · exact .any _
    · exact h
  | .ptr j o, c, h => by
    simp only [SV.mv]
    split
    · rename_i e
      obtain rfl := Nat.eq_of_beq_eq_true e
      simp only [SV.den] at h ⊢
      cases h with
      | ptr hm => exact .ptr (hp _ hm)
    · exact h
  | .ptrE j ix s off, c, h => by
    simp only [SV.mv]
    split
    · rename_i e
      obtain rfl := Nat.eq_of_beq_eq_true e
      simp only [SV.den] at h ⊢
      cases h with
      | ptr hm => exact .ptr (hp _ hm)
    · exact h
  | .sl j lo k s, c, h => by
    simp only [SV.mv]
    split
    · rename_i e
      obtain rfl := Nat.eq_of_beq_eq_true e
      simp only [SV.den] at h ⊢
      generalize (k.den env).nat = kk at h ⊢
      cases h with
      | sl hm hc he => exact .sl (hp _ hm) hc he
      | sl0 A => exact .sl0 A
    · exact h
  | .agg xs, c, h => by
    simp only [SV.mv, SV.den] at h ⊢
    cases h with
    | agg h => exact .agg (SV.mvs_vr hp xs _ h)
  | .tup xs, c, h => by
    simp only [SV.mv, SV.den] at h ⊢
    cases h with
    | tup h => exact .tup (SV.mvs_vr hp xs _ h)
  | .fn f xs, c, h => by
    simp only [SV.mv, SV.den] at h ⊢
    cases h with
    | fn h => exact .fn (SV.mvs_vr hp xs _ h)
theorem SV.mvs_vr {μ : Mu} {i n : Nat} (hp : ∀ p, μ.pl (i, 0) = some p → μ.pl (n, 0) = some p) : ∀ (xs : List SV) (cs : List Value), VRs μ (SV.dens env xs) cs → VRs μ (SV.dens env (SV.mvs i n xs)) cs
  | [], cs, h => h
  | x :: xs, cs, h => by
    simp only [SV.mvs, SV.dens] at h ⊢
    cases h with
    | cons a b => exact .cons (SV.mv_vr hp x _ a) (SV.mvs_vr hp xs _ b)
end
theorem mvs_map (i n : Nat) (l : List SV) : SV.mvs i n l = l.map (SV.mv i n) := by
  induction l with
  | nil => rfl
  | cons x xs ih => simp [SV.mvs, ih]
theorem tkS_mv (i n t : Nat) : ∀ T : List (Nat × SV), tkS (mvT i n T) t = (tkS T t).mv i n
  | [] => rfl
  | (d, x) :: r => by
    simp only [mvT, tkS]
    split
    · rfl
    · exact tkS_mv i n t r
theorem hgetS_mv (i n t : Nat) : ∀ H : List (Nat × SB), hgetS (mvH i n H) t = (hgetS H t).map (SB.mv i n)
  | [] => rfl
  | (d, x) :: r => by
    simp only [mvH, hgetS]
    split
    · rfl
    · exact hgetS_mv i n t r
/-- What is known, said anew, where the blocks lie as they lie. -/
theorem INV.weak1 {σ : St} {μ : Mu} {a : Act} {w : World} {T' : List (Nat × AV)} {H' : Hp} (h : INV E μ σ a w) (hT : ∀ t c, VR μ (tk σ.T t) c → VR μ (tk T' t) c)
    (hH : ∀ i cs', hget H' i = some cs' → ∃ cs, hget σ.H i = some cs ∧ cs'.length = cs.length ∧ ∀ (k : Nat) (x' : AV), cs'[k]? = some x' → ∃ x, cs[k]? = some x ∧ ∀ c, VR μ x c → VR μ x' c) : INV E μ ⟨T', H', σ.nx⟩ a w := by
  refine ⟨fun t => hT t _ (h.tmps t), h.size, h.defers, ⟨fun i cs' hi p hp => ?_, fun i cs' hi hne => ?_, fun i j cs ds hij hi hj => ?_, h.heap.rd, fun i cs p hi => ?_⟩, h.fresh, fun i cs' hi => ?_, h.kept, fun i cs' p hi => ?_, h.fzn, h.fzo, h.lno⟩
  · obtain ⟨cs, h1, h2, h3⟩ := hH i cs' hi
    obtain ⟨c, t, g1, g2, g3, g4⟩ := h.heap.own i cs h1 p hp
    refine ⟨c, t, g1, g2, by rw [h2]; exact g3, fun j x hj => ?_⟩
    obtain ⟨u, hu, hw⟩ := h3 j x hj
    obtain ⟨y, hy, hv⟩ := g4 j u hu
    exact ⟨y, hy, hw _ hv⟩
  · obtain ⟨cs, h1, h2, _⟩ := hH i cs' hi
    exact h.heap.there i cs h1 (fun e => hne (by subst e; exact List.eq_nil_of_length_eq_zero (by rw [h2]; rfl)))
  · obtain ⟨cs1, h1, _⟩ := hH i cs hi
    obtain ⟨cs2, h2, _⟩ := hH j ds hj
    exact h.heap.apart i j cs1 cs2 hij h1 h2
  · obtain ⟨cs1, h1, _⟩ := hH i cs hi
    exact h.heap.far i cs1 p h1
  · obtain ⟨cs, h1, _⟩ := hH i cs' hi
    exact h.low i cs h1
  · obtain ⟨cs, h1, _⟩ := hH i cs' hi
    exact h.may i cs p h1
theorem INV.less {μ : Mu} {σ' τ : St} {a : Act} {w : World} (h : INV E μ τ a w) (hl : LeS σ' τ) : INV E μ σ' a w := by
  have := h.weak (T' := σ'.T) (H' := σ'.H) (fun t => by rw [hl.T]; exact .refl _) (fun i cs hi => ⟨cs, hl.H i cs hi, .refl _⟩)
  rw [hl.nx] at this
  exact this
theorem INV.mv {μ : Mu} {a : Act} {w : World} {i n : Nat} (h : INV E μ (σ.den env) a w) (hp : ∀ p, μ.pl (i, 0) = some p → μ.pl (n, 0) = some p) : INV E μ ((σ.mv i n).den env) a w := by
  refine h.weak1 (T' := denT env (mvT i n σ.T)) (H' := denH env (mvH i n σ.H)) (fun t c hv => ?_) (fun j cs' hj => ?_)
  · rw [tk_denT, tkS_mv]
    exact SV.mv_vr hp _ _ (by rw [← tk_denT]; exact hv)
  · obtain ⟨t, q⟩ := j
    cases q with
    | zero =>
      rw [hget_denH, hgetS_mv] at hj
      cases hb : hgetS σ.H t with
      | none => rw [hb] at hj; cases hj
      | some b =>
        rw [hb] at hj
        simp only [Option.map_some, Option.some.injEq] at hj
        subst hj
        refine ⟨b.den env t, by show hget (denH env σ.H) _ = _; rw [hget_denH, hb]; rfl, ?_⟩
        cases b with
        | arr w' e a' k' => exact ⟨rfl, fun k x' hk => ⟨x', hk, fun _ h => h⟩⟩
        | cells xs =>
          simp only [SB.mv, SB.den]
          refine ⟨by simp [dens_len, mvs_map], fun k x' hk => ?_⟩
          rw [dens_get, mvs_map, List.getElem?_map] at hk
          cases hx : xs[k]? with
          | none => rw [hx] at hk; cases hk
          | some x =>
            rw [hx] at hk
            simp only [Option.map_some, Option.some.injEq] at hk
            subst hk
            exact ⟨x.den env, by rw [dens_get, hx]; rfl, fun c hv => SV.mv_vr hp _ _ hv⟩
    | succ q =>
      refine ⟨cs', ?_, rfl, fun k x' hk => ⟨x', hk, fun _ h => h⟩⟩
      show hget (denH env σ.H) _ = _
      rw [hget_denH1] at hj ⊢
      rw [hgetS_mv] at hj
      cases hb : hgetS σ.H t with
      | none => rw [hb] at hj; cases hj
      | some b =>
        rw [hb] at hj
        cases b with
        | cells xs => exact hj
        | arr w' e a' k' => exact hj
theorem sinv_mv {i n : Nat} (h : SInv env σ) : SInv env (σ.mv i n) := fun j w e a k hh => by
  simp only [SS.mv, hgetS_mv] at hh
  cases hb : hgetS σ.H j with
  | none => rw [hb] at hh; cases hh
  | some b =>
    rw [hb] at hh
    cases b with
    | cells xs => cases hh
    | arr w' e' a' k' => cases hh; exact h j _ _ _ _ hb
/-! ### cells set -/
theorem upd_out : ∀ {xs cs : List AV} {k p : Nat}, p < k ∨ k + xs.length ≤ p → (upd cs k xs)[p]? = cs[p]?
  | [], cs, k, p, _ => rfl
  | x :: xs, cs, k, p, h => by
    simp only [List.length_cons] at h
    simp only [upd]
    rw [upd_out (by omega), List.getElem?_set_ne (by omega)]
theorem upd_in : ∀ {xs cs : List AV} {k c : Nat}, k + c < cs.length → c < xs.length → (upd cs k xs)[k + c]? = xs[c]?
  | [], cs, k, c, _, h => by simp at h
  | x :: xs, cs, k, 0, h1, _ => by
    simp only [upd, Nat.add_zero]
    rw [upd_out (by omega)]
    simp [show k < cs.length by omega]
  | x :: xs, cs, k, c + 1, h1, h2 => by
    simp only [upd]
    rw [show k + (c + 1) = k + 1 + c by omega, upd_in (by simpa using (show k + 1 + c < cs.length by omega)) (by simpa using h2)]
    simp
theorem sets_rows {e : List CK} {ix : At} {z : Int} (hz : ix.den env = .i z) (hz0 : 0 ≤ z) : ∀ {as : List At} {m : Nat} {a : At} {j : Nat} {xs : List D}, Facts Φ env m (setsN e ix m a j as).1 → j + as.length ≤ e.length → a.den env = .l xs → (∀ y ∈ xs, okE e y = true) → z < xs.length →
    ∃ ys, (setsN e ix m a j as).2.den env = .l ys ∧ ys.length = xs.length ∧ (∀ y ∈ ys, okE e y = true) ∧ (∀ r, r ≠ z.toNat → ys[r]? = xs[r]?) ∧ ∀ d, xs[z.toNat]? = some d → ∃ d', ys[z.toNat]? = some d' ∧ (∀ c, c < j ∨ j + as.length ≤ c → (row e d')[c]? = (row e d)[c]?) ∧ (∀ c, c < as.length → (row e d')[j + c]? = (as[c]?).map (At.den env))
  | [], m, a, j, xs, hf, hl, ha, hok, hlt => ⟨xs, ha, rfl, hok, fun _ _ => rfl, fun d hd => ⟨d, hd, fun _ _ => rfl, fun c hc => by simp at hc⟩⟩
  | x :: as, m, a, j, xs, hf, hl, ha, hok, hlt => by
    simp only [setsN] at hf ⊢
    simp only [List.length_cons] at hl
    obtain ⟨xs', i, h1, h2, h3, h4, h5, h6, h7⟩ := fact_set hf.1
    rw [ha] at h1
    cases h1
    rw [hz] at h2
    cases h2
    have hok' : ∀ y ∈ xs.modify z.toNat (setRow e j (x.den env)), okE e y = true := fun y hy => by
      rcases mem_modify hy with g | ⟨y', g, rfl⟩
      · exact hok y g
      · exact setRow_ok (hok y' g) h6
    obtain ⟨ys, g1, g2, g3, g4, g5⟩ := sets_rows hz hz0 hf.2 (by omega) h7 hok' (by simpa using hlt)
    refine ⟨ys, g1, by rw [g2]; simp, g3, fun r hr => ?_, fun d hd => ?_⟩
    · rw [g4 r hr, List.getElem?_modify]
      cases xs[r]? with
      | none => rfl
      | some y => simp [show ¬ z.toNat = r from fun e => hr e.symm]
    · have hd' : (xs.modify z.toNat (setRow e j (x.den env)))[z.toNat]? = some (setRow e j (x.den env) d) := by
        rw [List.getElem?_modify, hd]; simp
      obtain ⟨d', k1, k2, k3⟩ := g5 _ hd'
      have hokd := hok d (List.mem_of_getElem? hd)
      rw [row_setRow hokd] at k2
      refine ⟨d', k1, fun c hc => ?_, fun c hc => ?_⟩
      · simp only [List.length_cons] at hc
        rw [k2 c (by omega), List.getElem?_set_ne (by omega)]
      · cases c with
        | zero =>
          rw [Nat.add_zero, k2 j (by omega)]
          have : j < (row e d).length := by rw [okZ_length hokd]; omega
          simp [this]
        | succ c =>
          have := k3 c (by simpa using hc)
          rw [show j + (c + 1) = j + 1 + c by omega, this]
          simp
def stOg (i N lo : Nat) (os : List (Option Nat)) (p : Nat) : Option Nm := if lo ≤ p ∧ p < lo + os.length then onm ((os[p - lo]?).getD none) else if p < N then some (i, p + 1) else none
theorem stOg_of {i N lo p : Nat} {os : List (Option Nat)} {j : Nm} (h : stOg i N lo os p = some j) : (j = (i, p + 1) ∧ p < N) ∨ (∃ V, os[p - lo]? = some (some V) ∧ j = (V, 0) ∧ lo ≤ p) := by
  unfold stOg at h
  split at h
  · rename_i hp
    obtain ⟨V, h1, h2⟩ := onm_some h
    refine .inr ⟨V, ?_, h2, hp.1⟩
    cases g : os[p - lo]? with
    | none => rw [g] at h1; cases h1
    | some q => rw [g] at h1; simp only [Option.getD_some] at h1; rw [h1]
  · split at h
    · rename_i hp
      exact .inl ⟨(Option.some.inj h).symm, hp⟩
    · cases h
def sStoreS (tab : TyTab) (ks : List Nat) (σ : SS) (m : Nat) (t : TypeId) (p x : SV) : Option (List Nd × SS) :=
  match tyGet tab t with
  | some T => if (aliveS σ ks && !Nat.beq T.size 0 && Nat.beq x.cells.length T.size && SV.ones x.cells) = true then (match p with
    | .ptrE i ix s off => if memN i ks = true then none else (match hgetS σ.H i with
      | some (.arr (.ow none) e a n) => if (Nat.beq s e.length && okSz off T.size e.length) = true then (match ownZ σ ((e.drop off).take T.size) x.cells with
          | some (as, os) => if (nodupN (someN os) && ltAll (someN os) σ.nx && !memN i (someN os)) = true then (match setsN e ix m a off as with
            | (nds, r) => some (nds, SS.mv i σ.nx ⟨σ.T, hdelsS σ.H (i :: someN os) ++ [(σ.nx, .arr (.ow none) e r n)], σ.nx + 1⟩)) else none
          | none => none) else none
      | _ => none)
    | _ => none) else none
  | none => none
theorem sStoreS_ok {t : TypeId} {p x : Operand} {σ' : SS} (htab : TabOk P tab) (hg : σ.Good env) (ho : o.op = .store t p x) (h : sStoreS tab ks σ m t (σ.ev p) (σ.ev x) = some (nds, σ')) (hf : Facts Φ env m nds) : EffR P E ks o σ env .any σ' := by
  have hp := SS.ev_den env σ p
  unfold sStoreS at h
  split at h
  · rename_i T hT
    obtain ⟨dt, it, zt, tu, ti, tz, t1, t2, t3, t4, t5, t6⟩ := tyGet_ok htab hT
    split at h
    · rename_i hb
      simp only [Bool.and_eq_true, Bool.not_eq_true'] at hb
      obtain ⟨⟨⟨b1, b2⟩, b3⟩, b4⟩ := hb
      have b2' : it.size ≠ 0 := fun e0 => by rw [t1, e0] at b2; simp at b2
      have b3 := Nat.eq_of_beq_eq_true b3
      have hone := SV.ones_den b4 (goods_cells (ev_good hg x))
      rw [← SV.cells_den, ← SS.ev_den] at hone
      have hlen : ((σ.den env).ev x).cells.length = it.size := by
        rw [SS.ev_den, SV.cells_den, dens_len, b3, t1]
      have hkp : ∀ i, memN i ks ≠ true → ∀ j, kpOf ks j = true → (hget (σ.den env).H j).isSome = true ∧ j ≠ i := fun i hi j hj => ⟨alive_ok b1 j hj, fun e => hi (by rw [← e]; exact hj)⟩
      split at h
      · rename_i i ix s off ep
        rw [ep] at hp
        split at h
        · cases h
        · rename_i hmem
          split at h
          · rename_i e a n hh
            split at h
            · rename_i hsz
              simp only [Bool.and_eq_true] at hsz
              obtain rfl := Nat.eq_of_beq_eq_true hsz.1
              have hsz := Nat.le_of_ble_eq_true hsz.2
              split at h
              · rename_i as os hown
                split at h
                · rename_i hnd
                  simp only [Bool.and_eq_true, Bool.not_eq_true'] at hnd
                  obtain ⟨⟨nd1, nd2⟩, nd3⟩ := hnd
                  generalize hq : setsN e ix m a off as = q at h
                  obtain ⟨ns, r⟩ := q
                  cases h
                  obtain ⟨w1, w2, w3, w4⟩ := ownZ_ok (env := env) hg hown
                  have hle : ((e.drop off).take T.size).length = T.size := by simp; omega
                  have hf' : Facts Φ env m (setsN e ix m a off as).1 := by rw [hq]; exact hf
                  have hne : as ≠ [] := fun e0 => by
                    rw [e0, hle, t1] at w1
                    exact b2' w1.symm
                  obtain ⟨xs, z, ys0, k1, k2, k3, k4, _⟩ := sets_fact hf' (by omega) hne
                  obtain ⟨xs', e1, hokx⟩ := okC_sl (hg.A i _ e a n hh).1
                  rw [k1] at e1
                  cases e1
                  obtain ⟨ys, g1, g2, g3, g4, g5⟩ := sets_rows k2 k3 hf' (by omega) k1 hokx k4
                  rw [hq] at g1
                  simp only at g1
                  have hgt : hget (σ.den env).H i = some (famR i e 0 xs) := by
                    show hget (denH env σ.H) i = _
                    rw [hget_denH, hh]
                    simp [SB.den, k1, D.items]
                  simp only [SV.den, k2, D.nat, D.int] at hp
                  have hle2 : z.toNat * e.length + off + it.size ≤ (famR i e 0 xs).length := by
                    rw [famR_length, ← t1]
                    have : (z.toNat + 1) * e.length ≤ xs.length * e.length := Nat.mul_le_mul_right _ (by omega)
                    rw [Nat.add_mul] at this
                    omega
                  have hst := OS0.store (P := P) (E := E) (σ := σ.den env) (kp := kpOf ks) ho ti b2' hp hgt hlen hle2 (ones_iff.1 hone) (hkp i hmem)
                  have hcells : ((σ.den env).ev x).cells = SV.dens env (σ.ev x).cells := by rw [SS.ev_den, SV.cells_den]
                  rw [hcells] at hst
                  have hnn : n.den env = .i ((ys.length : Nat) : Int) := by rw [(hg.A i _ e a n hh).2, k1, g2]; rfl
                  have hxl : (SV.dens env (σ.ev x).cells).length = T.size := by rw [dens_len, b3]
                  have hosl : os.length = T.size := by rw [w2, hle]
                  have hV : ∀ V ∈ someN os, V ≠ i := fun V hV e0 => by
                    rw [e0] at hV
                    rw [memN_iff.2 hV] at nd3
                    cases nd3
                  have hputE : ∀ j, j ≠ (i, 0) → hget (hput (denH env σ.H) (i, 0) (upd (famR i e 0 xs) (z.toNat * e.length + off) (SV.dens env (σ.ev x).cells))) j = hget (denH env σ.H) j := fun j hj => hget_hput_ne (Ne.symm hj)
                  have hOX : OX P E (kpOf ks) o (σ.den env) (fun r t => r = .any ∧ t = ⟨denT env σ.T, hput (denH env σ.H) (i, 0) (upd (famR i e 0 xs) (z.toNat * e.length + off) (SV.dens env (σ.ev x).cells)), σ.nx⟩) := hst.ox ⟨rfl, rfl⟩
                  refine ⟨OX.after hOX (fun v τ hr μ a' w hi => ?_), sinv_mv (sinv_group hg (by rw [hnn, g1]; rfl))⟩
                  obtain ⟨rfl, rfl⟩ := hr
                  have hcell : ∀ r' c d q u, ys[r']? = some d → e[c]? = some q → (row e d)[c]? = some u → ∃ y, (upd (famR i e 0 xs) (z.toNat * e.length + off) (SV.dens env (σ.ev x).cells))[r' * e.length + c]? = some y ∧ OCell (hput (denH env σ.H) (i, 0) (upd (famR i e 0 xs) (z.toNat * e.length + off) (SV.dens env (σ.ev x).cells))) (stOg i (xs.length * e.length) (z.toNat * e.length + off) os (r' * e.length + c)) q u y := fun r' c d q u h1 h2 h3 => by
                    have hc := col_lt h2
                    have hrl : r' < xs.length := by
                      rcases Nat.lt_or_ge r' ys.length with g | g
                      · omega
                      · rw [List.getElem?_eq_none g] at h1; cases h1
                    have hP : r' * e.length + c < xs.length * e.length := by
                      have : (r' + 1) * e.length ≤ xs.length * e.length := Nat.mul_le_mul_right _ hrl
                      rw [Nat.add_mul] at this
                      omega
                    have hqu : okC q u = true := by
                      obtain ⟨v', k1', k2'⟩ := okZ_get (show okZ e (row e d) = true from g3 d (List.mem_of_getElem? h1)) c q h2
                      rw [h3] at k1'
                      cases k1'
                      exact k2'
                    -- a cell that is as it was
                    have old : ∀ d0, xs[r']? = some d0 → (row e d0)[c]? = some u → (r' * e.length + c < z.toNat * e.length + off ∨ z.toNat * e.length + off + T.size ≤ r' * e.length + c) → ∃ y, (upd (famR i e 0 xs) (z.toNat * e.length + off) (SV.dens env (σ.ev x).cells))[r' * e.length + c]? = some y ∧ OCell (BH.hput (denH env σ.H) (i, 0) (upd (famR i e 0 xs) (z.toNat * e.length + off) (SV.dens env (σ.ev x).cells))) (stOg i (xs.length * e.length) (z.toNat * e.length + off) os (r' * e.length + c)) q u y := fun d0 hd0 hu hout => by
                      refine ⟨encF i (r' * e.length + c) q u, ?_, ?_⟩
                      · rw [upd_out (by rw [hxl]; exact hout), famR_get hd0 hc, famZ_get c h2 hu]
                      · rw [stOg, if_neg (by rw [hosl]; omega), if_pos hP]
                        cases q with
                        | sl e' =>
                          obtain ⟨ls, rfl, _⟩ := okC_sl hqu
                          refine .inl ⟨_, rfl, rfl, ?_⟩
                          rw [hputE _ (fun e1 => by have := congrArg Prod.snd e1; simp at this), hget_denH1, hh]
                          simp only [Option.bind_some, SB.more, k1, D.items]
                          have := blkR_put (i := i) (h := holeB env e none) (p := 0) hd0 h2 hu rfl
                          simpa using this
                        | int k => obtain ⟨n, rfl⟩ := okC_int hqu; rfl
                        | bool => obtain ⟨n, rfl⟩ := okC_bool hqu; rfl
                        | str => obtain ⟨n, rfl⟩ := okC_str hqu; rfl
                    by_cases hrz : r' = z.toNat
                    · subst hrz
                      have hd0 : xs[z.toNat]? = some xs[z.toNat] := List.getElem?_eq_getElem hrl
                      obtain ⟨d', m1, m2, m3⟩ := g5 _ hd0
                      rw [h1] at m1
                      cases m1
                      by_cases hin : off ≤ c ∧ c < off + T.size
                      · obtain ⟨i1, i2⟩ := hin
                        obtain ⟨y, b, q', n1, n2, n3, n4⟩ := w4 (c - off) q (by
                          rw [List.getElem?_take_of_lt (by omega), List.getElem?_drop, show off + (c - off) = c by omega]
                          exact h2)
                        have hu := m3 (c - off) (by rw [w1, hle]; omega)
                        rw [show off + (c - off) = c by omega, h3, n2] at hu
                        simp only [Option.map_some, Option.some.injEq] at hu
                        subst hu
                        refine ⟨y.den env, ?_, ?_⟩
                        · rw [show z.toNat * e.length + c = z.toNat * e.length + off + (c - off) by omega, upd_in (by rw [famR_length]; omega) (by rw [hxl]; omega), dens_get, n1]
                          rfl
                        · rw [stOg, if_pos (by rw [hosl]; omega), show z.toNat * e.length + c - (z.toNat * e.length + off) = c - off by omega, n3]
                          refine n4.mono (fun j v hj h' => ?_)
                          obtain ⟨V, rfl, rfl⟩ := onm_some hj
                          show hget (BH.hput _ _ _) _ = _
                          rw [hputE _ (fun e1 => hV V (someN_mem n3) (congrArg Prod.fst e1))]
                          exact h'
                      · have hu := m2 c (by rw [w1, hle]; omega)
                        rw [h3] at hu
                        exact old _ hd0 hu.symm (by omega)
                    · rw [g4 r' hrz] at h1
                      refine old d h1 h3 ?_
                      rcases Nat.lt_or_ge r' z.toNat with g | g
                      · left
                        have : (r' + 1) * e.length ≤ z.toNat * e.length := Nat.mul_le_mul_right _ g
                        rw [Nat.add_mul] at this
                        omega
                      · right
                        have : (z.toNat + 1) * e.length ≤ r' * e.length := Nat.mul_le_mul_right _ (by omega)
                        rw [Nat.add_mul] at this
                        omega
                  have hd1 : ∀ p q, stOg i (xs.length * e.length) (z.toNat * e.length + off) os p = some q → memN q.1 (i :: someN os) = true := fun p q hq' => by
                    rcases stOg_of hq' with ⟨rfl, _⟩ | ⟨V, q1, rfl, _⟩
                    · simp [memN]
                    · simp only [memN, Bool.or_eq_true]
                      exact .inr (memN_iff.2 (someN_mem q1))
                  have hd2 : ∀ p p' q, stOg i (xs.length * e.length) (z.toNat * e.length + off) os p = some q → stOg i (xs.length * e.length) (z.toNat * e.length + off) os p' = some q → p = p' := fun p p' q hq1 hq2 => by
                    rcases stOg_of hq1 with ⟨rfl, _⟩ | ⟨V, q1, rfl, l1⟩
                    · rcases stOg_of hq2 with ⟨q2, _⟩ | ⟨V, q1, q2, _⟩
                      · have := congrArg Prod.snd q2
                        simp only at this
                        omega
                      · have := congrArg Prod.snd q2
                        simp at this
                    · rcases stOg_of hq2 with ⟨q2, _⟩ | ⟨V', q1', q2, l2⟩
                      · have := congrArg Prod.snd q2
                        simp at this
                      · have := congrArg Prod.fst q2
                        simp only at this
                        subst this
                        have := someN_inj nd1 q1 q1'
                        omega
                  have hd3 : ∀ p, stOg i (xs.length * e.length) (z.toNat * e.length + off) os p ≠ some (i, 0) := fun p hp' => by
                    rcases stOg_of hp' with ⟨q2, _⟩ | ⟨V, q1, q2, _⟩
                    · have := congrArg Prod.snd q2
                      simp at this
                    · exact hV V (someN_mem q1) (congrArg Prod.fst q2).symm
                  obtain ⟨h1, h2⟩ := hi.group (j0 := (i, 0)) (cells := upd (famR i e 0 xs) (z.toNat * e.length + off) (SV.dens env (σ.ev x).cells)) (e := e) (ys := ys) (og := stOg i (xs.length * e.length) (z.toNat * e.length + off) os) (dl := fun n => memN n.1 (i :: someN os))
                    (by
                      show hget (BH.hput _ _ _) _ = _
                      rw [hget_hput_same (by rw [show hget (denH env σ.H) (i, 0) = _ from hgt]; simp)]) g3 (by rw [upd_length, famR_length, g2]) hcell (by simp [memN]) hd1 hd2 hd3
                  have hpl : (μ.grp σ.nx (fog (i, 0) (stOg i (xs.length * e.length) (z.toNat * e.length + off) os))).pl (σ.nx, 0) = μ.pl (i, 0) := Mu.grp_new (f := fog (i, 0) _) rfl
                  obtain ⟨b, hb⟩ := hi.heap.there (i, 0) _ (by
                    show hget (BH.hput _ _ _) _ = _
                    rw [hget_hput_same (by rw [show hget (denH env σ.H) (i, 0) = _ from hgt]; simp)]) (fun e0 => by
                      have := congrArg List.length e0
                      rw [upd_length] at this
                      simp only [List.length_nil] at this
                      omega)
                  have hpi := h2.pl (i, 0) b hb
                  have hl1 : INV E (μ.grp σ.nx (fog (i, 0) (stOg i (xs.length * e.length) (z.toNat * e.length + off) os))) (SS.den env ⟨σ.T, hdelsS σ.H (i :: someN os) ++ [(σ.nx, .arr (.ow none) e r n)], σ.nx + 1⟩) a' w := h1.less ⟨rfl, rfl, group_le g1 (fun j cs hj1 hj2 => by
                    show hget (BH.hput _ _ _) _ = _
                    rw [hputE j (fun e0 => by rw [e0] at hj1; simp [memN] at hj1)]
                    exact hj2) (fun j hj => low_none hi (by rw [hj]; exact Nat.le_refl _))⟩
                  exact ⟨.any, _, _, ⟨rfl, .refl _⟩, hl1.mv (fun p hp => by rw [hpi] at hp; rw [hpl, hb]; exact hp), h2, fun c _ => .any c⟩
                · cases h
              · cases h
            · cases h
          · cases h
      · cases h
    · cases h
  · cases h
end
end Go.BH

/- A call to which slices that rows own are handed over by name. -/
set_option linter.unusedVariables false
set_option linter.unusedSimpArgs false
namespace Go.BH
open Go.RowKit
mutual
/-- f at the leaves of a value. -/
def SV.lift (f : SV → SV) : SV → SV
  | .agg xs => .agg (SV.lifts f xs)
  | .tup xs => .tup (SV.lifts f xs)
  | .fn g xs => .fn g (SV.lifts f xs)
  | .any => .any
  | .dat k b => .dat k b
  | .lz q e' b => .lz q e' b
  | .K v => .K v
  | .nilS => .nilS
  | .e0 => .e0
  | .ifc a => .ifc a
  | .pfz l e' b ix off => .pfz l e' b ix off
  | .ptr j o => .ptr j o
  | .ptrE j ix s off => .ptrE j ix s off
  | .sl j lo k s => f (.sl j lo k s)
  | .slD j e a ix c => f (.slD j e a ix c)
def SV.lifts (f : SV → SV) : List SV → List SV
  | [] => []
  | x :: xs => SV.lift f x :: SV.lifts f xs
end
def SB.lift (f : SV → SV) : SB → SB
  | .cells xs => .cells (SV.lifts f xs)
  | .arr w e a k => .arr w e a k
def liftT (f : SV → SV) : List (Nat × SV) → List (Nat × SV)
  | [] => []
  | (t, x) :: r => (t, x.lift f) :: liftT f r
def liftH (f : SV → SV) : List (Nat × SB) → List (Nat × SB)
  | [] => []
  | (t, b) :: r => (t, b.lift f) :: liftH f r
def SS.lift (f : SV → SV) (σ : SS) : SS := ⟨liftT f σ.T, liftH f σ.H, σ.nx⟩
/-- What is taken out of its rows. -/
structure Ho where
  i : Nat
  e : List CK
  a : At
  ix : At
  c : Nat
def hoF (h : Ho) (V : Nat) (n : At) : SV → SV
  | .slD j e' a' ix' c' => if (Nat.beq j h.i && CK.beqs e' h.e && At.beq a' h.a && At.beq ix' h.ix && Nat.beq c' h.c) = true then .sl V (.k (.i 0)) n (colE h.e h.c).length else .slD j e' a' ix' c'
  | x => x
def bkF (h : Ho) (a1 a2 : At) (V : Nat) (n : At) : SV → SV
  | .sl j lo k s => if Nat.beq j V = true then (if (isZ lo && At.beq k n && Nat.beq s (colE h.e h.c).length) = true then .slD h.i h.e a2 h.ix h.c else .any) else .sl j lo k s
  | .slD j e' a' ix' c' => if (Nat.beq j h.i && CK.beqs e' h.e && At.beq a' a1) = true then .slD h.i h.e a2 ix' c' else .slD j e' a' ix' c'
  | x => x
def hoOk (o : Option (At × List Nat)) (ix : At) (c : Nat) : Bool := match o with
  | none => true
  | some (ix', cs) => At.beq ix' ix && !memN c cs
def hoCs (o : Option (At × List Nat)) : List Nat := match o with
  | none => []
  | some (_, cs) => cs
def eqNs : List Nat → List Nat → Bool
  | [], [] => true
  | x :: xs, y :: ys => Nat.beq x y && eqNs xs ys
  | _, _ => false
def hoPre (σ : SS) (m : Nat) (h : Ho) : Option (List Nd × SS × Option (At × List Nat)) :=
  match hgetS σ.H h.i with
  | some (.arr (.ow o) e a k) => if (CK.beqs e h.e && At.beq a h.a && isSl h.e h.c && hoOk o h.ix h.c) = true then
      some ([.pr (.get h.e h.c) [h.a, h.ix], .pr (.len (colE h.e h.c)) [.v m]], SS.lift (hoF h σ.nx (.v (m + 1))) ⟨σ.T, hputS σ.H h.i (.arr (.ow (some (h.ix, h.c :: hoCs o))) h.e h.a k) ++ [(σ.nx, .arr .pl (colE h.e h.c) (.v m) (.v (m + 1)))], σ.nx + 1⟩, o) else none
  | _ => none
def hoPost (V : Nat) (o : Option (At × List Nat)) (h : Ho) (mm : Nat) (v : SV) (σ' : SS) : Option (List Nd × SV × SS) :=
  match hgetS σ'.H V, hgetS σ'.H h.i with
  | some (.arr .pl e' b nb), some (.arr (.ow (some (ix1, c1 :: cs1))) e1 a1 k1) => if (CK.beqs e' (colE h.e h.c) && CK.beqs e1 h.e && At.beq ix1 h.ix && Nat.beq c1 h.c && eqNs cs1 (hoCs o)) = true then
      some ([.pr (.get h.e h.c) [a1, h.ix], .pr (.len (colE h.e h.c)) [.v mm], .pr (.rng .i64 .i64) [nb, .v (mm + 1), .v (mm + 1)], .pr (.rng .i64 .i64) [.v (mm + 1), nb, nb], .pr (.set h.e h.c) [a1, h.ix, b]],
        v.lift (bkF h a1 (.v (mm + 4)) V nb), SS.lift (bkF h a1 (.v (mm + 4)) V nb) ⟨σ'.T, hdelS (hputS σ'.H h.i (.arr (.ow o) h.e (.v (mm + 4)) k1)) V, σ'.nx⟩) else none
  | _, _ => none
section
variable {P : Program} {E : En} {σ : SS} {o : Oper} {ks : List Nat} {tab : TyTab} {env : List D} {m : Nat} {nds : List Nd} {v : SV} {Φ : Fns}
theorem eqNs_eq : ∀ {a b : List Nat}, eqNs a b = true → a = b
  | [], [], _ => rfl
  | [], _ :: _, h => by simp [eqNs] at h
  | _ :: _, [], h => by simp [eqNs] at h
  | x :: xs, y :: ys, h => by
    simp only [eqNs, Bool.and_eq_true] at h
    rw [Nat.eq_of_beq_eq_true h.1, eqNs_eq h.2]
mutual
theorem SV.lift_vr {μ : Mu} {f : SV → SV} (hf : ∀ x c, VR μ (x.den env) c → VR μ ((f x).den env) c) : ∀ (x : SV) (c : Value), VR μ (x.den env) c → VR μ ((x.lift f).den env) c
  | .any, c, h => h
  | .dat k b, c, h => h
  | .lz q e' b, c, h => h
  | .K v, c, h => h
  | .nilS, c, h => h
  | .e0, c, h => h
  | .ifc a, c, h => h
  | .pfz l e' b ix off, c, h => h
  | .slD j e a ix q, c, h => hf _ c h
  | .ptr j o, c, h => h
  | .ptrE j ix s off, c, h => h
  | .sl j lo k s, c, h => hf _ c h
  | .agg xs, c, h => by
    simp only [SV.lift, SV.den] at h ⊢
    cases h with
    | agg h => exact .agg (SV.lifts_vr hf xs _ h)
  | .tup xs, c, h => by
    simp only [SV.lift, SV.den] at h ⊢
    cases h with
    | tup h => exact .tup (SV.lifts_vr hf xs _ h)
  | .fn g xs, c, h => by
    simp only [SV.lift, SV.den] at h ⊢
    cases h with
    | fn h => exact .fn (SV.lifts_vr hf xs _ h)
theorem SV.lifts_vr {μ : Mu} {f : SV → SV} (hf : ∀ x c, VR μ (x.den env) c → VR μ ((f x).den env) c) : ∀ (xs : List SV) (cs : List Value), VRs μ (SV.dens env xs) cs → VRs μ (SV.dens env (SV.lifts f xs)) cs
  | [], cs, h => h
  | x :: xs, cs, h => by
    simp only [SV.lifts, SV.dens] at h ⊢
    cases h with
    | cons a b => exact .cons (SV.lift_vr hf x _ a) (SV.lifts_vr hf xs _ b)
end
theorem lifts_map (f : SV → SV) (l : List SV) : SV.lifts f l = l.map (SV.lift f) := by
  induction l with
  | nil => rfl
  | cons x xs ih => simp [SV.lifts, ih]
theorem tkS_lift (f : SV → SV) (t : Nat) : ∀ T : List (Nat × SV), tkS (liftT f T) t = (tkS T t).lift f
  | [] => rfl
  | (d, x) :: r => by
    simp only [liftT, tkS]
    split
    · rfl
    · exact tkS_lift f t r
theorem hgetS_lift (f : SV → SV) (t : Nat) : ∀ H : List (Nat × SB), hgetS (liftH f H) t = (hgetS H t).map (SB.lift f)
  | [] => rfl
  | (d, x) :: r => by
    simp only [liftH, hgetS]
    split
    · rfl
    · exact hgetS_lift f t r
theorem INV.lift {μ : Mu} {a : Act} {w : World} {f : SV → SV} (h : INV E μ (σ.den env) a w) (hf : ∀ x c, VR μ (x.den env) c → VR μ ((f x).den env) c) : INV E μ ((σ.lift f).den env) a w := by
  refine h.weak1 (T' := denT env (liftT f σ.T)) (H' := denH env (liftH f σ.H)) (fun t c hv => ?_) (fun j cs' hj => ?_)
  · rw [tk_denT, tkS_lift]
    exact SV.lift_vr hf _ _ (by rw [← tk_denT]; exact hv)
  · obtain ⟨t, q⟩ := j
    cases q with
    | zero =>
      rw [hget_denH, hgetS_lift] at hj
      cases hb : hgetS σ.H t with
      | none => rw [hb] at hj; cases hj
      | some b =>
        rw [hb] at hj
        simp only [Option.map_some, Option.some.injEq] at hj
        subst hj
        refine ⟨b.den env t, by show hget (denH env σ.H) _ = _; rw [hget_denH, hb]; rfl, ?_⟩
        cases b with
        | arr w' e' a' k' => exact ⟨rfl, fun k x' hk => ⟨x', hk, fun _ h => h⟩⟩
        | cells xs =>
          simp only [SB.lift, SB.den]
          refine ⟨by simp [dens_len, lifts_map], fun k x' hk => ?_⟩
          rw [dens_get, lifts_map, List.getElem?_map] at hk
          cases hx : xs[k]? with
          | none => rw [hx] at hk; cases hk
          | some x =>
            rw [hx] at hk
            simp only [Option.map_some, Option.some.injEq] at hk
            subst hk
            exact ⟨x.den env, by rw [dens_get, hx]; rfl, fun c hv => SV.lift_vr hf _ _ hv⟩
    | succ q =>
      refine ⟨cs', ?_, rfl, fun k x' hk => ⟨x', hk, fun _ h => h⟩⟩
      show hget (denH env σ.H) _ = _
      rw [hget_denH1] at hj ⊢
      rw [hgetS_lift] at hj
      cases hb : hgetS σ.H t with
      | none => rw [hb] at hj; cases hj
      | some b =>
        rw [hb] at hj
        cases b with
        | cells xs => exact hj
        | arr w' e' a' k' => exact hj
theorem sinv_lift {f : SV → SV} (h : SInv env σ) : SInv env (σ.lift f) := fun j w e a k hh => by
  simp only [SS.lift, hgetS_lift] at hh
  cases hb : hgetS σ.H j with
  | none => rw [hb] at hh; cases hh
  | some b =>
    rw [hb] at hh
    cases b with
    | cells xs => cases hh
    | arr w' e' a' k' => cases hh; exact h j _ _ _ _ hb
theorem OXp.post {σ σ' : St} {kp : Nat → Bool} {v : AV} (h : OXp P E kp o σ (fun r τ => r = v ∧ LeS σ' τ)) : OXp P E kp o σ (fun r τ => r = v ∧ τ = σ') := fun μ a w hi K Q hK =>
  h μ a w hi K Q (fun r τ c μ' w' ⟨hr, hl⟩ hv hi' hs hp => hK r σ' c μ' w' ⟨hr, rfl⟩ hv (hi'.less hl) hs hp)
/-- An operation with block j taken out under a fresh name (and said so), and put back behind it. -/
theorem OXp.hoist2 {σ τ : St} {kp : Nat → Bool} {R R' : AV → St → Prop} {j : Nm} {cs : List AV} (hj : hget σ.H j = some cs)
    (hτ : ∀ μ a w, μ.pl (σ.nx, 0) = μ.pl j → INV E μ ⟨σ.T, hdel σ.H j ++ [((σ.nx, 0), cs)], σ.nx + 1⟩ a w → (∀ q ds, hget σ.H q = some ds → q.1 < σ.nx) → INV E μ τ a w) (hnx : τ.nx = σ.nx + 1) (h : OXp P E kp o τ R)
    (hR : ∀ v σ', R v σ' → ∃ cs' v' σ'', hget σ'.H (σ.nx, 0) = some cs' ∧ hget σ'.H j = none ∧ R' v' σ'' ∧ (∀ μ a w, μ.pl (σ.nx, 0) = μ.pl j → INV E μ ⟨σ'.T, hdel σ'.H (σ.nx, 0) ++ [(j, cs')], σ'.nx⟩ a w → INV E μ σ'' a w ∧ ∀ c, VR μ v c → VR μ v' c)) : OXp P E kp o σ R' := fun μ a w hi K Q hK => by
  obtain ⟨μ1, h1, h2, h3, h4⟩ := hi.rename' hj
  obtain ⟨k1, k2⟩ := hi.low j cs hj
  have hlt : ∀ i : Nm, i.1 < σ.nx → i ≠ (σ.nx, 0) := fun i hi e => by rw [e] at hi; simp at hi
  have h3' : μ1.pl (σ.nx, 0) = μ1.pl j := by rw [h3, h4 j (hlt j k1)]
  refine h μ1 a w (hτ _ _ _ h3' h1 (fun q ds hq => (hi.low q ds hq).1)) K Q (fun v σ' c μ' w' hr hv hi' hs hpl => ?_)
  rw [hnx] at hpl
  obtain ⟨cs', v', σ'', g1, g2, g4, g5⟩ := hR v σ' hr
  have hpj : μ'.pl (σ.nx, 0) = μ'.pl j := by
    rw [hpl (σ.nx, 0) (Nat.lt_succ_self _), hpl j (Nat.lt_succ_of_lt k1), h3']
  have hV := (hi'.low _ _ g1).1
  simp only at hV
  have hsw := hi'.swap g1 g2 hpj ⟨by omega, k2⟩
  obtain ⟨q1, q2⟩ := g5 μ' a w' hpj hsw
  exact hK v' σ'' c μ' w' g4 (q2 c hv) q1 ⟨h2.trans hs.sub, ⟨fun i hk p hp => hs.sm.own i hk p (h2.pl _ _ hp), fun l b ds hl => hs.sm.rd l b ds (h2.rd l b ds hl)⟩⟩ (fun i hi' => (hpl i (Nat.lt_succ_of_lt hi')).trans (h4 i (hlt i hi')))
theorem holeB_cons {e : List CK} {o : Option (At × List Nat)} {ix : At} {c q : Nat} (h : hoOk o ix c = true) : holeB env e (some (ix, c :: hoCs o)) q = (Nat.beq ((ix.den env).nat * e.length + c) q || holeB env e o q) := by
  simp only [holeB, List.any_cons]
  congr 1
  cases o with
  | none => rfl
  | some p =>
    obtain ⟨ix', cs⟩ := p
    simp only [hoOk, Bool.and_eq_true] at h
    obtain rfl := At.beq_eq h.1
    rfl
theorem holeB_free {e : List CK} {o : Option (At × List Nat)} {ix : At} {c : Nat} (h : hoOk o ix c = true) : holeB env e o ((ix.den env).nat * e.length + c) = false := by
  cases o with
  | none => rfl
  | some p =>
    obtain ⟨ix', cs⟩ := p
    simp only [hoOk, Bool.and_eq_true, Bool.not_eq_true'] at h
    obtain rfl := At.beq_eq h.1
    simp only [holeB]
    rw [List.any_eq_false]
    intro x hx
    intro hb
    have := Nat.eq_of_beq_eq_true hb
    have : x = c := by omega
    subst this
    rw [memN_iff.2 hx] at h
    cases h.2
theorem hoF_vr {μ : Mu} {h : Ho} {V : Nat} {n : At} (hpl : μ.pl (V, 0) = μ.pl (h.i, (h.ix.den env).nat * h.e.length + h.c + 1)) (hn : (n.den env).nat = (atRC h.e h.c (h.a.den env) (h.ix.den env).nat).length) (x : SV) (c : Value) (hv : VR μ (x.den env) c) : VR μ ((hoF h V n x).den env) c := by
  cases x with
  | slD j e' a' ix' c' =>
    simp only [hoF]
    split
    · rename_i hb
      simp only [Bool.and_eq_true] at hb
      obtain ⟨⟨⟨⟨b1, b2⟩, b3⟩, b4⟩, b5⟩ := hb
      have b1 := Nat.eq_of_beq_eq_true b1
      have b2 := CK.beqs_eq b2
      have b3 := At.beq_eq b3
      have b4 := At.beq_eq b4
      have b5 := Nat.eq_of_beq_eq_true b5
      subst b1 b2 b3 b4 b5
      simp only [SV.den] at hv ⊢
      rw [hn, show ((At.k (.i 0)).den env).nat * (colE h.e h.c).length = 0 from by simp [At.den, D.nat, D.int]]
      generalize (atRC h.e h.c (h.a.den env) (h.ix.den env).nat).length = L at hv ⊢
      cases hv with
      | sl hm hc he => exact .sl (hpl.trans hm) hc he
      | sl0 A => exact .sl0 A
    · exact hv
  | _ => exact hv
theorem bkF_vr {μ : Mu} {h : Ho} {V : Nat} {a1 a2 n : At} (hpl : μ.pl (V, 0) = μ.pl (h.i, (h.ix.den env).nat * h.e.length + h.c + 1)) (hn : (n.den env).nat = (atRC h.e h.c (a2.den env) (h.ix.den env).nat).length) (hlen : ∀ c r, (atRC h.e c (a2.den env) r).length = (atRC h.e c (a1.den env) r).length) (x : SV) (c : Value) (hv : VR μ (x.den env) c) : VR μ ((bkF h a1 a2 V n x).den env) c := by
  cases x with
  | slD j e' a' ix' c' =>
    simp only [bkF]
    split
    · rename_i hb
      simp only [Bool.and_eq_true] at hb
      obtain ⟨⟨b1, b2⟩, b3⟩ := hb
      have b1 := Nat.eq_of_beq_eq_true b1
      have b2 := CK.beqs_eq b2
      have b3 := At.beq_eq b3
      subst b1 b2 b3
      simp only [SV.den] at hv ⊢
      rw [hlen]
      exact hv
    · exact hv
  | sl j lo k s =>
    simp only [bkF]
    split
    · rename_i e1
      obtain rfl := Nat.eq_of_beq_eq_true e1
      split
      · rename_i hb
        simp only [Bool.and_eq_true] at hb
        obtain ⟨⟨b1, b2⟩, b3⟩ := hb
        have b2 := At.beq_eq b2
        have b3 := Nat.eq_of_beq_eq_true b3
        subst b2 b3
        simp only [SV.den] at hv ⊢
        rw [hn, isZ_den b1, show (D.i 0).nat * (colE h.e h.c).length = 0 from by simp [D.nat, D.int]] at hv
        generalize (atRC h.e h.c (a2.den env) (h.ix.den env).nat).length = L at hv ⊢
        cases hv with
        | sl hm hc he => exact .sl (hpl.symm.trans hm) hc he
        | sl0 A => exact .sl0 A
      · exact .any _
    · exact hv
  | _ => exact hv
end
end Go.BH

/- A call to which slices that rows own are handed over by name, 2. -/
set_option linter.unusedVariables false
set_option linter.unusedSimpArgs false
namespace Go.BH
open Go.RowKit
/-- A call, with these taken out. -/
def sCallH (sigs : List Sig) (ks : List Nat) (x : Operand) (args : List Operand) : List Ho → SS → Nat → Option (List Nd × SV × SS)
  | [], σ, m => (match σ.ev x with
    | .fn f caps => sCallF ks σ m f (evS σ args ++ caps) 0 sigs
    | _ => none)
  | h :: r, σ, m => (match hoPre σ m h with
    | some (n1, σp, o) => (match sCallH sigs ks x args r σp (m + 2) with
      | some (n2, v, σ') => (match hoPost σ.nx o h (m + 2 + (tysOf n2).length) v σ' with
        | some (n3, v', σ'') => some (n1 ++ (n2 ++ n3), v', σ'')
        | none => none)
      | none => none)
    | none => none)
mutual
/-- Slices that rows own, in a value. -/
def hosV : SV → List Ho → List Ho
  | .slD i e a ix c, l => if l.any (fun h => Nat.beq h.i i && CK.beqs h.e e && At.beq h.a a && At.beq h.ix ix && Nat.beq h.c c) = true then l else ⟨i, e, a, ix, c⟩ :: l
  | .agg xs, l => hosVs xs l
  | .fn _ xs, l => hosVs xs l
  | .tup xs, l => hosVs xs l
  | .any, l => l
  | .dat _ _, l => l
  | .lz _ _ _, l => l
  | .K _, l => l
  | .nilS, l => l
  | .e0, l => l
  | .ifc _, l => l
  | .ptr _ _, l => l
  | .ptrE _ _ _ _, l => l
  | .sl _ _ _ _, l => l
  | .pfz _ _ _ _ _, l => l
def hosVs : List SV → List Ho → List Ho
  | [], l => l
  | x :: xs, l => hosVs xs (hosV x l)
end
/-- .. and in the blocks that pointers show. -/
def hosP (σ : SS) : List SV → List Ho → List Ho
  | [], l => l
  | .ptr i _ :: r, l => (match hgetS σ.H i with
    | some (.cells xs) => hosP σ r (hosVs xs l)
    | _ => hosP σ r l)
  | _ :: r, l => hosP σ r l
def hosA (σ : SS) (A : List SV) : List Ho := hosP σ A (hosVs A [])
section
variable {P : Program} {E : En} {σ : SS} {o : Oper} {ks : List Nat} {tab : TyTab} {env : List D} {m : Nat} {nds : List Nd} {v : SV} {Φ : Fns}
theorem facts_app' : ∀ {l r : List Nd} {m : Nat}, Facts Φ env m (l ++ r) → Facts Φ env m l ∧ Facts Φ env (m + (tysOf l).length) r
  | [], r, m, h => ⟨trivial, by simpa [tysOf] using h⟩
  | .pr p xs :: l, r, m, h => by
    obtain ⟨h1, h2⟩ := facts_app' (l := l) (r := r) (m := m + 1) h.2
    refine ⟨⟨h.1, h1⟩, ?_⟩
    simp only [tysOf, Nd.tys, List.length_append, List.length_singleton]
    rwa [← Nat.add_assoc]
  | .call f xs ps tys :: l, r, m, h => by
    obtain ⟨h1, h2⟩ := facts_app' (l := l) (r := r) (m := m + tys.length) h.2
    refine ⟨⟨h.1, h1⟩, ?_⟩
    simp only [tysOf, Nd.tys, List.length_append]
    rwa [← Nat.add_assoc]
theorem hoist_ok {σp σ' σ2 : SS} {h : Ho} {n1 n3 : List Nd} {oo : Option (At × List Nat)} {mm : Nat} {v2 : SV} (hg : σ.Good env) (hpre : hoPre σ m h = some (n1, σp, oo)) (hf1 : Facts Φ env m n1)
    (hcall : EffP P E ks o σp env v σ') (hpost : hoPost σ.nx oo h mm v σ' = some (n3, v2, σ2)) (hf3 : Facts Φ env mm n3) : EffP P E ks o σ env v2 σ2 := by
  obtain ⟨hc1, hc2⟩ := hcall
  obtain ⟨hi0, he0, ha0, hix, hc⟩ := h
  unfold hoPre at hpre
  split at hpre
  · rename_i o1 e1 a1 k1 hh
    split at hpre
    · rename_i hb
      simp only [Bool.and_eq_true] at hb
      obtain ⟨⟨⟨b1, b2⟩, b3⟩, b4⟩ := hb
      obtain rfl := CK.beqs_eq b1
      obtain rfl := At.beq_eq b2
      simp only [Option.some.injEq, Prod.mk.injEq] at hpre
      obtain ⟨rfl, rfl, rfl⟩ := hpre
      simp only at hf1 hc1 hc2 b3 b4 hh
      have hk := isSl_get b3
      have hlt := col_lt hk
      obtain ⟨xs, z, d, q1, q2, q3, q4, q5, _⟩ := get_fact hf1.1 hlt
      obtain ⟨ys, y1, y2, y3⟩ := atRC_fact hf1.1 b3
      obtain ⟨ys', l1, l2⟩ := fact_len hf1.2.1
      rw [y1] at l1
      cases l1
      have hzn : (hix.den env).nat = z.toNat := by rw [q2]; rfl
      have hfree := holeB_free (env := env) (e := e1) b4
      have hblk : hget (denH env σ.H) (hi0, (hix.den env).nat * e1.length + hc + 1) = some (encR (colE e1 hc) ys) := by
        rw [hget_denH1, hh]
        simp only [Option.bind_some, SB.more, q1, D.items]
        have h5 : (row e1 d)[hc]? = some (.l ys) := by rw [q5, y1]
        have := blkR_put (i := hi0) (h := holeB env e1 o1) (p := 0) q4 hk h5 (by rw [Nat.zero_add, ← hzn]; exact hfree)
        rw [Nat.zero_add, ← hzn] at this
        exact this
      unfold hoPost at hpost
      split at hpost
      · rename_i e' b nb ix1 c1 cs1 e2 a2 k2 hV hI
        split at hpost
        · rename_i hb'
          simp only [Bool.and_eq_true] at hb'
          obtain ⟨⟨⟨⟨p1, p2⟩, p3⟩, p4⟩, p5⟩ := hb'
          obtain rfl := CK.beqs_eq p1
          obtain rfl := CK.beqs_eq p2
          obtain rfl := At.beq_eq p3
          obtain rfl := Nat.eq_of_beq_eq_true p4
          obtain rfl := eqNs_eq p5
          simp only [Option.some.injEq, Prod.mk.injEq] at hpost
          obtain ⟨rfl, rfl, rfl⟩ := hpost
          simp only at hf3 hI
          obtain ⟨xs1, z1, d1, r1, r2, r3, r4, r5, _⟩ := get_fact hf3.1 hlt
          obtain ⟨u1, t1, t2, t3⟩ := atRC_fact hf3.1 b3
          obtain ⟨u1', s1, s2⟩ := fact_len hf3.2.1
          rw [t1] at s1
          cases s1
          obtain ⟨x1, x2, x3, g1, g2, g3, g4, g5, g6, _⟩ := fact_rng hf3.2.2.1
          obtain ⟨w1, w2, w3, f1, f2, f3, f4, f5, f6, _⟩ := fact_rng hf3.2.2.2.1
          obtain ⟨xs1', z1', bd, v1, v2, v3, v4, v5, v6, v7, v8⟩ := set_fact1 hf3.2.2.2.2.1
          rw [r1] at v1
          cases v1
          rw [r2] at v2
          cases v2
          rw [q2] at r2
          cases r2
          rw [show e2.getD c1 .bool = .sl (colE e2 c1) from by simp [List.getD, hk]] at v7
          obtain ⟨bs, rfl, hbok⟩ := okC_sl v7
          have hnb : nb.den env = .i bs.length := by
            have := hc2 σ.nx _ _ _ _ hV
            rw [this, v3]; rfl
          rw [hnb] at g1 f2
          rw [s2] at g2 f1
          cases g1
          cases g2
          cases f1
          cases f2
          have hlen0 : bs.length = u1.length := by omega
          have hVi : hi0 ≠ σ.nx := fun e0 => by rw [e0, hV] at hI; cases hI
          have hrow1 : (row e2 d1)[c1]? = some (.l u1) := by rw [r5, t1]
          have hokd1 := v4 d1 (List.mem_of_getElem? r4)
          -- the lists are as long as they were
          have hlenA : ∀ c r, (atRC e2 c ((At.v (mm + 4)).den env) r).length = (atRC e2 c (a2.den env) r).length := fun c r => by
            rw [v8, r1]
            by_cases hcc : c = c1
            · subst hcc
              simp only [atRC, D.items, List.getElem?_modify]
              by_cases hr : z.toNat = r
              · subst hr
                rw [r4]
                simp only [if_true, Option.map_eq_map, Option.map_some, row_setRow hokd1]
                have hl1 : c < (row e2 d1).length := by rw [okZ_length hokd1]; exact hlt
                rw [List.getElem?_set_self hl1, hrow1]
                simpa [D.items] using hlen0
              · have : (fun a => if z.toNat = r then setRow e2 c (.l bs) a else a) <$> xs1[r]? = xs1[r]? := by
                  cases xs1[r]? with
                  | none => rfl
                  | some x => simp [hr]
                rw [this]
            · rw [atRC_modify hcc v4]
          have hnb2 : (nb.den env).nat = (atRC e2 c1 ((At.v (mm + 4)).den env) (ix1.den env).nat).length := by
            rw [hlenA, t2, hnb, ← hlen0]; rfl
          have hn1 : ((At.v (m + 1)).den env).nat = (atRC e2 c1 (a1.den env) (ix1.den env).nat).length := by
            rw [y2, l2]; rfl
          refine ⟨?_, ?_⟩
          · refine OXp.hoist2 (σ := σ.den env) (τ := SS.den env (SS.lift (hoF ⟨hi0, e2, a1, ix1, c1⟩ σ.nx (.v (m + 1))) ⟨σ.T, hputS σ.H hi0 (.arr (.ow (some (ix1, c1 :: hoCs o1))) e2 a1 k1) ++ [(σ.nx, .arr .pl (colE e2 c1) (.v m) (.v (m + 1)))], σ.nx + 1⟩)) hblk (fun μ a w hpl hi hlow => ?_) rfl hc1.post (fun r τ hr => ?_)
            · have hle : Le (denH env (hputS σ.H hi0 (.arr (.ow (some (ix1, c1 :: hoCs o1))) e2 a1 k1) ++ [(σ.nx, .arr .pl (colE e2 c1) (.v m) (.v (m + 1)))])) (hdel (denH env σ.H) (hi0, (ix1.den env).nat * e2.length + c1 + 1) ++ [((σ.nx, 0), encR (colE e2 c1) ys)]) := by
                intro j cs hj
                obtain ⟨t, q⟩ := j
                have hnV : ∀ b, hgetS σ.H t = some b → t ≠ σ.nx := fun b hb e0 => by
                  have := hlow (t, 0) _ (show hget (denH env σ.H) (t, 0) = _ from by rw [hget_denH, hb]; rfl)
                  simp only at this
                  have h9 : (SS.den env σ).nx = σ.nx := rfl
                  omega
                cases q with
                | zero =>
                  rw [hget_denH, hgetS_app_eq] at hj
                  rw [hget_app, hget_hdel_ne (fun e0 => by have := congrArg Prod.snd e0; simp at this), hget_denH]
                  by_cases hti : t = hi0
                  · subst hti
                    rw [hgetS_put_self, hh] at hj
                    simp only [Option.map_some] at hj
                    rw [hh]
                    exact hj
                  · rw [hgetS_put_ne hti] at hj
                    cases hb : hgetS σ.H t with
                    | some b => rw [hb] at hj; exact hj
                    | none =>
                      rw [hb] at hj
                      simp only [hgetS] at hj
                      split at hj
                      · rename_i e0
                        have e0 := Nat.eq_of_beq_eq_true e0
                        subst e0
                        simp only [Option.map_some, SB.den, y1, D.items] at hj
                        simpa [hget] using hj
                      · cases hj
                | succ q =>
                  rw [hget_denH1, hgetS_app_eq] at hj
                  by_cases hti : t = hi0
                  · subst hti
                    rw [hgetS_put_self, hh] at hj
                    simp only [Option.map_some, Option.bind_some, SB.more, q1, D.items] at hj
                    obtain ⟨r', c', d', e3, ls, o1', o2', o3', o4', o5', o6'⟩ := blkR_inv hj
                    rw [holeB_cons b4, Bool.or_eq_false_iff] at o5'
                    have hne : q ≠ (ix1.den env).nat * e2.length + c1 := fun e0 => by
                      rw [e0] at o5'
                      simp at o5'
                    rw [hget_app, hget_hdel_ne (fun e0 => hne (by have := congrArg Prod.snd e0; simp only at this; omega)), hget_denH1, hh]
                    simp only [Option.bind_some, SB.more, q1, D.items]
                    rw [o1'] at o5' ⊢
                    rw [blkR_put o2' o3' o4' o5'.2, o6']
                  · rw [hgetS_put_ne hti] at hj
                    rw [hget_app, hget_hdel_ne (fun e0 => hti (congrArg Prod.fst e0).symm), hget_denH1]
                    cases hb : hgetS σ.H t with
                    | some b => rw [hb] at hj; rw [show (some b : Option SB).bind _ = hget (b.more env t) (t, q + 1) from rfl, show hget (b.more env t) (t, q + 1) = _ from hj]
                    | none =>
                      rw [hb] at hj
                      simp only [hgetS] at hj
                      split at hj
                      · cases hj
                      · cases hj
              exact INV.lift (σ := ⟨σ.T, _, σ.nx + 1⟩) (hi.less ⟨rfl, rfl, hle⟩) (hoF_vr (h := ⟨hi0, e2, a1, ix1, c1⟩) hpl hn1)
            · obtain ⟨rfl, rfl⟩ := hr
              refine ⟨encR (colE e2 c1) bs, _, _, ?_, ?_, ⟨rfl, .refl _⟩, fun μ a w hpl hi => ?_⟩
              · show hget (denH env σ'.H) (σ.nx, 0) = _
                rw [hget_denH, hV]
                simp [SB.den, v3, D.items]
              · show hget (denH env σ'.H) _ = none
                rw [hget_denH1, hI]
                simp only [Option.bind_some, SB.more]
                exact blkR_hole (by rw [holeB_cons b4]; simp)
              · have hfam : famR hi0 e2 0 (xs1.modify z.toNat (setRow e2 c1 (.l bs))) = famR hi0 e2 0 xs1 := by
                  rw [famR_modify hk v4 (by omega)]
                  refine List.ext_getElem? (fun p => ?_)
                  by_cases hp : z.toNat * e2.length + c1 = p
                  · subst hp
                    have hcell : (famR hi0 e2 0 xs1)[z.toNat * e2.length + c1]? = some (encF hi0 (z.toNat * e2.length + c1) (.sl (colE e2 c1)) (.l u1)) := by
                      rw [famR_get r4 hlt, famZ_get c1 hk hrow1]
                    have hlt2 : z.toNat * e2.length + c1 < (famR hi0 e2 0 xs1).length := by
                      rcases Nat.lt_or_ge (z.toNat * e2.length + c1) (famR hi0 e2 0 xs1).length with g | g
                      · exact g
                      · rw [List.getElem?_eq_none g] at hcell; cases hcell
                    rw [List.getElem?_set_self hlt2, hcell]
                    simp only [encF, Nat.zero_add, hlen0]
                  · rw [List.getElem?_set_ne hp]
                have hle : Le (denH env (hdelS (hputS σ'.H hi0 (.arr (.ow o1) e2 (.v (mm + 4)) k2)) σ.nx)) (hdel (denH env σ'.H) (σ.nx, 0) ++ [((hi0, (ix1.den env).nat * e2.length + c1 + 1), encR (colE e2 c1) bs)]) := by
                  intro j cs hj
                  obtain ⟨t, q⟩ := j
                  have htV : t ≠ σ.nx := fun e0 => by
                    subst e0
                    cases q with
                    | zero => rw [hget_denH, hgetS_del_self] at hj; cases hj
                    | succ q => rw [hget_denH1, hgetS_del_self] at hj; cases hj
                  have hno : hget (denH env σ'.H) (hi0, (ix1.den env).nat * e2.length + c1 + 1) = none := by
                    rw [hget_denH1, hI]
                    simp only [Option.bind_some, SB.more]
                    exact blkR_hole (by rw [holeB_cons b4]; simp)
                  cases q with
                  | zero =>
                    rw [hget_denH, hgetS_del_ne htV] at hj
                    rw [hget_app, hget_hdel_ne (nm_ne (Ne.symm htV)), hget_denH]
                    by_cases hti : t = hi0
                    · subst hti
                      rw [hgetS_put_self, hI] at hj
                      simp only [Option.map_some, SB.den, v8, D.items, hfam] at hj
                      rw [hI]
                      simp only [Option.map_some, SB.den, r1, D.items]
                      exact hj
                    · rw [hgetS_put_ne hti] at hj
                      rw [hj]
                  | succ q =>
                    rw [hget_denH1, hgetS_del_ne htV] at hj
                    rw [hget_app, hget_hdel_ne (fun e0 => htV (congrArg Prod.fst e0).symm), hget_denH1]
                    by_cases hti : t = hi0
                    · subst hti
                      rw [hgetS_put_self, hI] at hj
                      simp only [Option.map_some, Option.bind_some, SB.more, v8, D.items] at hj
                      rw [hI]
                      simp only [Option.bind_some, SB.more, r1, D.items]
                      obtain ⟨r', c', d', e3, ls, o1', o2', o3', o4', o5', rfl⟩ := blkR_inv hj
                      by_cases hq : q = (ix1.den env).nat * e2.length + c1
                      · have hq' : holeB env e2 (some (ix1, c1 :: hoCs o1)) q = true := by rw [holeB_cons b4, hq]; simp
                        rw [blkR_hole hq']
                        have hc' := col_lt o3'
                        have h1 : r' = z.toNat ∧ c' = c1 := by
                          rw [hzn] at hq
                          rw [hq] at o1'
                          have e3' : z.toNat * e2.length + c1 = r' * e2.length + c' := by omega
                          have e4 : z.toNat = r' := by
                            rcases Nat.lt_trichotomy z.toNat r' with g | g | g
                            · have : (z.toNat + 1) * e2.length ≤ r' * e2.length := Nat.mul_le_mul_right _ g
                              rw [Nat.add_mul] at this
                              omega
                            · exact g
                            · have : (r' + 1) * e2.length ≤ z.toNat * e2.length := Nat.mul_le_mul_right _ g
                              rw [Nat.add_mul] at this
                              omega
                          subst e4
                          exact ⟨rfl, by omega⟩
                        obtain ⟨rfl, rfl⟩ := h1
                        rw [List.getElem?_modify, r4] at o2'
                        simp only [if_true, Option.map_eq_map, Option.map_some, Option.some.injEq] at o2'
                        subst o2'
                        rw [row_setRow hokd1, List.getElem?_set_self (by rw [okZ_length hokd1]; exact hlt)] at o4'
                        simp only [Option.some.injEq, D.l.injEq] at o4'
                        subst o4'
                        rw [hk] at o3'
                        simp only [Option.some.injEq, CK.sl.injEq] at o3'
                        rw [hq, o3']
                        simp [hget]
                      · have hho : holeB env e2 (some (ix1, c1 :: hoCs o1)) q = false := by
                          rw [holeB_cons b4, o5', Bool.or_false]
                          cases g : Nat.beq ((ix1.den env).nat * e2.length + c1) q with
                          | false => rfl
                          | true => exact absurd (Nat.eq_of_beq_eq_true g).symm hq
                        have hold : ∃ d'', xs1[r']? = some d'' ∧ (row e2 d'')[c']? = some (.l ls) := by
                          rw [List.getElem?_modify] at o2'
                          by_cases hr : z.toNat = r'
                          · subst hr
                            rw [r4] at o2'
                            simp only [if_true, Option.map_eq_map, Option.map_some, Option.some.injEq] at o2'
                            subst o2'
                            refine ⟨d1, r4, ?_⟩
                            rw [row_setRow hokd1, List.getElem?_set_ne (fun e0 => hq (by rw [hzn, e0]; omega))] at o4'
                            exact o4'
                          · refine ⟨d', ?_, o4'⟩
                            cases hx : xs1[r']? with
                            | none => rw [hx] at o2'; cases o2'
                            | some x => rw [hx] at o2'; simpa [hr] using o2'
                        obtain ⟨d'', h1, h2⟩ := hold
                        rw [o1'] at hho ⊢
                        rw [blkR_put h1 o3' h2 hho]
                    · rw [hgetS_put_ne hti] at hj
                      rw [hj]
                have hl := INV.lift (σ := ⟨σ'.T, hdelS (hputS σ'.H hi0 (.arr (.ow o1) e2 (.v (mm + 4)) k2)) σ.nx, σ'.nx⟩) (f := bkF ⟨hi0, e2, a1, ix1, c1⟩ a2 (.v (mm + 4)) σ.nx nb) (hi.less ⟨rfl, rfl, hle⟩) (bkF_vr (h := ⟨hi0, e2, a1, ix1, c1⟩) hpl hnb2 hlenA)
                exact ⟨hl, fun c hv => SV.lift_vr (bkF_vr (h := ⟨hi0, e2, a1, ix1, c1⟩) hpl hnb2 hlenA) _ _ hv⟩
          · refine sinv_lift (fun j w e a k hj => ?_)
            have hj := hgetS_del hj
            rcases hgetS_put hj with ⟨_, hj⟩ | ⟨_, hj⟩
            · exact hc2 j w e a k hj
            · cases hj
              have := hc2 hi0 _ _ _ _ hI
              rw [this, r1, v8]
              simp [D.items]
        · cases hpost
      · cases hpost
    · cases hpre
  · cases hpre
mutual
theorem hoF_good {h : Ho} {V : Nat} {n : At} (hn : okC (.int .i64) (n.den env) = true) : ∀ {x : SV}, x.good env = true → (x.lift (hoF h V n)).good env = true
  | .any, _ => rfl
  | .dat k b, g => g
  | .lz q e' b, g => g
  | .K v, _ => rfl
  | .nilS, _ => rfl
  | .e0, _ => rfl
  | .ifc a, g => g
  | .ptr j o, _ => rfl
  | .ptrE j ix s off, g => g
  | .sl j lo k s, g => g
  | .pfz l e' b ix off, g => g
  | .slD j e' b ix c, g => by
    simp only [SV.lift, hoF]
    split
    · simp only [SV.good, Bool.and_eq_true]
      exact ⟨by simp [At.den, okC], hn⟩
    · exact g
  | .agg xs, g => hoFs_good hn g
  | .tup xs, g => hoFs_good hn g
  | .fn f xs, g => hoFs_good hn g
theorem hoFs_good {h : Ho} {V : Nat} {n : At} (hn : okC (.int .i64) (n.den env) = true) : ∀ {xs : List SV}, SV.goods env xs = true → SV.goods env (SV.lifts (hoF h V n) xs) = true
  | [], _ => rfl
  | x :: xs, g => by
    simp only [SV.goods, Bool.and_eq_true] at g
    simp only [SV.lifts, SV.goods, Bool.and_eq_true]
    exact ⟨hoF_good hn g.1, hoFs_good hn g.2⟩
end
theorem hoPre_good {σp : SS} {h : Ho} {n1 : List Nd} {oo : Option (At × List Nat)} (hg : σ.Good env) (hpre : hoPre σ m h = some (n1, σp, oo)) (hf : Facts Φ env m n1) : σp.Good env ∧ (tysOf n1).length = 2 := by
  obtain ⟨hi0, he0, ha0, hix, hc⟩ := h
  unfold hoPre at hpre
  split at hpre
  · rename_i o1 e1 a1 k1 hh
    split at hpre
    · rename_i hb
      simp only [Bool.and_eq_true] at hb
      obtain ⟨⟨⟨b1, b2⟩, b3⟩, b4⟩ := hb
      obtain rfl := CK.beqs_eq b1
      obtain rfl := At.beq_eq b2
      simp only [Option.some.injEq, Prod.mk.injEq] at hpre
      obtain ⟨rfl, rfl, rfl⟩ := hpre
      simp only at hf b3 hh
      obtain ⟨ys, y1, y2, y3⟩ := atRC_fact hf.1 b3
      obtain ⟨ys', l1, l2⟩ := fact_len hf.2.1
      rw [y1] at l1
      cases l1
      have hn : okC (.int .i64) ((At.v (m + 1)).den env) = true := by rw [l2]; rfl
      refine ⟨⟨fun t => ?_, fun i xs hx => ?_, fun i w e a n hx => ?_⟩, rfl⟩
      · simp only [SS.lift, tkS_lift]
        exact hoF_good hn (hg.T t)
      · simp only [SS.lift, hgetS_lift] at hx
        obtain ⟨b, hb', e0⟩ := Option.map_eq_some_iff.1 hx
        cases b with
        | arr => cases e0
        | cells ys' =>
          cases e0
          refine hoFs_good hn ?_
          rcases hgetS_snoc hb' with hb' | ⟨_, hb'⟩
          · rcases hgetS_put hb' with ⟨_, hb'⟩ | ⟨_, hb'⟩
            · exact hg.C i ys' hb'
            · cases hb'
          · cases hb'
      · simp only [SS.lift, hgetS_lift] at hx
        obtain ⟨b, hb', e0⟩ := Option.map_eq_some_iff.1 hx
        cases b with
        | cells => cases e0
        | arr =>
          cases e0
          rcases hgetS_snoc hb' with hb' | ⟨_, hb'⟩
          · rcases hgetS_put hb' with ⟨_, hb'⟩ | ⟨_, hb'⟩
            · exact hg.A i _ _ _ _ hb'
            · cases hb'
              exact hg.A hi0 _ _ _ _ hh
          · cases hb'
            rw [y1, l2]
            exact ⟨okC_mk y3, rfl⟩
    · cases hpre
  · cases hpre
theorem sCallH_ok {sigs : List Sig} {x : Operand} {args : List Operand} {tys : Array TypeId} (ho : o.op = .call ⟨.value x, args.toArray, tys⟩) (hS : ∀ (j : Nat) (s : Sig), sigs[j]? = some s → SigOk P Φ j s) : ∀ {l : List Ho} {σ σ' : SS} {m : Nat} {nds : List Nd} {v : SV}, σ.Good env → sCallH sigs ks x args l σ m = some (nds, v, σ') → Facts Φ env m nds → EffP P E ks o σ env v σ'
  | [], σ, σ', m, nds, v, hg, h, hf => by
    simp only [sCallH] at h
    split at h
    · rename_i f caps hx
      exact sCallF_ok hg ho hx (fun j s hj => by rw [Nat.zero_add]; exact hS j s hj) h hf
    · cases h
  | hd :: r, σ, σ', m, nds, v, hg, h, hf => by
    simp only [sCallH] at h
    split at h
    · rename_i n1 σp oo hpre
      split at h
      · rename_i n2 v1 σ1 hcall
        split at h
        · rename_i n3 v2 σ2 hpost
          cases h
          obtain ⟨h1, h2⟩ := facts_app' hf
          obtain ⟨hgp, hl⟩ := hoPre_good hg hpre h1
          rw [hl] at h2
          obtain ⟨h3, h4⟩ := facts_app' h2
          exact hoist_ok hg hpre h1 (sCallH_ok ho hS hgp hcall h3) hpost h4
        · cases h
      · cases h
    · cases h
end
end Go.BH

/- What a function computes, as a tree; two trees that are the same. -/
set_option linter.unusedVariables false
set_option linter.unusedSimpArgs false
namespace Go.BH
open Go.RowKit
/-- out: it leaves (0: by its end, 1: it returns, 2 + n: it leaves block n) with these data. -/
inductive Tr where
  | out (e : Nat) (xs : List At)
  | nd (n : Nd) (t : Tr)
  | ite (a : At) (t f : Tr)
  | seq (ps : List CK) (a b : Tr)
  | loop (ps : List CK) (xs : List At) (b : Tr)
  | blk (e : Nat) (ps : List CK) (a b : Tr)
  | both (a : At) (t f : Tr)
  deriving Inhabited
def iter (body : List D → Option (Nat × List D)) : Nat → List D → Option (Nat × List D)
  | 0, _ => none
  | k + 1, vs => match body vs with
    | some (0, ws) => iter body k ws
    | r => r
/-- Both, where they are one. -/
noncomputable def agree (x y : Option (Nat × List D)) : Option (Nat × List D) := open Classical in if x = y then x else none
theorem agree_some {x y : Option (Nat × List D)} {o : Nat × List D} (h : agree x y = some o) : x = some o ∧ y = some o := by
  unfold agree at h
  split at h
  · rename_i e
    subst e
    exact ⟨h, h⟩
  · cases h
theorem agree_self {x : Option (Nat × List D)} : agree x x = x := by
  unfold agree
  rw [if_pos rfl]
/-- Is it the empty list? -/
def D.isE : D → Bool
  | .l [] => true
  | _ => false
/-- What the tree leaves with; k: how often a loop may go round. -/
noncomputable def Tr.den (Φ : Fns) (k : Nat) : Tr → List D → Option (Nat × List D)
  | .out e xs, env => some (e, xs.map (At.den env))
  | .nd n t, env => match runNd Φ n env with
    | some ds => Tr.den Φ k t (env ++ ds)
    | none => none
  | .ite a t f, env => match a.den env with
    | .b true => Tr.den Φ k t env
    | .b false => Tr.den Φ k f env
    | _ => none
  | .seq _ a b, env => match Tr.den Φ k a env with
    | some (0, vs) => Tr.den Φ k b (env ++ vs)
    | r => r
  | .loop _ xs b, env => iter (fun vs => Tr.den Φ k b (env ++ vs)) k (xs.map (At.den env))
  | .blk e _ a b, env => match Tr.den Φ k a env with
    | some (0, vs) => Tr.den Φ k b (env ++ vs)
    | some (e', vs) => if Nat.beq e' e = true then Tr.den Φ k b (env ++ vs) else some (e', vs)
    | none => none
  | .both a t f, env => if (a.den env).isE = true then agree (Tr.den Φ k t env) (Tr.den Φ k f env) else Tr.den Φ k f env
def ndsT : List Nd → Tr → Tr
  | [], t => t
  | n :: r, t => .nd n (ndsT r t)
theorem den_ndsT {Φ : Fns} {k : Nat} {t : Tr} : ∀ {nds : List Nd} {env : List D} {o : Nat × List D}, (ndsT nds t).den Φ k env = some o → ∃ env', runNds Φ nds env = some env' ∧ t.den Φ k env' = some o
  | [], env, o, h => ⟨env, rfl, h⟩
  | n :: r, env, o, h => by
    simp only [ndsT, Tr.den] at h
    split at h
    · rename_i ds hd
      obtain ⟨env', h1, h2⟩ := den_ndsT h
      exact ⟨env', by simp only [runNds, hd]; exact h1, h2⟩
    · cases h
/-! ### the same -/
inductive PT where
  | bin | sh | cmp | cmpS | cat | not | and | or | eqb | nat | neg | com | conv | mx | mn | len | lenS | get | ixc | cut | cutS | rng | plus | idxS | app | mk | mkz | set | bstr | ite
  deriving DecidableEq
structure Cd where
  t : PT
  ns : List Nat
  ks : List IntKind
  es : List (List CK)
  as : List At
def boN : BinOp → Nat
  | .add => 0 | .sub => 1 | .mul => 2 | .quo => 3 | .rem => 4 | .and => 5 | .or => 6 | .xor => 7 | .andNot => 8 | .shl => 9 | .shr => 10
  | .eql => 11 | .neq => 12 | .lss => 13 | .leq => 14 | .gtr => 15 | .geq => 16
def noB : Nat → BinOp
  | 0 => .add | 1 => .sub | 2 => .mul | 3 => .quo | 4 => .rem | 5 => .and | 6 => .or | 7 => .xor | 8 => .andNot | 9 => .shl | 10 => .shr
  | 11 => .eql | 12 => .neq | 13 => .lss | 14 => .leq | 15 => .gtr | _ => .geq
def Pr.code : Pr → Cd
  | .bin o k => ⟨.bin, [boN o], [k], [], []⟩
  | .sh o k y => ⟨.sh, [boN o], [k, y], [], []⟩
  | .cmp o k => ⟨.cmp, [boN o], [k], [], []⟩
  | .cmpS o => ⟨.cmpS, [boN o], [], [], []⟩
  | .cat => ⟨.cat, [], [], [], []⟩
  | .not => ⟨.not, [], [], [], []⟩
  | .and => ⟨.and, [], [], [], []⟩
  | .or => ⟨.or, [], [], [], []⟩
  | .eqb => ⟨.eqb, [], [], [], []⟩
  | .nat k => ⟨.nat, [], [k], [], []⟩
  | .neg k => ⟨.neg, [], [k], [], []⟩
  | .com k => ⟨.com, [], [k], [], []⟩
  | .conv k k' => ⟨.conv, [], [k, k'], [], []⟩
  | .mx k => ⟨.mx, [], [k], [], []⟩
  | .mn k => ⟨.mn, [], [k], [], []⟩
  | .len e => ⟨.len, [], [], [e], []⟩
  | .lenS => ⟨.lenS, [], [], [], []⟩
  | .get e j => ⟨.get, [j], [], [e], []⟩
  | .ixc k => ⟨.ixc, [], [k], [], []⟩
  | .cut e k k' => ⟨.cut, [], [k, k'], [e], []⟩
  | .cutS k k' => ⟨.cutS, [], [k, k'], [], []⟩
  | .rng k k' => ⟨.rng, [], [k, k'], [], []⟩
  | .plus => ⟨.plus, [], [], [], []⟩
  | .idxS k => ⟨.idxS, [], [k], [], []⟩
  | .app e b => ⟨.app, [b], [], [e], []⟩
  | .mk e n => ⟨.mk, [n], [], [e], []⟩
  | .mkz e k b z => ⟨.mkz, [b], [k], [e], z.map .k⟩
  | .set e j => ⟨.set, [j], [], [e], []⟩
  | .bstr => ⟨.bstr, [], [], [], []⟩
  | .ite k => ⟨.ite, [], [], [[k]], []⟩
def atD : At → D
  | .k d => d
  | .v _ => .l []
def Pr.decode : Cd → Pr
  | ⟨.bin, [o], [k], _, _⟩ => .bin (noB o) k
  | ⟨.sh, [o], [k, y], _, _⟩ => .sh (noB o) k y
  | ⟨.cmp, [o], [k], _, _⟩ => .cmp (noB o) k
  | ⟨.cmpS, [o], _, _, _⟩ => .cmpS (noB o)
  | ⟨.cat, _, _, _, _⟩ => .cat
  | ⟨.not, _, _, _, _⟩ => .not
  | ⟨.and, _, _, _, _⟩ => .and
  | ⟨.or, _, _, _, _⟩ => .or
  | ⟨.eqb, _, _, _, _⟩ => .eqb
  | ⟨.nat, _, [k], _, _⟩ => .nat k
  | ⟨.neg, _, [k], _, _⟩ => .neg k
  | ⟨.com, _, [k], _, _⟩ => .com k
  | ⟨.conv, _, [k, k'], _, _⟩ => .conv k k'
  | ⟨.mx, _, [k], _, _⟩ => .mx k
  | ⟨.mn, _, [k], _, _⟩ => .mn k
  | ⟨.len, _, _, [e], _⟩ => .len e
  | ⟨.lenS, _, _, _, _⟩ => .lenS
  | ⟨.get, [j], _, [e], _⟩ => .get e j
  | ⟨.ixc, _, [k], _, _⟩ => .ixc k
  | ⟨.cut, _, [k, k'], [e], _⟩ => .cut e k k'
  | ⟨.cutS, _, [k, k'], _, _⟩ => .cutS k k'
  | ⟨.rng, _, [k, k'], _, _⟩ => .rng k k'
  | ⟨.plus, _, _, _, _⟩ => .plus
  | ⟨.idxS, _, [k], _, _⟩ => .idxS k
  | ⟨.app, [b], _, [e], _⟩ => .app e b
  | ⟨.mk, [n], _, [e], _⟩ => .mk e n
  | ⟨.mkz, [b], [k], [e], z⟩ => .mkz e k b (z.map atD)
  | ⟨.set, [j], _, [e], _⟩ => .set e j
  | ⟨.bstr, _, _, _, _⟩ => .bstr
  | ⟨.ite, _, _, [[k]], _⟩ => .ite k
  | _ => .bstr
theorem noB_boN (o : BinOp) : noB (boN o) = o := by cases o <;> rfl
set_option maxHeartbeats 2000000 in
theorem Pr.decode_code (p : Pr) : Pr.decode p.code = p := by
  cases p <;> simp only [Pr.code, Pr.decode, noB_boN]
  rename_i e k b z
  rw [List.map_map]
  congr 1
  induction z with
  | nil => rfl
  | cons x xs ih => simp only [List.map_cons, ih]; rfl
def nsB : List Nat → List Nat → Bool
  | [], [] => true
  | x :: xs, y :: ys => Nat.beq x y && nsB xs ys
  | _, _ => false
theorem nsB_eq : ∀ {a b : List Nat}, nsB a b = true → a = b
  | [], [], _ => rfl
  | [], _ :: _, h => by simp [nsB] at h
  | _ :: _, [], h => by simp [nsB] at h
  | x :: xs, y :: ys, h => by
    simp only [nsB, Bool.and_eq_true] at h
    rw [Nat.eq_of_beq_eq_true h.1, nsB_eq h.2]
def ksB : List IntKind → List IntKind → Bool
  | [], [] => true
  | x :: xs, y :: ys => decide (x = y) && ksB xs ys
  | _, _ => false
theorem ksB_eq : ∀ {a b : List IntKind}, ksB a b = true → a = b
  | [], [], _ => rfl
  | [], _ :: _, h => by simp [ksB] at h
  | _ :: _, [], h => by simp [ksB] at h
  | x :: xs, y :: ys, h => by
    simp only [ksB, Bool.and_eq_true] at h
    rw [of_decide_eq_true h.1, ksB_eq h.2]
def esB : List (List CK) → List (List CK) → Bool
  | [], [] => true
  | x :: xs, y :: ys => CK.beqs x y && esB xs ys
  | _, _ => false
theorem esB_eq : ∀ {a b : List (List CK)}, esB a b = true → a = b
  | [], [], _ => rfl
  | [], _ :: _, h => by simp [esB] at h
  | _ :: _, [], h => by simp [esB] at h
  | x :: xs, y :: ys, h => by
    simp only [esB, Bool.and_eq_true] at h
    rw [CK.beqs_eq h.1, esB_eq h.2]
def asB : List At → List At → Bool
  | [], [] => true
  | x :: xs, y :: ys => At.beq x y && asB xs ys
  | _, _ => false
theorem asB_eq : ∀ {a b : List At}, asB a b = true → a = b
  | [], [], _ => rfl
  | [], _ :: _, h => by simp [asB] at h
  | _ :: _, [], h => by simp [asB] at h
  | x :: xs, y :: ys, h => by
    simp only [asB, Bool.and_eq_true] at h
    rw [At.beq_eq h.1, asB_eq h.2]
def Pr.beq (p q : Pr) : Bool := decide (p.code.t = q.code.t) && nsB p.code.ns q.code.ns && ksB p.code.ks q.code.ks && esB p.code.es q.code.es && asB p.code.as q.code.as
theorem Pr.beq_eq {p q : Pr} (h : Pr.beq p q = true) : p = q := by
  simp only [Pr.beq, Bool.and_eq_true] at h
  obtain ⟨⟨⟨⟨h1, h2⟩, h3⟩, h4⟩, h5⟩ := h
  rw [← Pr.decode_code p, ← Pr.decode_code q]
  congr 1
  have h1 := of_decide_eq_true h1
  have h2 := nsB_eq h2
  have h3 := ksB_eq h3
  have h4 := esB_eq h4
  have h5 := asB_eq h5
  cases hp : p.code
  cases hq : q.code
  rw [hp, hq] at h1 h2 h3 h4 h5
  simp only at h1 h2 h3 h4 h5
  rw [h1, h2, h3, h4, h5]
def Nd.beq : Nd → Nd → Bool
  | .pr p xs, .pr q ys => Pr.beq p q && asB xs ys
  | .call f xs ps tys, .call g ys qs us => Nat.beq f g && asB xs ys && CK.beqs ps qs && CK.beqs tys us
  | _, _ => false
theorem Nd.beq_eq {a b : Nd} (h : Nd.beq a b = true) : a = b := by
  cases a <;> cases b <;> simp only [Nd.beq, Bool.and_eq_true] at h
  · rw [Pr.beq_eq h.1, asB_eq h.2]
  · cases h
  · cases h
  · obtain ⟨⟨⟨h1, h2⟩, h3⟩, h4⟩ := h
    rw [Nat.eq_of_beq_eq_true h1, asB_eq h2, CK.beqs_eq h3, CK.beqs_eq h4]
def Tr.beq : Tr → Tr → Bool
  | .out e xs, .out e' ys => Nat.beq e e' && asB xs ys
  | .nd n t, .nd n' t' => Nd.beq n n' && Tr.beq t t'
  | .ite a t f, .ite a' t' f' => At.beq a a' && Tr.beq t t' && Tr.beq f f'
  | .seq ps a b, .seq ps' a' b' => CK.beqs ps ps' && Tr.beq a a' && Tr.beq b b'
  | .loop ps xs b, .loop ps' ys b' => CK.beqs ps ps' && asB xs ys && Tr.beq b b'
  | .blk e ps a b, .blk e' ps' a' b' => Nat.beq e e' && CK.beqs ps ps' && Tr.beq a a' && Tr.beq b b'
  | .both a t f, .both a' t' f' => At.beq a a' && Tr.beq t t' && Tr.beq f f'
  | _, _ => false
theorem Tr.beq_eq : ∀ {a b : Tr}, Tr.beq a b = true → a = b
  | .out e xs, b, h => by
    cases b <;> simp only [Tr.beq, Bool.and_eq_true] at h <;> first | cases h; done | skip
    rw [Nat.eq_of_beq_eq_true h.1, asB_eq h.2]
  | .nd n t, b, h => by
    cases b <;> simp only [Tr.beq, Bool.and_eq_true] at h <;> first | cases h; done | skip
    rw [Nd.beq_eq h.1, Tr.beq_eq h.2]
  | .ite a t f, b, h => by
    cases b <;> simp only [Tr.beq, Bool.and_eq_true] at h <;> first | cases h; done | skip
    rw [At.beq_eq h.1.1, Tr.beq_eq h.1.2, Tr.beq_eq h.2]
  | .seq ps a c, b, h => by
    cases b <;> simp only [Tr.beq, Bool.and_eq_true] at h <;> first | cases h; done | skip
    rw [CK.beqs_eq h.1.1, Tr.beq_eq h.1.2, Tr.beq_eq h.2]
  | .loop ps xs c, b, h => by
    cases b <;> simp only [Tr.beq, Bool.and_eq_true] at h <;> first | cases h; done | skip
    rw [CK.beqs_eq h.1.1, asB_eq h.1.2, Tr.beq_eq h.2]
  | .blk e ps a c, b, h => by
    cases b <;> simp only [Tr.beq, Bool.and_eq_true] at h <;> first | cases h; done | skip
    rw [Nat.eq_of_beq_eq_true h.1.1.1, CK.beqs_eq h.1.1.2, Tr.beq_eq h.1.2, Tr.beq_eq h.2]
  | .both a t f, b, h => by
    cases b <;> simp only [Tr.beq, Bool.and_eq_true] at h <;> first | cases h; done | skip
    rw [At.beq_eq h.1.1, Tr.beq_eq h.1.2, Tr.beq_eq h.2]
/-! ### effects, all of them -/
def frzAll : List Nat → SS → Option SS
  | [], σ => some σ
  | i :: r, σ => match hgetS σ.H i with
    | some (.arr .pl _ _ _) => (match σ.frz i with
      | some σ' => frzAll r σ'
      | none => none)
    | _ => frzAll r σ
mutual
/-- The names of slices in a value. -/
def slN : SV → List Nat
  | .sl i _ _ _ => [i]
  | .agg xs => slNs xs
  | .any => []
  | .dat _ _ => []
  | .lz _ _ _ => []
  | .K _ => []
  | .nilS => []
  | .e0 => []
  | .ifc _ => []
  | .ptr _ _ => []
  | .ptrE _ _ _ _ => []
  | .pfz _ _ _ _ _ => []
  | .slD _ _ _ _ _ => []
  | .tup _ => []
  | .fn _ _ => []
def slNs : List SV → List Nat
  | [] => []
  | x :: xs => slN x ++ slNs xs
end
structure Cx where
  tab : TyTab
  sigs : List Sig
  win : Bool
  own : Bool
/-- Is a block of the call's own cut, and to be cut for good? -/
def winOp (C : Cx) (σ : SS) (op : Op) : Bool :=
  match op with
  | .slice _ x _ _ none => (match C.win with
    | true => (match σ.ev x with
      | .sl _ _ _ _ => true
      | _ => false)
    | false => false)
  | _ => false
def sPureC (C : Cx) (kp : Nat → Bool) (σ : SS) (m : Nat) (op : Op) : Option (List Nd × SV) :=
  match winOp C σ op with
  | true => none
  | false => sPure C.tab kp σ m op
def sEff (C : Cx) (ks : List Nat) (σ : SS) (m : Nat) (op : Op) : Option (List Nd × SV × SS) :=
  match op with
  | .alloc t => (match sAlloc C.tab ks σ t with
    | some (v, σ') => some ([], v, σ')
    | none => none)
  | .box t x => (match sBox ks σ (σ.ev x) with
    | some (v, σ') => some ([], v, σ')
    | none => none)
  | .buildSlice t n ⟨ps⟩ => sMkSlice C.tab ks σ m t n ps
  | .store t p x => (match sStore C.tab ks σ m t (σ.ev p) (σ.ev x) with
    | some (nds, σ') => some (nds, .any, σ')
    | none => (match sStoreO C.tab ks σ m t (σ.ev p) (σ.ev x) with
      | some (nds, σ') => some (nds, .any, σ')
      | none => (match sStoreS C.tab ks σ m t (σ.ev p) (σ.ev x) with
        | some (nds, σ') => some (nds, .any, σ')
        | none => none)))
  | .makeSlice t l c => (match sMake C.tab ks σ m t (σ.ev l) (σ.ev c) with
    | some r => some r
    | none => sMakeO C.tab ks σ m t (σ.ev l) (σ.ev c))
  | .slice t x lo hi none => sWin C.tab ks σ m t (σ.ev x) lo hi
  | .call ⟨.builtin .append, ⟨[x, y]⟩, ⟨[t, t']⟩⟩ => if Nat.beq t t' = true then (match sApp C.tab ks σ m t (σ.ev x) (σ.ev y) with
    | some r => some r
    | none => sAppO C.tab ks σ m t (σ.ev x) (σ.ev y)) else none
  | .call ⟨.value x, ⟨args⟩, _⟩ => (match σ.ev x with
    | .fn f caps => (match sCallF ks σ m f (evS σ args ++ caps) 0 C.sigs with
      | some r => some r
      | none => (match hosA σ (evS σ args ++ caps) with
        | [] => none
        | l => sCallH C.sigs ks x args l σ m))
    | _ => none)
  | _ => none
theorem sPureC_eq {C : Cx} {kp : Nat → Bool} {σ : SS} {m : Nat} {op : Op} {r : List Nd × SV} (h : sPureC C kp σ m op = some r) : sPure C.tab kp σ m op = some r := by
  unfold sPureC at h
  split at h
  · cases h
  · exact h
mutual
/-- Slices that a sign wants by value. -/
def wantZ : SV → SV → List Nat
  | .sl i _ _ _, .dat _ _ => [i]
  | .agg xs, .agg ys => wantZs xs ys
  | .fn _ xs, .fn _ ys => wantZs xs ys
  | _, _ => []
def wantZs : List SV → List SV → List Nat
  | x :: xs, y :: ys => wantZ x y ++ wantZs xs ys
  | _, _ => []
end
def sigFor (f : Nat) : List Sig → Option Sig
  | [] => none
  | s :: r => if Nat.beq s.fid f = true then some s else sigFor f r
/-- Which blocks must be frozen ahead of it, so that it goes. -/
def sPre (C : Cx) (σ : SS) (op : Op) (second : Bool) : List Nat :=
  match op with
  | .buildSlice t n ⟨ps⟩ => if C.own = true then [] else slNs ((partsS σ ps).map (·.2))
  | .store t p x => (match σ.ev p with
    | .ptrE _ _ _ _ => if C.own = true then [] else slN (σ.ev x)
    | _ => [])
  | .call ⟨.value x, ⟨args⟩, _⟩ => (match second with
    | true => (match σ.ev x with
      | .fn f caps => (match sigFor f C.sigs with
        | some s => wantZs (evS σ args ++ caps) s.args
        | none => [])
      | _ => [])
    | false => [])
  | _ => []
section
variable {P : Program} {E : En} {σ : SS} {o : Oper} {ks : List Nat} {C : Cx} {env : List D} {m : Nat} {nds : List Nd} {v : SV} {Φ : Fns}
theorem sEff_ok {σ' : SS} (htab : TabOk P C.tab) (hS : ∀ (j : Nat) (s : Sig), C.sigs[j]? = some s → SigOk P Φ j s) (hg : σ.Good env) (h : sEff C ks σ m o.op = some (nds, v, σ')) (hf : Facts Φ env m nds) : EffR P E ks o σ env v σ' := by
  generalize hop : o.op = op at h
  unfold sEff at h
  split at h
  · split at h
    · rename_i hh; cases h; exact sAlloc_ok htab hg hop hh
    · cases h
  · split at h
    · rename_i hh; cases h; exact sBox_ok hg hop hh
    · cases h
  · exact sMkSlice_ok htab hg hop h hf
  · split at h
    · rename_i hh; cases h; exact sStore_ok htab hg hop hh hf
    · split at h
      · rename_i hh; cases h; exact sStoreO_ok htab hg hop hh hf
      · split at h
        · rename_i hh; cases h; exact sStoreS_ok htab hg hop hh hf
        · cases h
  · split at h
    · rename_i hh; cases h; exact sMake_ok htab hg hop hh hf
    · exact sMakeO_ok htab hg hop h hf
  · exact sWin_ok htab hg hop h hf
  · split at h
    · rename_i ht
      obtain rfl := Nat.eq_of_beq_eq_true ht
      split at h
      · rename_i hh; cases h; exact sApp_ok htab hg hop hh hf
      · exact sAppO_ok htab hg hop h hf
    · cases h
  · split at h
    · rename_i f caps hx
      split at h
      · rename_i hh; cases h; exact (sCallF_ok hg hop hx (fun j s hj => by rw [Nat.zero_add]; exact hS j s hj) hh hf).r
      · split at h
        · cases h
        · exact (sCallH_ok hop hS hg h hf).r
    · cases h
  · cases h
end
end Go.BH

/- Regions, in letters. -/
set_option linter.unusedVariables false
set_option linter.unusedSimpArgs false
namespace Go.BH
open Go.RowKit
section
variable {env : List D} {i : Nat} {e : List CK} {a n : At}
mutual
theorem SV.frz_good (ha : okC (.sl e) (a.den env) = true) : ∀ {x : SV}, x.good env = true → (x.frz i e a n).good env = true
  | .any, _ => rfl
  | .dat k b, h => h
  | .lz q e' b, h => h
  | .K v, _ => rfl
  | .nilS, _ => rfl
  | .e0, _ => rfl
  | .ifc a, h => h
  | .ptr j o, _ => by
    simp only [SV.frz]
    split <;> rfl
  | .ptrE j ix s off, h => by
    simp only [SV.frz]
    split
    · split
      · simp only [SV.good, Bool.and_eq_true]
        exact ⟨ha, h⟩
      · rfl
    · exact h
  | .sl j lo k s, h => by
    simp only [SV.frz]
    split
    · split
      · exact ha
      · rfl
    · exact h
  | .pfz l e' b ix off, h => h
  | .slD j e' b ix c, h => h
  | .agg xs, h => SV.frzs_good ha h
  | .tup xs, h => SV.frzs_good ha h
  | .fn f xs, h => SV.frzs_good ha h
theorem SV.frzs_good (ha : okC (.sl e) (a.den env) = true) : ∀ {xs : List SV}, SV.goods env xs = true → SV.goods env (SV.frzs i e a n xs) = true
  | [], _ => rfl
  | x :: xs, h => by
    simp only [SV.goods, Bool.and_eq_true] at h
    simp only [SV.frzs, SV.goods, Bool.and_eq_true]
    exact ⟨SV.frz_good ha h.1, SV.frzs_good ha h.2⟩
end
theorem SS.frz_good {σ σ' : SS} {i : Nat} (hg : σ.Good env) (h : σ.frz i = some σ') : σ'.Good env := by
  obtain ⟨ln0, hln0⟩ := GK.ex
  have hok := (SS.frz_ok (E := ⟨⟨fun _ => none, fun _ => none, ln0⟩, default, fun _ => True, 0, 0, hln0, fun _ => True⟩) hg h).2
  unfold SS.frz at h
  split at h
  · rename_i e a n hh
    cases h
    have ha := (hg.A i _ e a n hh).1
    refine ⟨fun t => ?_, fun j xs hj => ?_, fun j w' e' a' k hj => ?_⟩
    · simp only [tkS_frz]
      exact SV.frz_good ha (hg.T t)
    · simp only [hgetS_frz] at hj
      obtain ⟨b, hb, e1⟩ := Option.map_eq_some_iff.1 hj
      cases b with
      | cells ys =>
        cases e1
        exact SV.frzs_good ha (hg.C j ys (hgetS_del hb))
      | arr => cases e1
    · simp only [hgetS_frz] at hj
      obtain ⟨b, hb, e1⟩ := Option.map_eq_some_iff.1 hj
      cases b with
      | cells ys => cases e1
      | arr =>
        cases e1
        exact hg.A j _ _ _ _ (hgetS_del hb)
  · cases h
theorem frzAll_ok {E : En} : ∀ {l : List Nat} {σ σ' : SS}, σ.Good env → frzAll l σ = some σ' → Gh E (σ.den env) (σ'.den env) ∧ σ'.Good env
  | [], σ, σ', hg, h => by
    cases h
    exact ⟨.refl _, hg⟩
  | i :: r, σ, σ', hg, h => by
    simp only [frzAll] at h
    split at h
    · split at h
      · rename_i σ1 h1
        obtain ⟨k1, k2⟩ := frzAll_ok (E := E) (SS.frz_good hg h1) h
        exact ⟨(SS.frz_ok hg h1).1.trans k1, k2⟩
      · cases h
    · exact frzAll_ok hg h
end
/-- One operation. -/
def sDo (C : Cx) (ks : List Nat) (σ : SS) (m : Nat) (op : Op) : Option (List Nd × SV × SS) :=
  match sPureC C (fun _ => true) σ m op with
  | some (nds, v) => some (nds, v, σ)
  | none => match (match frzAll (sPre C σ op false) σ with
      | some σ1 => sEff C ks σ1 m op
      | none => none) with
    | some r => some r
    | none => match frzAll (sPre C σ op true) σ with
      | some σ2 => sEff C ks σ2 m op
      | none => none
def isNilO : Operand → Bool
  | .const (.slice none 0 0) => true
  | _ => false
theorem isNilO_eq {y : Operand} (h : isNilO y = true) : y = .const (.slice none 0 0) := by
  unfold isNilO at h
  split at h
  · rfl
  · cases h
/-- Is a frozen slice compared with nil? Which list is it? -/
def sNil (C : Cx) (σ : SS) (op : Op) : Option At :=
  match op with
  | .binOp .eql t x y _ => if isNilO y = true then (match tyGet C.tab t with
    | some T => (match T.kind with
      | .slice _ => (match asSl (σ.ev x) with
        | some (_, _, a) => some a
        | none => none)
      | _ => none)
    | none => none) else none
  | _ => none
inductive GR where
  | go (b : Bool)
  | two (a : At) (t : Nat) (want : Bool)
/-- What becomes of an operation's guard. -/
def gd (ops : Array Oper) (o : Oper) (σ : SS) : Option GR :=
  match o.guard with
  | none => some (.go true)
  | some (j, want) => match (ops[j]?).bind (·.dst) with
    | none => none
    | some t => match tkS σ.T t with
      | .tup [] => some (.go false)
      | .dat .bool (.k (.b true)) => some (.go want)
      | .dat .bool (.k (.b false)) => some (.go !want)
      | .dat .bool a => some (.two a t want)
      | _ => none
def SS.know (σ : SS) (t : Nat) (b : Bool) : SS := ⟨(t, .dat .bool (.k (.b b))) :: σ.T, σ.H, σ.nx⟩
def St.know (σ : St) (t : Nat) (b : Bool) : St := ⟨(t, .v (.bool b)) :: σ.T, σ.H, σ.nx⟩
section
variable {P : Program} {E : En} {C : Cx} {Φ : Fns} {S : Kinds}
theorem OP.oxAny {σ : St} {o : Oper} {kp kp' : Nat → Bool} {v : AV} {R : AV → St → Prop} (h : OP P E kp o σ v) (hR : R v σ) : OX P E kp' o σ R := by
  have : OS P E kp' o σ v σ := fun μ a w hi => by
    obtain ⟨c, hv, hr⟩ := h μ a w hi
    exact ⟨c, w, μ, hr w (.refl _ _ _), hv, hi, .refl _ _ _⟩
  exact this.ox hR
theorem OX.post {σ σ' : St} {o : Oper} {kp : Nat → Bool} {v : AV} (h : OX P E kp o σ (fun r τ => r = v ∧ LeS σ' τ)) : OX P E kp o σ (fun r τ => r = v ∧ τ = σ') := fun μ a w hi K Q hK =>
  h μ a w hi K Q (fun r τ c μ' w' ⟨hr, hl⟩ hv hi' hs => hK r σ' c μ' w' ⟨hr, rfl⟩ hv (hi'.less hl) hs)
/-- What is shown of an operation, said of the state itself. -/
def EffE (P : Program) (E : En) (ks : List Nat) (o : Oper) (σ : SS) (env : List D) (v : SV) (σ' : SS) : Prop :=
  OX P E (kpOf ks) o (σ.den env) (fun r τ => r = v.den env ∧ τ = σ'.den env) ∧ SInv env σ'
theorem sDo_ok {σ σ' : SS} {o : Oper} {ks : List Nat} {env : List D} {m : Nat} {nds : List Nd} {v : SV} (htab : TabOk P C.tab) (hS : ∀ (j : Nat) (s : Sig), C.sigs[j]? = some s → SigOk P Φ j s) (hg : σ.Good env) (h : sDo C ks σ m o.op = some (nds, v, σ')) (hf : Facts Φ env m nds) : EffE P E ks o σ env v σ' := by
  have key : ∀ b, (match frzAll (sPre C σ o.op b) σ with
      | some σ1 => sEff C ks σ1 m o.op
      | none => none) = some (nds, v, σ') → EffE P E ks o σ env v σ' := fun b h => by
    split at h
    · rename_i σ1 h1
      obtain ⟨k1, k2⟩ := frzAll_ok (E := E) hg h1
      obtain ⟨g1, g2⟩ := sEff_ok (P := P) (E := E) (o := o) htab hS k2 h hf
      exact ⟨OX.gh k1 g1.post, g2⟩
    · cases h
  unfold sDo at h
  split at h
  · rename_i nds' v' hp
    cases h
    exact ⟨(sPure_ok (P := P) (E := E) (o := o) htab hg (sPureC_eq hp) hf).oxAny ⟨rfl, rfl⟩, fun i w e a n hh => (hg.A i w e a n hh).2⟩
  · split at h
    · rename_i r hr
      cases h
      exact key false hr
    · exact key true h
theorem sNil_ok {σ : SS} {o : Oper} {ks : List Nat} {env : List D} {a : At} {R : AV → St → Prop} (htab : TabOk P C.tab) (hg : σ.Good env) (h : sNil C σ o.op = some a) (hf : R (.v (.bool false)) (σ.den env)) (ht : (a.den env).isE = true → R (.v (.bool true)) (σ.den env)) : OX P E (kpOf ks) o (σ.den env) R := by
  unfold sNil at h
  split at h
  · rename_i t x y t' hop
    split at h
    · rename_i hy
      obtain rfl := isNilO_eq hy
      split at h
      · rename_i T hT
        split at h
        · rename_i e hk
          split at h
          · rename_i l e' a' ha
            cases h
            obtain ⟨d, i, z, t1, t2, t3, t4, t5, t6, t7, t8⟩ := tyGet_ok htab hT
            rw [hk] at t7
            rw [kindD_slice t7.symm] at t1
            obtain ⟨xs, h1, h2, h3⟩ := asSl_den ha (ev_good hg x)
            refine OX.nilB hop t1 ((SS.ev_den env σ x).trans h3) hf (fun h0 => ht ?_)
            cases xs with
            | nil => rw [h1]; rfl
            | cons => cases h0
          · cases h
        · cases h
      · cases h
    · cases h
  · cases h
theorem INV.know {μ : Mu} {σ : St} {a : Act} {w : World} (h : INV E μ σ a w) {t : Nat} {g : Bool} (ht : tk σ.T t = .v (.bool g)) : INV E μ (σ.know t g) a w := { h with
  tmps := fun s => by
    simp only [St.know, tk]
    cases e : Nat.beq t s with
    | true =>
      have := Nat.eq_of_beq_eq_true e
      subst this
      simp only [↓reduceIte]
      rw [← ht]
      exact h.tmps t
    | false => exact h.tmps s }
theorem SS.know_den {env : List D} (σ : SS) (t : Nat) (b : Bool) : (σ.know t b).den env = (σ.den env).know t b := by
  simp only [SS.know, SS.den, St.know, denT]
  rw [show (SV.dat .bool (.k (.b b))).den env = .v (.bool b) from encC_bool b]
theorem gd_go {ops : Array Oper} {o : Oper} {σ : SS} {env : List D} {b : Bool} (h : gd ops o σ = some (.go b)) : wantsB ops o (σ.den env) b := by
  unfold gd at h
  unfold wantsB
  split at h
  · rename_i hg
    rw [hg]
    cases h
    rfl
  · rename_i j want hg
    rw [hg]
    split at h
    · cases h
    · rename_i t ht
      obtain ⟨oj, h1, h2⟩ := Option.bind_eq_some_iff.1 ht
      refine ⟨oj, t, h1, h2, ?_⟩
      have hd := tk_denT env t σ.T
      split at h
      · rename_i e
        cases h
        rw [e] at hd
        exact .inr ⟨hd, rfl⟩
      · rename_i e
        cases h
        rw [e] at hd
        exact .inl ⟨true, hd.trans (encC_bool true), by cases b <;> rfl⟩
      · rename_i e
        cases h
        rw [e] at hd
        exact .inl ⟨false, hd.trans (encC_bool false), by cases want <;> rfl⟩
      · cases h
      · cases h
theorem gd_two {ops : Array Oper} {o : Oper} {σ : SS} {a : At} {t : Nat} {want : Bool} (h : gd ops o σ = some (.two a t want)) : tkS σ.T t = .dat .bool a := by
  unfold gd at h
  split at h
  · cases h
  · split at h
    · cases h
    · split at h
      · cases h
      · cases h
      · cases h
      · rename_i e
        cases h
        exact e
      · cases h
/-- The tree that K makes of a state leaves with out; then N holds. -/
def Ext (env0 env : List D) : Prop := ∃ ds, env = env0 ++ ds
theorem Ext.refl (env : List D) : Ext env env := ⟨[], by simp⟩
theorem Ext.add {a b : List D} (h : Ext a b) (ds : List D) : Ext a (b ++ ds) := by
  obtain ⟨es, rfl⟩ := h
  exact ⟨es ++ ds, by simp⟩
def KS (Φ : Fns) (k : Nat) (env0 : List D) (K : SS → List CK → Option Tr) (N : St → Prop) (out : Nat × List D) : Prop := ∀ σ G t env, Ext env0 env → K σ G = some t → okZ G env = true → SInv env σ → t.den Φ k env = some out → N (σ.den env)
/-- A region in its order. -/
def sxOps (C : Cx) (S : Kinds) (n : Nat) (ops : Array Oper) : List Oper → SS → List CK → (SS → List CK → Option Tr) → Option Tr
  | [], σ, G, K => K σ G
  | o :: r, σ, G, K =>
    if okD n o.dst = true then
      let skip := fun (σ : SS) => sxOps C S n ops r (σ.put o.dst (.tup [])) G K
      let run := fun (σ : SS) => if σ.wt G = true then (match sDo C [] σ G.length o.op with
        | some (nds, v, σ') => if chkN S G nds = true then (match sxOps C S n ops r (σ'.put o.dst v) (G ++ tysOf nds) K with
          | some t => some (ndsT nds t)
          | none => none) else none
        | none => (match sNil C σ o.op with
          | some a => (match sxOps C S n ops r (σ.put o.dst (.dat .bool (.k (.b true)))) G K, sxOps C S n ops r (σ.put o.dst (.dat .bool (.k (.b false)))) G K with
            | some x, some y => some (.both a x y)
            | _, _ => none)
          | none => none)) else none
      match gd ops o σ with
      | some (.go true) => run σ
      | some (.go false) => skip σ
      | some (.two a t want) => if tyA G a .bool = true then
          (match (match want with
            | true => run (σ.know t true)
            | false => skip (σ.know t true)), (match want with
            | true => skip (σ.know t false)
            | false => run (σ.know t false)) with
          | some x, some y => some (.ite a x y)
          | _, _ => none) else none
      | none => none
    else none
theorem SInv.put {env : List D} {σ : SS} (h : SInv env σ) (d : Option Tmp) (v : SV) : SInv env (σ.put d v) := by
  cases d <;> exact h
theorem sinv_ext {G : List CK} {env : List D} (hz : okZ G env = true) {σ : SS} (hw : σ.wt G = true) (hi : SInv env σ) (ds : List D) : SInv (env ++ ds) σ := fun i w e a n hh => ((SS.wt_good hz hw hi ds).2.A i w e a n hh).2
theorem wants_know {ops : Array Oper} {o : Oper} {σ : SS} {a : At} {t : Nat} {want : Bool} {env : List D} (h : gd ops o σ = some (.two a t want)) (g : Bool) : wantsB ops o ((σ.know t g).den env) (g == want) := by
  have ht := gd_two h
  unfold gd at h
  unfold wantsB
  split at h
  · cases h
  · rename_i j want' hg
    rw [hg]
    split at h
    · cases h
    · rename_i t' ht'
      split at h
      all_goals first | (cases h; done) | skip
      cases h
      obtain ⟨oj, h1, h2⟩ := Option.bind_eq_some_iff.1 ht'
      refine ⟨oj, t, h1, h2, .inl ⟨g, ?_, rfl⟩⟩
      rw [SS.know_den]
      simp [St.know, tk]
/-- One operation of a region, and the rest. -/
theorem run_ok {k : Nat} {ops : Array Oper} {o : Oper} {r : List Oper} {σ σ' : SS} {G : List CK} {env : List D} {nds : List Nd} {v : SV} {t : Tr} {N : St → Prop} {out : Nat × List D} (htab : TabOk P C.tab) (hS : ∀ (j : Nat) (s : Sig), C.sigs[j]? = some s → SigOk P Φ j s) (hF : FnsOk S Φ) (hd : okD E.n o.dst = true) (hz : okZ G env = true) (hi : SInv env σ)
    (hwt : σ.wt G = true) (hdo : sDo C [] σ G.length o.op = some (nds, v, σ')) (hc : chkN S G nds = true) (hden : (ndsT nds t).den Φ k env = some out) (hw : wantsB ops o (σ.den env) true)
    (rest : ∀ env', Ext env env' → okZ (G ++ tysOf nds) env' = true → SInv env' (σ'.put o.dst v) → t.den Φ k env' = some out → OT P E ops r N ((σ'.put o.dst v).den env')) : OT P E ops (o :: r) N (σ.den env) := by
  obtain ⟨env', hr, ht⟩ := den_ndsT hden
  obtain ⟨k1, k2, ds, rfl⟩ := runNds_facts hF hc hz hr
  obtain ⟨e1, hg⟩ := SS.wt_good hz hwt hi ds
  obtain ⟨h1, h2⟩ := sDo_ok (P := P) (E := E) (o := o) htab hS hg hdo k2
  rw [← e1] at hw ⊢
  refine OT.step hw hd (h1.mono (fun w τ ⟨hw', hτ⟩ => ?_))
  subst hw'
  subst hτ
  rw [← SS.put_den]
  exact rest _ ⟨ds, rfl⟩ k1 (h2.put _ _) ht
theorem OT.know {ops : Array Oper} {N : St → Prop} {l : List Oper} {σ : St} {t : Nat} {g : Bool} (ht : tk σ.T t = .v (.bool g)) (h : OT P E ops l N (σ.know t g)) : OT P E ops l N σ := fun Q N' hq μ a w hi => h Q N' hq μ a w (hi.know ht)
theorem sxOps_ok {k n : Nat} {ops : Array Oper} (hn : n = E.n) (htab : TabOk P C.tab) (hS : ∀ (j : Nat) (s : Sig), C.sigs[j]? = some s → SigOk P Φ j s) (hF : FnsOk S Φ) {K : SS → List CK → Option Tr} {N : St → Prop} {out : Nat × List D} {env0 : List D} (hK : KS Φ k env0 K N out) :
    ∀ {l : List Oper} {σ : SS} {G : List CK} {env : List D} {t : Tr}, sxOps C S n ops l σ G K = some t → Ext env0 env → okZ G env = true → SInv env σ → t.den Φ k env = some out → OT P E ops l N (σ.den env)
  | [], σ, G, env, t, h, hx, hz, hi, hden => .nil (hK σ G t env hx h hz hi hden)
  | o :: r, σ, G, env, t, h, hex, hz, hi, hden => by
    simp only [sxOps] at h
    split at h
    · rename_i hd
      rw [hn] at hd
      have skip : ∀ {σ : SS} {t : Tr}, sxOps C S n ops r (σ.put o.dst (.tup [])) G K = some t → SInv env σ → t.den Φ k env = some out → wantsB ops o (σ.den env) false → OT P E ops (o :: r) N (σ.den env) := fun {σ t} h hi hden hw => by
        have := sxOps_ok hn htab hS hF hK h hex hz (hi.put _ _) hden
        rw [SS.put_den] at this
        exact OT.no hw hd this
      have run : ∀ {σ : SS} {t : Tr}, (if σ.wt G = true then (match sDo C [] σ G.length o.op with
        | some (nds, v, σ') => if chkN S G nds = true then (match sxOps C S n ops r (σ'.put o.dst v) (G ++ tysOf nds) K with
          | some t => some (ndsT nds t)
          | none => none) else none
        | none => (match sNil C σ o.op with
          | some a => (match sxOps C S n ops r (σ.put o.dst (.dat .bool (.k (.b true)))) G K, sxOps C S n ops r (σ.put o.dst (.dat .bool (.k (.b false)))) G K with
            | some x, some y => some (.both a x y)
            | _, _ => none)
          | none => none)) else none) = some t → SInv env σ → t.den Φ k env = some out → wantsB ops o (σ.den env) true → OT P E ops (o :: r) N (σ.den env) := fun {σ t} h hi hden hw => by
        split at h
        · rename_i hwt
          split at h
          · rename_i nds v σ' hdo
            split at h
            · rename_i hc
              split at h
              · rename_i t' ht'
                cases h
                exact run_ok htab hS hF hd hz hi hwt hdo hc hden hw (fun env' ⟨ds, e⟩ k1 k2 k3 => sxOps_ok hn htab hS hF hK ht' (e ▸ hex.add ds) k1 k2 k3)
              · cases h
            · cases h
          · split at h
            · rename_i a hnil
              split at h
              · rename_i x y hx' hy'
                cases h
                obtain ⟨e1, hg⟩ := SS.wt_good hz hwt hi []
                rw [List.append_nil] at hg
                have go : ∀ (b : Bool) {q : Tr}, sxOps C S n ops r (σ.put o.dst (.dat .bool (.k (.b b)))) G K = some q → q.den Φ k env = some out → OT P E ops r N ((σ.den env).put o.dst (.v (.bool b))) := fun b q hq hd' => by
                  have := sxOps_ok hn htab hS hF hK hq hex hz (hi.put _ _) hd'
                  rw [SS.put_den, show (SV.dat .bool (.k (.b b))).den env = .v (.bool b) from encC_bool b] at this
                  exact this
                simp only [Tr.den] at hden
                refine OT.step hw hd (sNil_ok (ks := []) htab hg hnil (go false hy' ?_) (fun he => go true hx' ?_))
                · split at hden
                  · exact (agree_some hden).2
                  · exact hden
                · rw [if_pos he] at hden
                  exact (agree_some hden).1
              · cases h
            · cases h
        · cases h
      split at h
      · rename_i hgd
        exact run h hi hden (gd_go hgd)
      · rename_i hgd
        exact skip h hi hden (gd_go hgd)
      · rename_i a tt want hgd
        split at h
        · rename_i hta
          split at h
          · rename_i x y hx hy
            cases h
            obtain ⟨g, hg⟩ := okC_bool (tyA_ok hz hta)
            have ht : tk (σ.den env).T tt = .v (.bool g) := by
              have := tk_denT env tt σ.T
              rw [gd_two hgd, SV.den, hg, encC_bool] at this
              exact this
            simp only [Tr.den, hg] at hden
            refine OT.know ht ?_
            rw [← SS.know_den]
            have hi' : ∀ b, SInv env (σ.know tt b) := fun b => hi
            cases g with
            | true =>
              have hw := wants_know (env := env) hgd true
              cases want with
              | true => exact run hx (hi' _) hden hw
              | false => exact skip hx (hi' _) hden hw
            | false =>
              have hw := wants_know (env := env) hgd false
              cases want with
              | true => exact skip hy (hi' _) hden hw
              | false => exact run hy (hi' _) hden hw
          · cases h
        · cases h
      · cases h
    · cases h
end
end Go.BH

/- Regions in a drawn order, in letters. -/
set_option linter.unusedVariables false
set_option linter.unusedSimpArgs false
namespace Go.BH
open Go.RowKit
def canTake (C : Cx) (ks : List Nat) (ops : Array Oper) (listed : Array Bool) (σ : SS) (m : Nat) (i : Nat) : Bool :=
  Region.free .any ops listed i && (match ops[i]? with
    | some o => (match gd ops o σ with
      | some (.go true) => (match sPureC C (kpOf ks) σ m o.op with
        | some _ => true
        | none => false)
      | some (.go false) => true
      | some (.two _ _ _) => true
      | none => false)
    | none => false)
def findN (p : Nat → Bool) : List Nat → Option Nat
  | [] => none
  | i :: r => if p i = true then some i else findN p r
/-! ### the same, but for the order of its first nodes -/
def At.rn (θ : List Nat) : At → At
  | .v i => .v ((θ[i]?).getD i)
  | .k d => .k d
def At.lt (m : Nat) : At → Bool
  | .v i => Nat.blt i m
  | .k _ => true
def Nd.rn (θ : List Nat) : Nd → Nd
  | .pr p xs => .pr p (xs.map (At.rn θ))
  | .call f xs ps tys => .call f (xs.map (At.rn θ)) ps tys
def Nd.lt (m : Nat) : Nd → Bool
  | .pr p xs => xs.all (At.lt m)
  | .call f xs ps tys => xs.all (At.lt m)
def Tr.rn (θ : List Nat) : Tr → Tr
  | .out e xs => .out e (xs.map (At.rn θ))
  | .nd n t => .nd (n.rn θ) (Tr.rn θ t)
  | .ite a t f => .ite (a.rn θ) (Tr.rn θ t) (Tr.rn θ f)
  | .seq ps a b => .seq ps (Tr.rn θ a) (Tr.rn θ b)
  | .loop ps xs b => .loop ps (xs.map (At.rn θ)) (Tr.rn θ b)
  | .blk e ps a b => .blk e ps (Tr.rn θ a) (Tr.rn θ b)
  | .both a t f => .both (a.rn θ) (Tr.rn θ t) (Tr.rn θ f)
def posNd : List Nd → Nat → Nd → Option Nat
  | [], _, _ => none
  | n :: r, m, x => if Nd.beq n x = true then some m else posNd r (m + n.tys.length) x
def rnNds (nds : List Nd) (m : Nat) : List Nd → List Nat → Option (List Nat)
  | [], θ => some θ
  | x :: r, θ => if x.lt θ.length = true then (match posNd nds m (x.rn θ) with
    | some q => rnNds nds m r (θ ++ List.range' q x.tys.length)
    | none => none) else none
def splitT : Tr → List Nd × Tr
  | .nd n t => (n :: (splitT t).1, (splitT t).2)
  | t => ([], t)
def sameT (S : Kinds) (G : List CK) (t t' : Tr) : Bool := Tr.beq t' t || (chkN S G (splitT t).1 && Nat.beq (tysOf (splitT t').1).length (tysOf (splitT t).1).length && (match rnNds (splitT t).1 G.length (splitT t').1 (List.range G.length) with
  | some θ => Tr.beq ((splitT t').2.rn θ) (splitT t).2
  | none => false))
def allSame (S : Kinds) (G : List CK) (t : Tr) : List (Option Tr) → Bool
  | [] => true
  | some t' :: r => sameT S G t t' && allSame S G t r
  | none :: _ => false
/-- e' is e with its first letters in another order. -/
def Rn (θ : List Nat) (e' e : List D) : Prop := ∃ b' b ds, e' = b' ++ ds ∧ e = b ++ ds ∧ b'.length = θ.length ∧ b.length = θ.length ∧ ∀ (i j : Nat), θ[i]? = some j → j < θ.length ∧ b'[i]? = b[j]?
theorem Rn.add {θ : List Nat} {e' e : List D} (h : Rn θ e' e) (ds : List D) : Rn θ (e' ++ ds) (e ++ ds) := by
  obtain ⟨b', b, es, rfl, rfl, h1, h2, h3⟩ := h
  exact ⟨b', b, es ++ ds, by simp, by simp, h1, h2, h3⟩
theorem Rn.at {θ : List Nat} {e' e : List D} (h : Rn θ e' e) (a : At) : (a.rn θ).den e = a.den e' := by
  obtain ⟨b', b, es, rfl, rfl, h1, h2, h3⟩ := h
  cases a with
  | k d => rfl
  | v i =>
    simp only [At.rn, At.den]
    congr 1
    cases e : θ[i]? with
    | none =>
      have : θ.length ≤ i := List.getElem?_eq_none_iff.1 e
      simp only [Option.getD_none]
      rw [List.getElem?_append_right (by omega), List.getElem?_append_right (by omega), h1, h2]
    | some j =>
      obtain ⟨k1, k2⟩ := h3 i j e
      have : i < θ.length := (List.getElem?_eq_some_iff.1 e).1
      simp only [Option.getD_some]
      rw [List.getElem?_append_left (by omega), List.getElem?_append_left (by omega), k2]
theorem Rn.ats {θ : List Nat} {e' e : List D} (h : Rn θ e' e) (xs : List At) : (xs.map (At.rn θ)).map (At.den e) = xs.map (At.den e') := by
  rw [List.map_map]
  exact List.map_congr_left (fun a _ => h.at a)
theorem Rn.nd {Φ : Fns} {θ : List Nat} {e' e : List D} (h : Rn θ e' e) (n : Nd) : runNd Φ (n.rn θ) e = runNd Φ n e' := by
  cases n with
  | pr p xs => simp only [Nd.rn, runNd, h.ats]
  | call f xs ps tys => simp only [Nd.rn, runNd, h.ats]
theorem Rn.den {Φ : Fns} {k : Nat} {θ : List Nat} : ∀ {t : Tr} {e' e : List D}, Rn θ e' e → (t.rn θ).den Φ k e = t.den Φ k e'
  | .out n xs, e', e, h => by simp only [Tr.rn, Tr.den, h.ats]
  | .nd n t, e', e, h => by
    simp only [Tr.rn, Tr.den, h.nd]
    cases runNd Φ n e' with
    | none => rfl
    | some ds => exact Rn.den (h.add ds)
  | .ite a t f, e', e, h => by
    simp only [Tr.rn, Tr.den, h.at, Rn.den (t := t) h, Rn.den (t := f) h]
  | .seq ps a b, e', e, h => by
    have hb := fun vs => Rn.den (Φ := Φ) (k := k) (t := b) (h.add vs)
    simp only [Tr.rn, Tr.den, Rn.den (t := a) h, hb]
  | .loop ps xs b, e', e, h => by
    have hb := fun vs => Rn.den (Φ := Φ) (k := k) (t := b) (h.add vs)
    simp only [Tr.rn, Tr.den, h.ats, hb]
  | .blk n ps a b, e', e, h => by
    have hb := fun vs => Rn.den (Φ := Φ) (k := k) (t := b) (h.add vs)
    simp only [Tr.rn, Tr.den, Rn.den (t := a) h, hb]
  | .both a t f, e', e, h => by
    simp only [Tr.rn, Tr.den, h.at, Rn.den (t := t) h, Rn.den (t := f) h]
theorem splitT_eq : ∀ t : Tr, ndsT (splitT t).1 (splitT t).2 = t
  | .nd n t => by
    simp only [splitT, ndsT]
    rw [splitT_eq t]
  | .out .. => rfl
  | .ite .. => rfl
  | .seq .. => rfl
  | .loop .. => rfl
  | .blk .. => rfl
  | .both .. => rfl
theorem den_ndsT_mk {Φ : Fns} {k : Nat} {t : Tr} : ∀ {nds : List Nd} {env env' : List D}, runNds Φ nds env = some env' → (ndsT nds t).den Φ k env = t.den Φ k env'
  | [], env, env', h => by
    obtain rfl := Option.some.inj h
    rfl
  | n :: r, env, env', h => by
    simp only [runNds] at h
    simp only [ndsT, Tr.den]
    cases hn : runNd Φ n env with
    | none => rw [hn] at h; cases h
    | some ds =>
      rw [hn] at h
      exact den_ndsT_mk h
/-- What a node of a list gives, found at its place. -/
theorem posNd_ok {Φ : Fns} {env : List D} {x : Nd} {q : Nat} : ∀ {nds : List Nd} {m : Nat}, posNd nds m x = some q → Facts Φ env m nds → q + x.tys.length ≤ m + (tysOf nds).length ∧ runNd Φ x env = some ((List.range' q x.tys.length).map fun i => (At.v i).den env)
  | [], m, h, _ => by cases h
  | n :: r, m, h, hf => by
    simp only [posNd] at h
    split at h
    · rename_i e
      obtain rfl := Nd.beq_eq e
      cases h
      refine ⟨by simp only [tysOf, List.length_append]; omega, ?_⟩
      cases n with
      | pr p xs =>
        have := hf.1.1
        simp only [runNd, this, Nd.tys, List.length_singleton]
        rfl
      | call f xs ps tys =>
        obtain ⟨⟨_, rs, h1, h2, h3⟩, _⟩ := hf
        simp only [runNd, h1, Nd.tys]
        congr 1
        have hl := okZ_length h2
        apply List.ext_getElem?
        intro j
        rw [List.getElem?_map]
        rcases Nat.lt_or_ge j rs.length with g | g
        · rw [List.getElem?_range' (by omega), List.getElem?_eq_getElem g]
          simp only [Option.map_some, Nat.one_mul]
          rw [h3 j rs[j] (List.getElem?_eq_getElem g)]
        · rw [List.getElem?_eq_none g, List.getElem?_eq_none (by simp; omega)]
          rfl
    · have hr : Facts Φ env (m + n.tys.length) r := by
        cases n with
        | pr p xs => exact hf.2
        | call f xs ps tys => exact hf.2
      obtain ⟨h2, h3⟩ := posNd_ok h hr
      refine ⟨by simp only [tysOf, List.length_append]; omega, h3⟩
theorem rnNd_at {Φ : Fns} {env1 : List D} {θ : List Nat} {x : Nd} (h : x.lt θ.length = true) : runNd Φ (x.rn θ) env1 = runNd Φ x (θ.map fun i => (At.v i).den env1) := by
  have key : ∀ xs : List At, xs.all (At.lt θ.length) = true → (xs.map (At.rn θ)).map (At.den env1) = xs.map (At.den (θ.map fun i => (At.v i).den env1)) := fun xs hx => by
    rw [List.map_map]
    refine List.map_congr_left (fun a ha => ?_)
    have := List.all_eq_true.1 hx a ha
    cases a with
    | k d => rfl
    | v i =>
      simp only [At.lt] at this
      have hi : i < θ.length := Nat.le_of_ble_eq_true this
      simp [At.rn, At.den, hi]
  cases x with
  | pr p xs => simp only [Nd.rn, runNd, key xs h]
  | call f xs ps tys => simp only [Nd.rn, runNd, key xs h]
theorem rnNds_ok {Φ : Fns} {env1 : List D} {nds : List Nd} {m : Nat} (hf : Facts Φ env1 m nds) (hl : env1.length = m + (tysOf nds).length) : ∀ {nds' : List Nd} {θ θ' : List Nat}, rnNds nds m nds' θ = some θ' → (∀ j ∈ θ, j < env1.length) → runNds Φ nds' (θ.map fun i => (At.v i).den env1) = some (θ'.map fun i => (At.v i).den env1) ∧ (∀ j ∈ θ', j < env1.length) ∧ θ'.length = θ.length + (tysOf nds').length
  | [], θ, θ', h, hj => by
    cases h
    exact ⟨rfl, hj, by simp [tysOf]⟩
  | x :: r, θ, θ', h, hj => by
    simp only [rnNds] at h
    split at h
    · rename_i hlt
      split at h
      · rename_i q hq
        obtain ⟨h2, h3⟩ := posNd_ok hq hf
        have hxl : (x.rn θ).tys = x.tys := by cases x <;> rfl
        rw [hxl] at h2 h3
        rw [rnNd_at hlt] at h3
        obtain ⟨k1, k2, k3⟩ := rnNds_ok hf hl h (fun j hj' => by
          rcases List.mem_append.1 hj' with g | g
          · exact hj j g
          · have := List.mem_range'_1.1 g
            omega)
        refine ⟨?_, k2, ?_⟩
        · simp only [runNds, h3]
          rw [← k1, List.map_append]
        · rw [k3]
          simp only [tysOf, List.length_append, List.length_range']
          omega
      · cases h
    · cases h
theorem sameT_den {Φ : Fns} {S : Kinds} {G : List CK} {t t' : Tr} {k : Nat} {env : List D} {out : Nat × List D} (hF : FnsOk S Φ) (hz : okZ G env = true) (h : sameT S G t t' = true) (hd : t.den Φ k env = some out) : t'.den Φ k env = some out := by
  unfold sameT at h
  rw [Bool.or_eq_true] at h
  rcases h with h | h
  · rw [Tr.beq_eq h]
    exact hd
  · simp only [Bool.and_eq_true] at h
    obtain ⟨⟨h1, h2⟩, h3⟩ := h
    split at h3
    · rename_i θ hθ
      rw [← splitT_eq t] at hd
      obtain ⟨env1, hr, hd1⟩ := den_ndsT hd
      obtain ⟨k1, k2, ds, rfl⟩ := runNds_facts hF h1 hz hr
      have hlen : (env ++ ds).length = G.length + (tysOf (splitT t).1).length := by
        rw [← okZ_len k1, List.length_append]
      have hG := okZ_len hz
      obtain ⟨g1, g2, g3⟩ := rnNds_ok k2 hlen hθ (fun j hj => by
        have := List.mem_range.1 hj
        rw [List.length_append]
        omega)
      have e0 : (List.range G.length).map (fun i => (At.v i).den (env ++ ds)) = env := by
        rw [hG]
        apply List.ext_getElem?
        intro j
        rw [List.getElem?_map]
        rcases Nat.lt_or_ge j env.length with g | g
        · rw [List.getElem?_range g]
          simp [At.den, List.getElem?_append_left g, g]
        · rw [List.getElem?_eq_none g, List.getElem?_eq_none (by simp; omega)]
          rfl
      rw [e0] at g1
      have g4 : θ.length = (env ++ ds).length := by
        rw [g3, hlen, List.length_range, Nat.eq_of_beq_eq_true h2]
      have hrn : Rn θ (θ.map fun i => (At.v i).den (env ++ ds)) (env ++ ds) := by
        refine ⟨θ.map fun i => (At.v i).den (env ++ ds), env ++ ds, [], (List.append_nil _).symm, (List.append_nil _).symm, List.length_map _, g4.symm, fun i j hij => ?_⟩
        have hj := g2 j (List.mem_of_getElem? hij)
        refine ⟨by omega, ?_⟩
        rw [List.getElem?_map, hij]
        simp only [Option.map_some, At.den]
        rw [List.getElem?_eq_getElem hj]
        rfl
      rw [← splitT_eq t', den_ndsT_mk g1, ← hrn.den, Tr.beq_eq h3]
      exact hd1
    · cases h3
/-- A region in whatever order: those that only reckon are taken first; then all that may come next are tried. -/
def sxDraw (C : Cx) (S : Kinds) (n : Nat) (ks : List Nat) (ops : Array Oper) : Nat → Nat → Array Bool → SS → List CK → (SS → List CK → Option Tr) → Option Tr
  | 0, _, _, _, _, _ => none
  | gas + 1, fuel, listed, σ, G, K =>
    match Region.ready .any ops listed with
    | [] => K σ G
    | r0 :: rs => match fuel with
      | 0 => none
      | fuel' + 1 => match findN (canTake C ks ops listed σ G.length) (r0 :: rs) with
        | some i => (match ops[i]? with
          | some o => if (okD n o.dst && σ.wt G) = true then (match gd ops o σ with
            | some (.go true) => (match sPureC C (kpOf ks) σ G.length o.op with
              | some (nds, v) => if chkN S G nds = true then (match sxDraw C S n ks ops gas fuel' (listed.setIfInBounds i true) (σ.put o.dst v) (G ++ tysOf nds) K with
                | some t => some (ndsT nds t)
                | none => none) else none
              | none => none)
            | some (.go false) => sxDraw C S n ks ops gas fuel' (listed.setIfInBounds i true) (σ.put o.dst (.tup [])) G K
            | some (.two a t want) => if tyA G a .bool = true then (match sxDraw C S n ks ops gas (fuel' + 1) listed (σ.know t true) G K, sxDraw C S n ks ops gas (fuel' + 1) listed (σ.know t false) G K with
              | some x, some y => some (.ite a x y)
              | _, _ => none) else none
            | none => none) else none
          | none => none)
        | none =>
          let one := fun (i : Nat) => match ops[i]? with
            | some o => if (okD n o.dst && σ.wt G) = true then (match gd ops o σ with
              | some (.go true) => (match sDo C ks σ G.length o.op with
                | some (nds, v, σ') => if chkN S G nds = true then (match sxDraw C S n ks ops gas fuel' (listed.setIfInBounds i true) (σ'.put o.dst v) (G ++ tysOf nds) K with
                  | some t => some (ndsT nds t)
                  | none => none) else none
                | none => none)
              | some (.go false) => sxDraw C S n ks ops gas fuel' (listed.setIfInBounds i true) (σ.put o.dst (.tup [])) G K
              | _ => none) else none
            | none => none
          match one r0 with
          | some t => if allSame S G t (rs.map one) = true then some t else none
          | none => none
section
variable {P : Program} {E : En} {C : Cx} {Φ : Fns} {S : Kinds}
theorem OD.all {ops : Array Oper} {kp : Nat → Bool} {N : St → Prop} {fuel : Nat} {listed : Array Bool} {σ : St} {rs : List Nat} (hr : Region.ready .any ops listed = rs) (hne : rs ≠ [])
    (h : ∀ i ∈ rs, ∃ oi, ops[i]? = some oi ∧ okD E.n oi.dst = true ∧ ((wantsB ops oi σ true ∧ OX P E kp oi σ (fun v σ' => OD P E ops kp N fuel (listed.setIfInBounds i true) (σ'.put oi.dst v))) ∨ (wantsB ops oi σ false ∧ OD P E ops kp N fuel (listed.setIfInBounds i true) (σ.put oi.dst (.tup []))))) : OD P E ops kp N (fuel + 1) listed σ := fun μ a w hI => by
  refine wpAnyH_all hr hne (fun i hi => ?_)
  obtain ⟨oi, ho, hd, ⟨hw, hx⟩ | ⟨hw, hx⟩⟩ := h i hi
  · unfold wpOp
    simp only [ho, wanted_of hI hw, if_true]
    refine .inl (hx μ a w hI _ _ (fun v σ' c μ' w' k hv hi' hs => ⟨hs.sm, ?_⟩))
    exact wpAnyH_mono (fun w'' hw'' => hs.trans hw'') _ _ _ _ (k μ' _ w' (hi'.put hd hv))
  · unfold wpOp
    simp only [ho, wanted_of hI hw, Bool.false_eq_true, if_false]
    exact ⟨.refl _ _ _, hx μ _ w (hI.put hd (.tup .nil))⟩
theorem OD.know {ops : Array Oper} {kp : Nat → Bool} {N : St → Prop} {fuel : Nat} {listed : Array Bool} {σ : St} {t : Nat} {g : Bool} (ht : tk σ.T t = .v (.bool g)) (h : OD P E ops kp N fuel listed (σ.know t g)) : OD P E ops kp N fuel listed σ := fun μ a w hi => h μ a w (hi.know ht)
theorem findN_spec {p : Nat → Bool} : ∀ {l : List Nat} {i : Nat}, findN p l = some i → i ∈ l ∧ p i = true
  | [], i, h => by cases h
  | j :: r, i, h => by
    simp only [findN] at h
    split at h
    · rename_i hp
      cases h
      exact ⟨List.mem_cons_self, hp⟩
    · obtain ⟨h1, h2⟩ := findN_spec h
      exact ⟨List.mem_cons_of_mem _ h1, h2⟩
theorem allSame_spec {S : Kinds} {G : List CK} {t : Tr} : ∀ {l : List (Option Tr)}, allSame S G t l = true → ∀ x ∈ l, ∃ t', x = some t' ∧ sameT S G t t' = true
  | [], _, x, hx => by cases hx
  | some t' :: r, h, x, hx => by
    simp only [allSame, Bool.and_eq_true] at h
    rcases List.mem_cons.1 hx with rfl | hx
    · exact ⟨t', rfl, h.1⟩
    · exact allSame_spec h.2 x hx
  | none :: r, h, x, hx => by cases h
theorem sxDraw_ok {k n : Nat} {ks : List Nat} {ops : Array Oper} (hns : Region.noSelect ops = true) (hn : n = E.n) (htab : TabOk P C.tab) (hS : ∀ (j : Nat) (s : Sig), C.sigs[j]? = some s → SigOk P Φ j s) (hF : FnsOk S Φ) {K : SS → List CK → Option Tr} {N : St → Prop} {out : Nat × List D} {env0 : List D} (hK : KS Φ k env0 K N out) :
    ∀ (gas fuel : Nat) {listed : Array Bool} {σ : SS} {G : List CK} {env : List D} {t : Tr}, sxDraw C S n ks ops gas fuel listed σ G K = some t → Ext env0 env → okZ G env = true → SInv env σ → t.den Φ k env = some out → OD P E ops (kpOf ks) N fuel listed (σ.den env)
  | 0, _, _, _, _, _, _, h, _, _, _, _ => by cases h
  | gas + 1, fuel, listed, σ, G, env, t, h, hex, hz, hi, hden => by
    unfold sxDraw at h
    cases hr : Region.ready .any ops listed with
    | nil =>
      rw [hr] at h
      exact OD.done hr (hK σ G t env hex h hz hi hden)
    | cons r0 rs =>
      rw [hr] at h
      simp only at h
      cases fuel with
      | zero => cases h
      | succ fuel =>
        simp only at h
        cases hfd : findN (canTake C ks ops listed σ G.length) (r0 :: rs) with
        | some i =>
          rw [hfd] at h
          simp only at h
          obtain ⟨h1, h2⟩ := findN_spec hfd
          simp only [canTake, Bool.and_eq_true] at h2
          have hfree := h2.1
          have hready : (Region.ready .any ops listed).contains i = true := by rw [hr]; simpa using h1
          cases ho : ops[i]? with
          | none => rw [ho] at h; cases h
          | some o =>
            rw [ho] at h
            simp only at h
            split at h
            · rename_i hb
              simp only [Bool.and_eq_true] at hb
              obtain ⟨hd, hwt⟩ := hb
              rw [hn] at hd
              split at h
              · rename_i hgd
                have hw := gd_go (env := env) hgd
                split at h
                · rename_i nds v hp
                  split at h
                  · rename_i hc
                    split at h
                    · rename_i t' ht'
                      cases h
                      obtain ⟨env', hrun, ht⟩ := den_ndsT hden
                      obtain ⟨k1, k2, ds, rfl⟩ := runNds_facts hF hc hz hrun
                      obtain ⟨e1, hg⟩ := SS.wt_good hz hwt hi ds
                      have hop := sPure_ok (P := P) (E := E) (o := o) htab hg (sPureC_eq hp) k2
                      have hrest := sxDraw_ok hns hn htab hS hF hK gas fuel ht' (hex.add ds) k1 (SInv.put (sinv_ext hz hwt hi ds) _ _) ht
                      rw [SS.put_den] at hrest
                      rw [← e1] at hw ⊢
                      exact OD.take i ho hns hfree hready hw hd hop hrest
                    · cases h
                  · cases h
                · cases h
              · rename_i hgd
                have hw := gd_go (env := env) hgd
                have hrest := sxDraw_ok hns hn htab hS hF hK gas fuel h hex hz (hi.put _ _) hden
                rw [SS.put_den] at hrest
                exact OD.no i ho hns hfree hready hw hd hrest
              · rename_i a tt want hgd
                split at h
                · rename_i hta
                  split at h
                  · rename_i x y hx hy
                    cases h
                    obtain ⟨g, hg⟩ := okC_bool (tyA_ok hz hta)
                    have ht : tk (σ.den env).T tt = .v (.bool g) := by
                      have := tk_denT env tt σ.T
                      rw [gd_two hgd, SV.den, hg, encC_bool] at this
                      exact this
                    simp only [Tr.den, hg] at hden
                    refine OD.know ht ?_
                    rw [← SS.know_den]
                    have hi' : ∀ b, SInv env (σ.know tt b) := fun b => hi
                    cases g with
                    | true => exact sxDraw_ok hns hn htab hS hF hK gas (fuel + 1) hx hex hz (hi' _) hden
                    | false => exact sxDraw_ok hns hn htab hS hF hK gas (fuel + 1) hy hex hz (hi' _) hden
                  · cases h
                · cases h
              · cases h
            · cases h
        | none =>
          rw [hfd] at h
          simp only at h
          generalize hone : (fun (i : Nat) => (match ops[i]? with
            | some o => if (okD n o.dst && σ.wt G) = true then (match gd ops o σ with
              | some (.go true) => (match sDo C ks σ G.length o.op with
                | some (nds, v, σ') => if chkN S G nds = true then (match sxDraw C S n ks ops gas fuel (listed.setIfInBounds i true) (σ'.put o.dst v) (G ++ tysOf nds) K with
                  | some t => some (ndsT nds t)
                  | none => none) else none
                | none => none)
              | some (.go false) => sxDraw C S n ks ops gas fuel (listed.setIfInBounds i true) (σ.put o.dst (.tup [])) G K
              | _ => none) else none
            | none => none : Option Tr)) = one at h
          have hall : ∀ i ∈ r0 :: rs, ∃ t', one i = some t' ∧ t'.den Φ k env = some out := by
            split at h
            · rename_i t0 h0
              split at h
              · rename_i hs
                cases h
                intro i hi
                rcases List.mem_cons.1 hi with rfl | hi
                · exact ⟨_, by rw [← hone]; exact h0, hden⟩
                · obtain ⟨t', e1, e2⟩ := allSame_spec hs _ (List.mem_map_of_mem hi)
                  exact ⟨t', e1, sameT_den hF hz e2 hden⟩
              · cases h
            · cases h
          refine OD.all hr (by simp) (fun i hi' => ?_)
          obtain ⟨t', h1, hden'⟩ := hall i hi'
          clear hden
          have hden := hden'
          rw [← hone] at h1
          simp only at h1
          cases ho : ops[i]? with
          | none => rw [ho] at h1; cases h1
          | some o =>
            rw [ho] at h1
            simp only at h1
            refine ⟨o, rfl, ?_⟩
            split at h1
            · rename_i hb
              simp only [Bool.and_eq_true] at hb
              obtain ⟨hd, hwt⟩ := hb
              rw [hn] at hd
              refine ⟨hd, ?_⟩
              split at h1
              · rename_i hgd
                have hw := gd_go (env := env) hgd
                split at h1
                · rename_i nds v σ' hdo
                  split at h1
                  · rename_i hc
                    split at h1
                    · rename_i t' ht'
                      cases h1
                      obtain ⟨env', hrun, ht⟩ := den_ndsT hden
                      obtain ⟨k1, k2, ds, rfl⟩ := runNds_facts hF hc hz hrun
                      obtain ⟨e1, hg⟩ := SS.wt_good hz hwt hi ds
                      obtain ⟨hx, hinv⟩ := sDo_ok (P := P) (E := E) (o := o) htab hS hg hdo k2
                      rw [← e1] at hw ⊢
                      refine .inl ⟨hw, hx.mono (fun w τ ⟨hw', hτ⟩ => ?_)⟩
                      subst hw'
                      subst hτ
                      rw [← SS.put_den]
                      exact sxDraw_ok hns hn htab hS hF hK gas fuel ht' (hex.add ds) k1 (hinv.put _ _) ht
                    · cases h1
                  · cases h1
                · cases h1
              · rename_i hgd
                have hw := gd_go (env := env) hgd
                have hrest := sxDraw_ok hns hn htab hS hF hK gas fuel h1 hex hz (hi.put _ _) hden
                rw [SS.put_den] at hrest
                exact .inr ⟨hw, hrest⟩
              · cases h1
            · cases h1
end
end Go.BH
