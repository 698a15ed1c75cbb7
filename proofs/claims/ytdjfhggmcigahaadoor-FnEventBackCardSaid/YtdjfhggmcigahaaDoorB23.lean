/- Calls, in letters, 2. -/
import Derived.Test.YtdjfhggmcigahaaDoorB22
set_option linter.unusedVariables false
set_option linter.unusedSimpArgs false
namespace Go.BH
open Go.RowKit
mutual
/-- What the letters of a sign stand for (looked for; nothing rests on it). -/
def bindV (σ : SS) (cs : List (Nat × At × At × At)) : SV → SV → List (Nat × At) × List (Nat × Nat) → List (Nat × At) × List (Nat × Nat)
  | .dat _ a, .dat _ (.v j), (vs, is) => ((j, a) :: vs, is)
  | .dat _ a, .lz _ (.v j), (vs, is) => ((j, a) :: vs, is)
  | .lz _ a, .lz _ (.v j), (vs, is) => ((j, a) :: vs, is)
  | .nilS, .dat _ (.v j), (vs, is) => ((j, .k (.l [])) :: vs, is)
  | .nilS, .lz _ (.v j), (vs, is) => ((j, .k (.l [])) :: vs, is)
  | .e0, .dat _ (.v j), (vs, is) => ((j, .k (.l [])) :: vs, is)
  | .e0, .lz _ (.v j), (vs, is) => ((j, .k (.l [])) :: vs, is)
  | .sl i lo n s, .lz _ (.v j), (vs, is) => if (isZ lo && whole σ i n) = true then (match hgetS σ.H i with
      | some (.arr _ a _) => ((j, a) :: vs, is)
      | _ => (vs, is)) else (match cutFind i lo n cs with
      | some c => ((j, c) :: vs, is)
      | none => (vs, is))
  | .ptr i _, .ptr n _, (vs, is) => (vs, (n, i) :: is)
  | .sl i _ _ _, .sl n _ _ _, (vs, is) => (vs, (n, i) :: is)
  | .agg xs, .agg ys, acc => bindVs σ cs xs ys acc
  | .fn _ xs, .fn _ ys, acc => bindVs σ cs xs ys acc
  | _, _, acc => acc
def bindVs (σ : SS) (cs : List (Nat × At × At × At)) : List SV → List SV → List (Nat × At) × List (Nat × Nat) → List (Nat × At) × List (Nat × Nat)
  | x :: xs, y :: ys, acc => bindVs σ cs xs ys (bindV σ cs x y acc)
  | _, _, acc => acc
end
def lookA : List (Nat × At) → Nat → At
  | [], _ => .k (.l [])
  | (j, a) :: r, n => if Nat.beq j n = true then a else lookA r n
def lookN : List (Nat × Nat) → Nat → Nat
  | [], _ => 0
  | (j, a) :: r, n => if Nat.beq j n = true then a else lookN r n
def bindH (σ : SS) (cs : List (Nat × At × At × At)) : List (Nat × SB) → List (Nat × At) × List (Nat × Nat) → List (Nat × At) × List (Nat × Nat)
  | [], acc => acc
  | (n, pb) :: r, acc => match hgetS σ.H (lookN acc.2 n), pb with
    | some (.cells xs), .cells ys => bindH σ cs r (bindVs σ cs xs ys acc)
    | some (.arr _ a _), .arr _ (.v j) _ => bindH σ cs r ((j, a) :: acc.1, acc.2)
    | _, _ => bindH σ cs r acc
def lensAt (σ : SS) (ids : List Nat) : List (Nat × SB) → List At
  | [] => []
  | (n, .arr _ _ _) :: r => (match hgetS σ.H (ids.getD n 0) with
    | some (.arr _ _ k) => k
    | _ => .k (.i 0)) :: lensAt σ ids r
  | (_, .cells _) :: r => lensAt σ ids r
def handB (σ : SS) (θ : List At) (ids : List Nat) (cs : List (Nat × At × At × At)) : Nat → List (Nat × SB) → Bool
  | _, [] => true
  | p, (n, pb) :: r => Nat.beq n p && (match ids[n]? with
    | none => false
    | some i => (match hgetS σ.H i, pb with
      | some (.cells xs), .cells ys => lndBs σ θ ids cs false xs ys
      | some (.arr e a _), .arr e' a' _ => CK.beqs e e' && At.beq a (a'.sub θ)
      | _, _ => false)) && handB σ θ ids cs (p + 1) r
def nodupN : List Nat → Bool
  | [] => true
  | i :: r => !memN i r && nodupN r
def disjN (a : List Nat) : List Nat → Bool
  | [] => true
  | i :: r => !memN i a && disjN a r
def arrsOk (G : List CK) : List (Nat × SB) → Bool
  | [] => true
  | (_, .arr e a _) :: r => tyA G a (.sl e) && arrsOk G r
  | (_, .cells _) :: r => arrsOk G r
def lensIx : Nat → List (Nat × SB) → Bool
  | _, [] => true
  | j, (_, .arr _ _ n) :: r => At.beq n (.v j) && lensIx (j + 1) r
  | j, (_, .cells _) :: r => lensIx j r
def Sig.wf (s : Sig) : Bool := arrsOk s.ps s.H && arrsOk (s.ps ++ s.rs) s.H' && lensIx (s.ps.length + s.rs.length) s.H'
def subH (θ : List At) (f : Nat → Nat) : List (Nat × SB) → List (Nat × SB)
  | [] => []
  | (n, b) :: r => (f n, b.sub θ f) :: subH θ f r
def hdelsS (H : List (Nat × SB)) : List Nat → List (Nat × SB)
  | [] => H
  | i :: is => hdelsS (hdelS H i) is
def varsFrom : Nat → Nat → List At
  | _, 0 => []
  | m, n + 1 => .v m :: varsFrom (m + 1) n
def oneOfS : List SV → SV
  | [x] => x
  | l => .tup l
/-- A call by its sign. -/
def sCallW (ks : List Nat) (σ : SS) (m : Nat) (e : Nat) (s : Sig) (A : List SV) : Option (List Nd × SV × SS) :=
  match cutN σ m (cutLs σ A) with
  | (n1, cs) =>
    let acc := bindH σ cs s.H (bindVs σ cs A s.args ([], []))
    let vals := (List.range s.ps.length).map (lookA acc.1)
    let ids := (List.range s.H.length).map (lookN acc.2)
    let θ := vals ++ lensAt σ ids s.H
    if (lndBs σ θ ids cs true A s.args && handB σ θ ids cs 0 s.H && nodupN ids && aliveS σ ids && aliveS σ ks && disjN ids ks && s.wf) = true then
      let m1 := m + n1.length
      let θ1 := vals ++ varsFrom m1 s.rs.length
      let n2 := lenNds (subH θ1 (nmd ids σ.nx) s.H')
      let θ2 := θ1 ++ varsFrom (m1 + s.rs.length) n2.length
      some (n1 ++ .call e vals s.ps s.rs :: n2, oneOfS (SV.subs θ2 (nmd ids σ.nx) s.res), ⟨σ.T, hdelsS σ.H ids ++ subH θ2 (nmd ids σ.nx) s.H', σ.nx + (s.nx' - ids.length)⟩)
    else none
/-- The first sign that fits. -/
def sCallF (ks : List Nat) (σ : SS) (m : Nat) (f : Nat) (A : List SV) : Nat → List Sig → Option (List Nd × SV × SS)
  | _, [] => none
  | e, s :: r => if Nat.beq s.fid f = true then (match sCallW ks σ m e s A with
    | some x => some x
    | none => sCallF ks σ m f A (e + 1) r) else sCallF ks σ m f A (e + 1) r
section
variable {P : Program} {E : En} {σ : SS} {o : Oper} {ks : List Nat} {tab : TyTab} {env : List D} {m : Nat} {nds : List Nd} {v : SV} {Φ : Fns}
theorem cutN_pr : ∀ (L : List (Nat × At × At)) (m : Nat), ∀ x ∈ (cutN σ m L).1, ∃ p xs, x = Nd.pr p xs
  | [], m, x, hx => by simp [cutN] at hx
  | (j, lo, n) :: r, m, x, hx => by
    simp only [cutN] at hx
    split at hx
    · simp only [List.mem_cons] at hx
      rcases hx with rfl | rfl | hx
      · exact ⟨_, _, rfl⟩
      · exact ⟨_, _, rfl⟩
      · exact cutN_pr r _ x hx
    · exact cutN_pr r _ x hx
theorem nodupN_spec : ∀ {l : List Nat}, nodupN l = true → ∀ (n m i : Nat), l[n]? = some i → l[m]? = some i → n = m
  | [], _, n, m, i, h, _ => by simp at h
  | x :: r, hd, 0, 0, i, _, _ => rfl
  | x :: r, hd, 0, m + 1, i, h1, h2 => by
    simp only [nodupN, Bool.and_eq_true, Bool.not_eq_true'] at hd
    simp at h1 h2
    subst h1
    have := memN_iff.2 (List.mem_of_getElem? h2)
    rw [hd.1] at this
    cases this
  | x :: r, hd, n + 1, 0, i, h1, h2 => by
    simp only [nodupN, Bool.and_eq_true, Bool.not_eq_true'] at hd
    simp at h1 h2
    subst h2
    have := memN_iff.2 (List.mem_of_getElem? h1)
    rw [hd.1] at this
    cases this
  | x :: r, hd, n + 1, m + 1, i, h1, h2 => by
    simp only [nodupN, Bool.and_eq_true] at hd
    rw [nodupN_spec hd.2 n m i (by simpa using h1) (by simpa using h2)]
theorem disjN_spec : ∀ {a l : List Nat}, disjN a l = true → ∀ i ∈ l, i ∉ a
  | a, [], _, i, h => by cases h
  | a, x :: r, hd, i, h => by
    simp only [disjN, Bool.and_eq_true, Bool.not_eq_true'] at hd
    rcases List.mem_cons.1 h with rfl | h
    · intro hm
      rw [memN_iff.2 hm] at hd
      cases hd.1
    · exact disjN_spec hd.2 i h
theorem At.den_app {G : List CK} {vs : List D} (h : okZ G vs = true) {a : At} {k : CK} (ha : tyA G a k = true) (l : List D) : a.den (vs ++ l) = a.den vs := tyA_ext h ha l
theorem lensOf_ext {G : List CK} {vs : List D} (h : okZ G vs = true) (l : List D) : ∀ {H : List (Nat × SB)}, arrsOk G H = true → lensOf (vs ++ l) H = lensOf vs H
  | [], _ => rfl
  | (_, .arr e a n) :: r, ha => by
    simp only [arrsOk, Bool.and_eq_true] at ha
    simp only [lensOf]
    rw [tyA_ext h ha.1, lensOf_ext h l ha.2]
  | (_, .cells _) :: r, ha => by
    simp only [arrsOk] at ha
    simp only [lensOf]
    exact lensOf_ext h l ha
theorem lensAt_ok {θ : List At} {ids : List Nat} {cs : List (Nat × At × At × At)} (hg : σ.Good env) : ∀ {p : Nat} {H : List (Nat × SB)}, handB σ θ ids cs p H = true → (lensAt σ ids H).map (At.den env) = lensOf (θ.map (At.den env)) H
  | p, [], _ => rfl
  | p, (n, .cells ys) :: r, h => by
    simp only [handB, Bool.and_eq_true] at h
    simp only [lensAt, lensOf]
    exact lensAt_ok hg h.2
  | p, (n, .arr e' a' k') :: r, h => by
    simp only [handB, Bool.and_eq_true] at h
    obtain ⟨⟨h1, h2⟩, h3⟩ := h
    simp only [lensAt, lensOf, List.map_cons]
    rw [lensAt_ok hg h3]
    congr 1
    split at h2
    · cases h2
    · rename_i i hi
      split at h2
      · cases ‹SB.arr e' a' k' = SB.cells _›
      · rename_i e a k e1 a1 k1 hh heq
        cases heq
        simp only [Bool.and_eq_true] at h2
        have : ids.getD n 0 = i := by simp [List.getD, hi]
        rw [this, hh]
        simp only
        rw [(hg.A i e a k hh).2, At.beq_eq h2.2, At.sub_den]
      · cases h2
theorem varsFrom_den : ∀ {n m : Nat} {ds : List D}, ds.length = n → (∀ (j : Nat) (d : D), ds[j]? = some d → (At.v (m + j)).den env = d) → (varsFrom m n).map (At.den env) = ds
  | 0, m, ds, h, _ => by
    have := List.eq_nil_of_length_eq_zero h
    subst this
    rfl
  | n + 1, m, d :: ds, h, hk => by
    simp only [varsFrom, List.map_cons]
    rw [show (At.v m).den env = d from hk 0 d rfl, varsFrom_den (by simpa using h) (fun j d' hj => by
      have := hk (j + 1) d' (by simpa using hj)
      rwa [← Nat.add_assoc, Nat.add_right_comm] at this)]
  | n + 1, m, [], h, _ => by simp at h
theorem lens_fact {θ : List At} {f : Nat → Nat} : ∀ {H : List (Nat × SB)} {m : Nat}, Facts Φ env m (lenNds (subH θ f H)) → (varsFrom m (lenNds (subH θ f H)).length).map (At.den env) = lensOf (θ.map (At.den env)) H
  | [], m, _ => rfl
  | (n, .cells xs) :: r, m, hf => by
    simp only [subH, SB.sub, lenNds, lensOf] at hf ⊢
    exact lens_fact hf
  | (n, .arr e a k) :: r, m, hf => by
    simp only [subH, SB.sub, lenNds, lensOf, List.length_cons, varsFrom, List.map_cons] at hf ⊢
    obtain ⟨xs, h1, h2⟩ := fact_len hf.1
    rw [lens_fact hf.2, h2]
    rw [At.sub_den] at h1
    rw [h1]
    rfl
theorem denH_sub {θ : List At} {ids : List Nat} {nx : Nat} : ∀ H : List (Nat × SB), denH env (subH θ (nmd ids nx) H) = backH ids nx (denH (θ.map (At.den env)) H)
  | [] => rfl
  | (n, b) :: r => by
    simp only [subH, denH, backH]
    rw [denH_sub r, SB.sub_den]
theorem denH_dels : ∀ (l : List Nat) (H : List (Nat × SB)), denH env (hdelsS H l) = hdels (denH env H) l
  | [], H => rfl
  | i :: is, H => by
    simp only [hdelsS, hdels]
    rw [denH_dels is, denH_del]
theorem denH_app : ∀ (H K : List (Nat × SB)), denH env (H ++ K) = denH env H ++ denH env K
  | [], K => rfl
  | (n, b) :: r, K => by simp only [List.cons_append, denH]; rw [denH_app r K]
theorem oneOf_sub {θ : List At} {f : Nat → Nat} (l : List SV) : (oneOfS (SV.subs θ f l)).den env = (oneOf (SV.dens (θ.map (At.den env)) l)).ren f := by
  match l with
  | [] => rfl
  | [x] => simp only [SV.subs, oneOfS, SV.dens, oneOf]; exact SV.sub_den x
  | x :: y :: r =>
    simp only [SV.subs, oneOfS, SV.dens, oneOf, SV.den, AV.ren, AV.rens]
    rw [SV.sub_den, SV.sub_den, SV.subs_den]
theorem hand_ok {θ : List At} {ids : List Nat} {cs : List (Nat × At × At × At)} (hg : σ.Good env) (hc : CutOk σ env cs) : ∀ {p : Nat} {H : List (Nat × SB)}, handB σ θ ids cs p H = true → (∀ n ds, hget (denH (θ.map (At.den env)) H) n = some ds → n < p + H.length ∧ ∃ i ds', ids[n]? = some i ∧ hget (denH env σ.H) i = some ds' ∧ Lnds (denH env σ.H) ids (okI ids) false ds' ds)
  | p, [], _ => fun n ds h => by cases h
  | p, (n, pb) :: r, h => by
    simp only [handB, Bool.and_eq_true] at h
    obtain ⟨⟨h1, h2⟩, h3⟩ := h
    obtain rfl := Nat.eq_of_beq_eq_true h1
    intro q ds hq
    simp only [denH, hget] at hq
    split at hq
    · rename_i e
      obtain rfl := Nat.eq_of_beq_eq_true e
      refine ⟨by simp, ?_⟩
      split at h2
      · cases h2
      · rename_i i hi
        refine ⟨i, ?_⟩
        cases pb with
        | cells ys =>
          cases hh : hgetS σ.H i with
          | none => rw [hh] at h2; cases h2
          | some b =>
            rw [hh] at h2
            cases b with
            | arr e a k => cases h2
            | cells xs =>
              have hgt : hget (denH env σ.H) i = some (SV.dens env xs) := by rw [hget_denH, hh]; rfl
              refine ⟨_, hi, hgt, ?_⟩
              obtain rfl := Option.some.inj hq
              exact lndBs_ok hg hc (hg.C i xs hh) h2
        | arr e' a' k' =>
          cases hh : hgetS σ.H i with
          | none => rw [hh] at h2; cases h2
          | some b =>
            rw [hh] at h2
            cases b with
            | cells xs => cases h2
            | arr e a k =>
              simp only [Bool.and_eq_true] at h2
              obtain rfl := CK.beqs_eq h2.1
              obtain rfl := Option.some.inj hq
              refine ⟨_, hi, by rw [hget_denH, hh]; rfl, ?_⟩
              simp only [SB.den]
              rw [At.beq_eq h2.2, At.sub_den]
              exact encR_lnd _ _
    · obtain ⟨g1, g2⟩ := hand_ok hg hc h3 q ds hq
      exact ⟨by simp only [List.length_cons]; omega, g2⟩
theorem lensIx_ok : ∀ {j : Nat} {H : List (Nat × SB)} {e1 : List D} {l : List D}, lensIx j H = true → (∀ (k : Nat) (d : D), (lensOf e1 H)[k]? = some d → (At.v (j + k)).den l = d) → ∀ i e a n, hgetS H i = some (.arr e a n) → n.den l = .i (a.den e1).items.length
  | j, [], e1, l, _, _, i, e, a, n, h => by cases h
  | j, (q, .cells xs) :: r, e1, l, hx, hk, i, e, a, n, h => by
    simp only [hgetS] at h
    split at h
    · cases h
    · exact lensIx_ok (by simpa only [lensIx] using hx) (by simpa only [lensOf] using hk) i e a n h
  | j, (q, .arr e' a' n') :: r, e1, l, hx, hk, i, e, a, n, h => by
    simp only [lensIx, Bool.and_eq_true] at hx
    simp only [hgetS] at h
    split at h
    · cases h
      rw [At.beq_eq hx.1]
      exact hk 0 _ rfl
    · refine lensIx_ok hx.2 (fun k d hd => ?_) i e a n h
      have := hk (k + 1) d (by simpa only [lensOf, List.getElem?_cons_succ] using hd)
      rwa [← Nat.add_assoc, Nat.add_right_comm] at this
theorem arrsOk_get {G : List CK} : ∀ {H : List (Nat × SB)}, arrsOk G H = true → ∀ i e a n, hgetS H i = some (.arr e a n) → tyA G a (.sl e) = true
  | [], _, i, e, a, n, h => by cases h
  | (q, .cells xs) :: r, hx, i, e, a, n, h => by
    simp only [hgetS] at h
    split at h
    · cases h
    · exact arrsOk_get (by simpa only [arrsOk] using hx) i e a n h
  | (q, .arr e' a' n') :: r, hx, i, e, a, n, h => by
    simp only [arrsOk, Bool.and_eq_true] at hx
    simp only [hgetS] at h
    split at h
    · cases h; exact hx.1
    · exact arrsOk_get hx.2 i e a n h
theorem hgetS_app : ∀ {H K : List (Nat × SB)} {j : Nat} {b : SB}, hgetS (H ++ K) j = some b → hgetS H j = some b ∨ hgetS K j = some b
  | [], K, j, b, h => .inr h
  | (k, c) :: r, K, j, b, h => by
    simp only [List.cons_append, hgetS] at h ⊢
    split at h
    · rename_i e; rw [if_pos e]; exact .inl h
    · rename_i e; rw [if_neg e]; exact hgetS_app h
theorem hgetS_dels : ∀ {l : List Nat} {H : List (Nat × SB)} {j : Nat} {b : SB}, hgetS (hdelsS H l) j = some b → hgetS H j = some b
  | [], H, j, b, h => h
  | i :: is, H, j, b, h => hgetS_del (hgetS_dels (l := is) h)
theorem hgetS_subH {θ : List At} {f : Nat → Nat} : ∀ {H : List (Nat × SB)} {j : Nat} {b : SB}, hgetS (subH θ f H) j = some b → ∃ n c, f n = j ∧ hgetS H n = some c ∧ b = c.sub θ f
  | [], j, b, h => by cases h
  | (k, c) :: r, j, b, h => by
    simp only [subH, hgetS] at h
    split at h
    · rename_i e
      exact ⟨k, c, Nat.eq_of_beq_eq_true e, by simp [hgetS], (Option.some.inj h).symm⟩
    · rename_i e
      obtain ⟨n, d, h0, h1, h2⟩ := hgetS_subH h
      refine ⟨n, d, h0, ?_, h2⟩
      have hne : ¬ (Nat.beq k n = true) := fun g => e (by rw [Nat.eq_of_beq_eq_true g, h0]; simp)
      simp only [hgetS, if_neg hne]
      exact h1
theorem sCallW_ok {e : Nat} {s : Sig} {x : Operand} {args : List Operand} {tys : Array TypeId} {f : Nat} {caps : List SV} {σ' : SS} (hg : σ.Good env) (hS : SigOk P Φ e s) (ho : o.op = .call ⟨.value x, args.toArray, tys⟩) (hx : σ.ev x = .fn f caps) (hf : s.fid = f) (h : sCallW ks σ m e s (evS σ args ++ caps) = some (nds, v, σ')) (hfa : Facts Φ env m nds) : EffR P E ks o σ env v σ' := by
  unfold sCallW at h
  generalize hA : evS σ args ++ caps = A at h
  generalize hcn : cutN σ m (cutLs σ A) = q at h
  obtain ⟨n1, cs⟩ := q
  simp only at h
  generalize hacc : bindH σ cs s.H (bindVs σ cs A s.args ([], [])) = acc at h
  generalize hvals : (List.range s.ps.length).map (lookA acc.1) = vals at h
  generalize hids : (List.range s.H.length).map (lookN acc.2) = ids at h
  split at h
  · rename_i hb
    simp only [Bool.and_eq_true] at hb
    obtain ⟨⟨⟨⟨⟨⟨b1, b2⟩, b3⟩, b4⟩, b5⟩, b6⟩, b7⟩ := hb
    simp only [Sig.wf, Bool.and_eq_true] at b7
    obtain ⟨⟨w1, w2⟩, w3⟩ := b7
    simp only [Option.some.injEq, Prod.mk.injEq] at h
    obtain ⟨hnds, hv, hσ⟩ := h
    subst hnds
    have hpr : ∀ x ∈ n1, ∃ p xs, x = Nd.pr p xs := by
      have := cutN_pr (σ := σ) (cutLs σ A) m
      rw [hcn] at this
      exact this
    obtain ⟨hf1, hf2⟩ := facts_app hpr hfa
    have hcut : CutOk σ env cs := by
      have := cutN_ok (Φ := Φ) (env := env) (σ := σ) (L := cutLs σ A) (m := m) (by rw [hcn]; exact hf1)
      rw [hcn] at this
      exact this
    obtain ⟨⟨hps, rsv, hcall, hrs, hrv⟩, hf3⟩ := hf2
    have hgA : SV.goods env A = true := by
      rw [← hA, goods_iff]
      intro y hy
      rcases List.mem_append.1 hy with g | g
      · have : ∀ l : List Operand, ∀ y ∈ evS σ l, y.good env = true := by
          intro l
          induction l with
          | nil => intro y hy; cases hy
          | cons z r ih =>
            intro y hy
            rcases List.mem_cons.1 hy with rfl | hy
            · exact ev_good hg z
            · exact ih y hy
        exact this args y g
      · have := ev_good hg x
        rw [hx] at this
        exact goods_iff.1 (show SV.goods env caps = true from this) y g
    have hA' : (vals ++ lensAt σ ids s.H).map (At.den env) = envA s (vals.map (At.den env)) := by
      have h1 := lensAt_ok (env := env) hg b2
      rw [List.map_append] at h1 ⊢
      rw [envA]
      congr 1
      rw [h1, lensOf_ext hps _ w1]
    obtain ⟨hk, hsig⟩ := hS
    obtain ⟨_, hft⟩ := hsig _ _ hps hcall
    rw [← hA'] at hft
    obtain ⟨fn, cc, k1, k2, k3⟩ := knownB_spec hk
    have hlen : ids.length = s.H.length := by rw [← hids]; simp
    have hhand := hand_ok (env := env) hg hcut b2
    have hx' := SS.ev_den env σ x
    rw [hx, SV.den] at hx'
    have hrsl := okZ_length hrs
    generalize hm1 : m + n1.length = m1 at *
    have hθ1 : (vals ++ varsFrom m1 s.rs.length).map (At.den env) = vals.map (At.den env) ++ rsv := by
      rw [List.map_append, varsFrom_den hrsl hrv]
    have hlens := lens_fact (θ := vals ++ varsFrom m1 s.rs.length) (f := nmd ids σ.nx) hf3
    rw [hθ1] at hlens
    have hθ2 : ((vals ++ varsFrom m1 s.rs.length) ++ varsFrom (m1 + s.rs.length) (lenNds (subH (vals ++ varsFrom m1 s.rs.length) (nmd ids σ.nx) s.H')).length).map (At.den env) = envR s (vals.map (At.den env)) rsv := by
      rw [List.map_append, hθ1, hlens]
      rfl
    refine ⟨?_, ?_⟩
    · refine OX.call (P := P) (E := E) (σ := σ.den env) (kp := kpOf ks) (ids := ids) (ok := okI ids) ho hx' (by rw [← hf]; exact k1) k2 k3 (by rw [hlen, ← hf]; exact hft) ?_ (fun n ds hn => (hhand n ds hn).2) (fun n ds hn => by rw [hlen]; have := (hhand n ds hn).1; omega) ?_ (nodupN_spec b3) ?_ ?_ ?_
      · have := lndBs_ok hg hcut hgA b1
        rw [← hA] at this
        rw [← evS_den]
        rw [dens_map, List.map_append, ← dens_map, ← dens_map] at this
        exact this
      · intro n i hn
        exact alive_ok (σ := σ) (ks := ids) b4 i (memN_iff.2 (List.mem_of_getElem? hn))
      · intro i n hi hn
        simp only [okI, Bool.not_eq_true'] at hi
        rw [memN_iff.2 (List.mem_of_getElem? hn)] at hi
        cases hi
      · intro j hj
        exact ⟨alive_ok b5 j hj, disjN_spec b6 j (memN_iff.1 hj)⟩
      · rintro r H' nx' ⟨rfl, rfl, rfl⟩
        rw [← hv, ← hσ]
        refine ⟨?_, ?_⟩
        · rw [oneOf_sub, hθ2]
          rfl
        · simp only [SS.den, denH_app, denH_dels, denH_sub, hθ2]
    · rw [← hσ]
      intro i e' a n hh
      rcases hgetS_app hh with hh | hh
      · exact (hg.A i e' a n (hgetS_dels hh)).2
      · obtain ⟨q, c, _, hc, hsub⟩ := hgetS_subH hh
        cases c with
        | cells xs => cases hsub
        | arr e2 a2 n2 =>
          cases hsub
          rw [At.sub_den, At.sub_den, hθ2]
          have hok : okZ (s.ps ++ s.rs) (vals.map (At.den env) ++ rsv) = true := okZ_app hps hrs
          have h1 := lensIx_ok (l := envR s (vals.map (At.den env)) rsv) w3 (fun k d hd => by
            simp only [At.den, envR]
            have e1 : (vals.map (At.den env) ++ rsv).length = s.ps.length + s.rs.length := by
              rw [← okZ_len hok, List.length_append]
            rw [List.getElem?_append_right (by omega), show s.ps.length + s.rs.length + k - (vals.map (At.den env) ++ rsv).length = k by omega, hd]
            rfl) q _ a2 n2 hc
          rw [h1, envR, tyA_ext hok (arrsOk_get w2 q _ a2 n2 hc)]
  · cases h
theorem sCallF_ok {x : Operand} {args : List Operand} {tys : Array TypeId} {f : Nat} {caps : List SV} {σ' : SS} (hg : σ.Good env) (ho : o.op = .call ⟨.value x, args.toArray, tys⟩) (hx : σ.ev x = .fn f caps) : ∀ {sigs : List Sig} {e : Nat}, (∀ j s, sigs[j]? = some s → SigOk P Φ (e + j) s) → sCallF ks σ m f (evS σ args ++ caps) e sigs = some (nds, v, σ') → Facts Φ env m nds → EffR P E ks o σ env v σ'
  | [], e, _, h, _ => by cases h
  | s :: r, e, hS, h, hf => by
    simp only [sCallF] at h
    have hS' : ∀ (j : Nat) (s' : Sig), r[j]? = some s' → SigOk P Φ (e + 1 + j) s' := fun j s' hj => by
      have := hS (j + 1) s' (by simpa using hj)
      rwa [show e + (j + 1) = e + 1 + j by omega] at this
    split at h
    · rename_i hid
      split at h
      · rename_i y hy
        cases h
        exact sCallW_ok hg (hS 0 s rfl) ho hx (Nat.eq_of_beq_eq_true hid) hy hf
      · exact sCallF_ok hg ho hx hS' h hf
    · exact sCallF_ok hg ho hx hS' h hf
end
end Go.BH
