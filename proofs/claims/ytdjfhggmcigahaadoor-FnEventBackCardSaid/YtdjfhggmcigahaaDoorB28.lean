/- A state that says what a shape says, 2. -/
import Derived.Test.YtdjfhggmcigahaaDoorB27
set_option linter.unusedVariables false
set_option linter.unusedSimpArgs false
namespace Go.BH
open Go.RowKit
section
variable {E : En} {env : List D}
theorem bindHM_ok {n0 M : Nat} : ∀ {H : List (Nat × SB)} {σ σ' : SS} {acc acc' : List (Nat × At) × List (Nat × Nat)}, σ.Good env → bindHM n0 M H σ acc = (σ', acc'.1, acc'.2) → Gh E (σ.den env) (σ'.den env) ∧ σ'.Good env
  | [], σ, σ', acc, acc', hg, h => by
    simp only [bindHM, Prod.mk.injEq] at h
    rw [← h.1]
    exact ⟨.refl _, hg⟩
  | (i, pb) :: r, σ, σ', acc, acc', hg, h => by
    have push : ∀ (e : List CK) acc'', bindHM n0 M r ⟨σ.T, σ.H ++ [(σ.nx, .arr e (.k (.l [])) (.k (.i 0)))], σ.nx + 1⟩ acc'' = (σ', acc'.1, acc'.2) → Gh E (σ.den env) (σ'.den env) ∧ σ'.Good env := fun e acc'' h => by
      have hg' : (⟨σ.T, σ.H ++ [(σ.nx, .arr e (.k (.l [])) (.k (.i 0)))], σ.nx + 1⟩ : SS).Good env := by
        refine ⟨hg.T, fun j xs hj => ?_, fun j e' a k hj => ?_⟩
        · rcases hgetS_snoc hj with hj | ⟨_, hj⟩
          · exact hg.C j xs hj
          · cases hj
        · rcases hgetS_snoc hj with hj | ⟨_, hj⟩
          · exact hg.A j e' a k hj
          · cases hj
            exact ⟨by simp [At.den, okC], rfl⟩
      obtain ⟨h1, h2⟩ := bindHM_ok hg' h
      refine ⟨?_, h2⟩
      have h0 : Gh E (σ.den env) ((⟨σ.T, σ.H ++ [(σ.nx, .arr e (.k (.l [])) (.k (.i 0)))], σ.nx + 1⟩ : SS).den env) := by
        have := Gh.ghost (E := E) (σ := σ.den env)
        simp only [SS.den, denH_snoc, SB.den, At.den, D.items, encR, List.flatMap_nil] at this ⊢
        exact this
      exact h0.trans h1
    unfold bindHM at h
    by_cases hc : (hasN acc.2 i || Nat.blt i M) = true
    · rw [if_pos hc] at h
      simp only at h
      generalize hgetS σ.H (if Nat.blt i M = true then i else lookN acc.2 i) = q at h
      split at h
      · exact bindHM_ok hg h
      · exact bindHM_ok hg h
      · exact bindHM_ok hg h
    · rw [if_neg hc] at h
      split at h
      · exact push _ _ h
      · exact push _ _ h
      · exact bindHM_ok hg h
theorem chkT_get {σ : SS} {θ : List At} {f : Nat → Nat} : ∀ {T : List (Nat × SV)}, chkT σ θ f T = true → ∀ t, Wk ((tkS σ.T t).den env) (((tkS T t).sub θ f).den env)
  | [], _, t => Wk.any _
  | (d, p) :: r, h, t => by
    simp only [chkT, Bool.and_eq_true] at h
    simp only [tkS]
    split
    · rename_i e
      rw [← Nat.eq_of_beq_eq_true e]
      exact wkB_ok h.1
    · exact chkT_get h.2 t
theorem chkH_get {σ : SS} {θ : List At} {f : Nat → Nat} {rs : List Nat} : ∀ {H : List (Nat × SB)}, chkH σ θ f rs H = true → ∀ i b, hgetS H i = some b → ∃ j c, rs[i]? = some j ∧ hgetS σ.H j = some c ∧ Wks (c.den env) ((b.sub θ f).den env) ∧ (∀ e a n, b = .arr e a n → ∃ a' k, c = .arr e a' k ∧ a' = a.sub θ)
  | [], _, i, b, h => by cases h
  | (q, pb) :: r, h, i, b, hb => by
    simp only [chkH, Bool.and_eq_true] at h
    simp only [hgetS] at hb
    split at hb
    · rename_i e
      obtain rfl := Nat.eq_of_beq_eq_true e
      obtain rfl := Option.some.inj hb
      have h1 := h.1
      split at h1
      · rename_i j hj
        refine ⟨j, ?_⟩
        cases hc : hgetS σ.H j with
        | none => rw [hc] at h1; cases h1
        | some c =>
          rw [hc] at h1
          cases c with
          | cells xs =>
            cases pb with
            | cells ys => exact ⟨_, hj, rfl, wkBs_ok h1, fun e a n h => by cases h⟩
            | arr e a n => cases h1
          | arr e a k =>
            cases pb with
            | cells ys => cases h1
            | arr e' a' n' =>
              simp only [Bool.and_eq_true] at h1
              obtain rfl := CK.beqs_eq h1.1
              have ha := At.beq_eq h1.2
              refine ⟨_, hj, rfl, ?_, fun e1 a1 n1 h => by cases h; exact ⟨a, k, rfl, ha⟩⟩
              simp only [SB.den, SB.sub, ha]
              exact .refl _
      · cases h1
    · exact chkH_get h.2 i b hb
theorem lensM_ok {σ : SS} {θ : List At} {f : Nat → Nat} {rs : List Nat} {G : List CK} {e1 l : List D} (hg : σ.Good env) (hθ : θ.map (At.den env) = e1 ++ l) (hz : okZ G e1 = true) : ∀ {H : List (Nat × SB)}, chkH σ θ f rs H = true → arrsOk G H = true → (lensM σ rs H).map (At.den env) = lensOf e1 H
  | [], _, _ => rfl
  | (q, .cells ys) :: r, h, ha => by
    simp only [chkH, Bool.and_eq_true] at h
    simp only [arrsOk] at ha
    simp only [lensM, lensOf]
    exact lensM_ok hg hθ hz h.2 ha
  | (q, .arr e a n) :: r, h, ha => by
    simp only [chkH, Bool.and_eq_true] at h
    simp only [arrsOk, Bool.and_eq_true] at ha
    simp only [lensM, lensOf, List.map_cons]
    rw [lensM_ok hg hθ hz h.2 ha.2]
    congr 1
    have h1 := h.1
    split at h1
    · rename_i j hj
      have : rs.getD q 0 = j := by simp [List.getD, hj]
      rw [this]
      cases hc : hgetS σ.H j with
      | none => rw [hc] at h1; cases h1
      | some c =>
        rw [hc] at h1
        cases c with
        | cells xs => cases h1
        | arr e' a' k =>
          simp only [Bool.and_eq_true] at h1
          have ha' := At.beq_eq h1.2
          simp only
          rw [(hg.A j e' a' k hc).2, ha', At.sub_den, hθ, tyA_ext hz ha.1]
    · cases h1
theorem sameRs_spec : ∀ {m i : Nat} {rs : List Nat}, sameRs i rs m = true → ∀ j, j < m → rs[j]? = some (i + j)
  | 0, _, _, _, j, h => by omega
  | m + 1, i, [], h, j, hj => by simp [sameRs] at h
  | m + 1, i, r :: rs, h, 0, hj => by
    simp only [sameRs, Bool.and_eq_true] at h
    simp [Nat.eq_of_beq_eq_true h.1]
  | m + 1, i, r :: rs, h, j + 1, hj => by
    simp only [sameRs, Bool.and_eq_true] at h
    have := sameRs_spec h.2 j (by omega)
    simp only [List.getElem?_cons_succ, this]
    congr 1
    omega
theorem mem_namesH : ∀ {H : List (Nat × SB)} {i : Nat} {b : SB}, hgetS H i = some b → ∃ k : Nat, (namesH H)[k]? = some i
  | [], i, b, h => by cases h
  | (q, c) :: r, i, b, h => by
    simp only [hgetS] at h
    split at h
    · rename_i e
      exact ⟨0, by simp [namesH, Nat.eq_of_beq_eq_true e]⟩
    · obtain ⟨k, hk⟩ := mem_namesH h
      exact ⟨k + 1, by simpa [namesH] using hk⟩
/-- The letters of a shape, and what they stand for. -/
def shEnv (sh : Shp) (eo vs : List D) : List D := (eo ++ vs) ++ lensOf (eo ++ vs) sh.H
theorem shp_inv {sh : Shp} {G0 : List CK} {eo vs : List D} (hw : sh.wf G0 = true) (hz : okZ G0 eo = true) (hv : okZ sh.ps vs = true) : SInv (shEnv sh eo vs) ⟨sh.T, sh.H, sh.nx⟩ := by
  simp only [Shp.wf, Bool.and_eq_true] at hw
  have hok : okZ (G0 ++ sh.ps) (eo ++ vs) = true := okZ_app hz hv
  intro i e a n hh
  have h1 := lensIx_ok (e1 := eo ++ vs) (l := shEnv sh eo vs) hw.2 (fun k d hd => by
    have e1 : (eo ++ vs).length = G0.length + sh.ps.length := by rw [← okZ_len hok, List.length_append]
    simp only [At.den, shEnv]
    rw [List.getElem?_append_right (by omega), show G0.length + sh.ps.length + k - (eo ++ vs).length = k by omega, hd]
    rfl) i e a n hh
  rw [h1, shEnv, tyA_ext hok (arrsOk_get hw.1 i e a n hh)]
theorem goVals_ok {M : Nat} {G0 : List CK} {sh : Shp} {σ : SS} {G : List CK} {vals : List At} {eo : List D} (h : goVals M G0 sh σ G = some vals) (hM : M = E.m) (hz0 : okZ G0 eo = true) (hx : Ext eo env) (hz : okZ G env = true) (hi : SInv env σ) :
    okZ sh.ps (vals.map (At.den env)) = true ∧ sh.wf G0 = true ∧ GS E (σ.den env) ((⟨sh.T, sh.H, sh.nx⟩ : SS).den (shEnv sh eo (vals.map (At.den env)))) := by
  subst hM
  unfold goVals at h
  simp only at h
  split at h
  · rename_i hwt
    have hg : σ.Good env := by
      have := (SS.wt_good hz hwt hi []).2
      simpa using this
    split at h
    · rename_i σ1 h1
      obtain ⟨g1, g2⟩ := frzAll_ok (E := E) hg h1
      generalize hbh : bindHM G0.length E.m sh.H σ1 (bindT G0.length σ1.T sh.T ([], [])) = q at h
      obtain ⟨σ2, acc⟩ := q
      obtain ⟨g3, g4⟩ := bindHM_ok (E := E) (acc' := acc) g2 hbh
      simp only at h
      generalize hvals : (List.range' G0.length sh.ps.length).map (lookA acc.1) = vls at h
      generalize hrs : (List.range sh.nx).map (fun i => if Nat.blt i E.m = true then i else if hasN acc.2 i = true then lookN acc.2 i else σ2.nx) = rs at h
      split at h
      · rename_i hb
        obtain rfl := Option.some.inj h
        simp only [Bool.and_eq_true] at hb
        obtain ⟨⟨⟨⟨⟨⟨⟨b1, b2⟩, b3⟩, b4⟩, b5⟩, b6⟩, b7⟩, b8⟩ := hb
        have hps := tyAs_ok hz b1
        refine ⟨hps, b2, σ2.den env, rs, g1.trans g3, ?_⟩
        have hw := b2
        simp only [Shp.wf, Bool.and_eq_true] at hw
        have hok : okZ (G0 ++ sh.ps) (eo ++ vls.map (At.den env)) = true := okZ_app hz0 hps
        have hθ1 : (varsFrom 0 G0.length ++ vls).map (At.den env) = eo ++ vls.map (At.den env) := by
          rw [List.map_append, varsFrom_den (okZ_len hz0).symm (fun j d hj => ?_)]
          obtain ⟨ds, rfl⟩ := hx
          simp only [At.den, Nat.zero_add]
          rw [List.getElem?_append_left (by
            rcases Nat.lt_or_ge j eo.length with g | g
            · exact g
            · rw [List.getElem?_eq_none g] at hj; cases hj), hj]
          rfl
        have hθ0 : ((varsFrom 0 G0.length ++ vls) ++ lensM σ2 rs sh.H).map (At.den env) = (eo ++ vls.map (At.den env)) ++ (lensM σ2 rs sh.H).map (At.den env) := by
          rw [List.map_append, hθ1]
        have hlm := lensM_ok (f := nmS rs σ2.nx) g4 hθ0 hok b4 hw.1
        have hθ : ((varsFrom 0 G0.length ++ vls) ++ lensM σ2 rs sh.H).map (At.den env) = shEnv sh eo (vls.map (At.den env)) := by
          rw [hθ0, hlm]; rfl
        have hrsl : rs.length = sh.nx := by rw [← hrs]; simp
        have hun : ∀ (μ : Mu), (∀ i, (σ2.den env).nx ≤ i → μ.pl i = none) → ∀ {x : AV} {c : Value}, VR μ (x.ren (nmS rs σ2.nx)) c → VR (μ.sel rs) x c := fun μ hf x c hv => by
          refine VR.unren (fun i a ha => ?_) (fun l b cs hl => by rw [Mu.sel_rd]; exact hl) hv
          simp only [Mu.sel]
          simp only [nmS] at ha
          cases e : rs[i]? with
          | none => rw [e] at ha; simp only [Option.getD_none] at ha; rw [hf σ2.nx (Nat.le_refl _)] at ha; cases ha
          | some j => rw [e] at ha; exact ha
        refine ⟨fun μ hf t c hv => ?_, fun i cs' hc => ?_, fun i i' j cs cs' h3 h4 h5 h6 => ?_, hrsl.symm, fun i hi' => by simpa using sameRs_spec b7 i hi', by rw [hrsl]; exact Nat.le_of_ble_eq_true b8⟩
        · have h3 := chkT_get (env := env) b3 t
          rw [SV.sub_den, hθ] at h3
          simp only [SS.den] at hv ⊢
          rw [tk_denT] at hv ⊢
          exact hun μ hf (h3 _ _ hv)
        · simp only [SS.den] at hc ⊢
          rw [hget_denH] at hc
          obtain ⟨b, hb, rfl⟩ := Option.map_eq_some_iff.1 hc
          obtain ⟨j, c, k1, k2, k3, _⟩ := chkH_get (env := env) b4 i b hb
          rw [SB.sub_den, hθ] at k3
          refine ⟨j, c.den env, k1, by rw [hget_denH, k2]; rfl, ?_, fun μ hf k x' hk => ?_⟩
          · have := k3.length
            rw [rens_length] at this
            exact this
          · obtain ⟨u, hu, hw'⟩ := k3.get k (x'.ren (nmS rs σ2.nx)) (by rw [rens_map, List.getElem?_map, hk]; rfl)
            exact ⟨u, hu, fun c hv => hun μ hf (hw' _ _ hv)⟩
        · simp only [SS.den] at h3 h4
          rw [hget_denH] at h3 h4
          obtain ⟨b, hb, _⟩ := Option.map_eq_some_iff.1 h3
          obtain ⟨b', hb', _⟩ := Option.map_eq_some_iff.1 h4
          obtain ⟨k, hk⟩ := mem_namesH hb
          obtain ⟨k', hk'⟩ := mem_namesH hb'
          have := nodupN_spec b5 k k' j (by rw [List.getElem?_map, hk]; simp [List.getD, h5]) (by rw [List.getElem?_map, hk']; simp [List.getD, h6])
          subst this
          rw [hk] at hk'
          exact Option.some.inj hk'
      · cases h
    · cases h
  · cases h
end
end Go.BH
