/- Regions in a drawn order, in letters. -/
import Derived.Test.YtbialjbfcdhmbaaB25
set_option linter.unusedVariables false
set_option linter.unusedSimpArgs false
namespace Go.BH
open Go.RowKit
def canTake (C : Cx) (ks : List Nat) (ops : Array Oper) (listed : Array Bool) (σ : SS) (m : Nat) (i : Nat) : Bool :=
  Region.free .any ops listed i && (match ops[i]? with
    | some o => (match gd ops o σ with
      | some (.go true) => (match sPure C.tab (kpOf ks) σ m o.op with
        | some _ => true
        | none => false)
      | some (.go false) => true
      | some (.two _ _ _) => true
      | none => false)
    | none => false)
def findN (p : Nat → Bool) : List Nat → Option Nat
  | [] => none
  | i :: r => if p i = true then some i else findN p r
def allSame (t : Tr) : List (Option Tr) → Bool
  | [] => true
  | some t' :: r => Tr.beq t' t && allSame t r
  | none :: _ => false
/-- A region in whatever order: those that only reckon are taken first; then all that may come next are tried. -/
def sxDraw (C : Cx) (S : Kinds) (n : Nat) (ks : List Nat) (ops : Array Oper) : Nat → Nat → Array Bool → SS → List CK → (SS → List CK → Option Tr) → Option Tr
  | 0, _, _, _, _, _ => none
  | gas + 1, fuel, listed, σ, G, K =>
    match Region.ready .any ops listed with
    | [] => K σ G
    | r0 :: rs => match fuel with
      | 0 => none
      | fuel' + 1 => match findN (canTake C ks ops listed σ G.length) (r0 :: rs) with
        | some i => (match ops[i]? with
          | some o => if (okD n o.dst && σ.wt G) = true then (match gd ops o σ with
            | some (.go true) => (match sPure C.tab (kpOf ks) σ G.length o.op with
              | some (nds, v) => if chkN S G nds = true then (match sxDraw C S n ks ops gas fuel' (listed.setIfInBounds i true) (σ.put o.dst v) (G ++ tysOf nds) K with
                | some t => some (ndsT nds t)
                | none => none) else none
              | none => none)
            | some (.go false) => sxDraw C S n ks ops gas fuel' (listed.setIfInBounds i true) (σ.put o.dst (.tup [])) G K
            | some (.two a t want) => if tyA G a .bool = true then (match sxDraw C S n ks ops gas (fuel' + 1) listed (σ.know t true) G K, sxDraw C S n ks ops gas (fuel' + 1) listed (σ.know t false) G K with
              | some x, some y => some (.ite a x y)
              | _, _ => none) else none
            | none => none) else none
          | none => none)
        | none =>
          let one := fun (i : Nat) => match ops[i]? with
            | some o => if (okD n o.dst && σ.wt G) = true then (match gd ops o σ with
              | some (.go true) => (match sDo C ks σ G.length o.op with
                | some (nds, v, σ') => if chkN S G nds = true then (match sxDraw C S n ks ops gas fuel' (listed.setIfInBounds i true) (σ'.put o.dst v) (G ++ tysOf nds) K with
                  | some t => some (ndsT nds t)
                  | none => none) else none
                | none => none)
              | some (.go false) => sxDraw C S n ks ops gas fuel' (listed.setIfInBounds i true) (σ.put o.dst (.tup [])) G K
              | _ => none) else none
            | none => none
          match one r0 with
          | some t => if allSame t (rs.map one) = true then some t else none
          | none => none
section
variable {P : Program} {E : En} {C : Cx} {Φ : Fns} {S : Kinds}
theorem OD.all {ops : Array Oper} {kp : Nat → Bool} {N : St → Prop} {fuel : Nat} {listed : Array Bool} {σ : St} {rs : List Nat} (hr : Region.ready .any ops listed = rs) (hne : rs ≠ [])
    (h : ∀ i ∈ rs, ∃ oi, ops[i]? = some oi ∧ okD E.n oi.dst = true ∧ ((wantsB ops oi σ true ∧ OX P E kp oi σ (fun v σ' => OD P E ops kp N fuel (listed.setIfInBounds i true) (σ'.put oi.dst v))) ∨ (wantsB ops oi σ false ∧ OD P E ops kp N fuel (listed.setIfInBounds i true) (σ.put oi.dst (.tup []))))) : OD P E ops kp N (fuel + 1) listed σ := fun μ a w hI => by
  refine wpAnyH_all hr hne (fun i hi => ?_)
  obtain ⟨oi, ho, hd, ⟨hw, hx⟩ | ⟨hw, hx⟩⟩ := h i hi
  · unfold wpOp
    simp only [ho, wanted_of hI hw, if_true]
    refine .inl (hx μ a w hI _ _ (fun v σ' c μ' w' k hv hi' hs => ⟨hs.sm, ?_⟩))
    exact wpAnyH_mono (fun w'' hw'' => hs.trans hw'') _ _ _ _ (k μ' _ w' (hi'.put hd hv))
  · unfold wpOp
    simp only [ho, wanted_of hI hw, Bool.false_eq_true, if_false]
    exact ⟨.refl _ _ _, hx μ _ w (hI.put hd (.tup .nil))⟩
theorem OD.know {ops : Array Oper} {kp : Nat → Bool} {N : St → Prop} {fuel : Nat} {listed : Array Bool} {σ : St} {t : Nat} {g : Bool} (ht : tk σ.T t = .v (.bool g)) (h : OD P E ops kp N fuel listed (σ.know t g)) : OD P E ops kp N fuel listed σ := fun μ a w hi => h μ a w (hi.know ht)
theorem findN_spec {p : Nat → Bool} : ∀ {l : List Nat} {i : Nat}, findN p l = some i → i ∈ l ∧ p i = true
  | [], i, h => by cases h
  | j :: r, i, h => by
    simp only [findN] at h
    split at h
    · rename_i hp
      cases h
      exact ⟨List.mem_cons_self, hp⟩
    · obtain ⟨h1, h2⟩ := findN_spec h
      exact ⟨List.mem_cons_of_mem _ h1, h2⟩
theorem allSame_spec {t : Tr} : ∀ {l : List (Option Tr)}, allSame t l = true → ∀ x ∈ l, x = some t
  | [], _, x, hx => by cases hx
  | some t' :: r, h, x, hx => by
    simp only [allSame, Bool.and_eq_true] at h
    rcases List.mem_cons.1 hx with rfl | hx
    · rw [Tr.beq_eq h.1]
    · exact allSame_spec h.2 x hx
  | none :: r, h, x, hx => by cases h
theorem sxDraw_ok {k n : Nat} {ks : List Nat} {ops : Array Oper} (hns : Region.noSelect ops = true) (hn : n = E.n) (htab : TabOk P C.tab) (hS : ∀ (j : Nat) (s : Sig), C.sigs[j]? = some s → SigOk P Φ j s) (hF : FnsOk S Φ) {K : SS → List CK → Option Tr} {N : St → Prop} {out : Nat × List D} {env0 : List D} (hK : KS Φ k env0 K N out) :
    ∀ (gas fuel : Nat) {listed : Array Bool} {σ : SS} {G : List CK} {env : List D} {t : Tr}, sxDraw C S n ks ops gas fuel listed σ G K = some t → Ext env0 env → okZ G env = true → SInv env σ → t.den Φ k env = some out → OD P E ops (kpOf ks) N fuel listed (σ.den env)
  | 0, _, _, _, _, _, _, h, _, _, _, _ => by cases h
  | gas + 1, fuel, listed, σ, G, env, t, h, hex, hz, hi, hden => by
    unfold sxDraw at h
    cases hr : Region.ready .any ops listed with
    | nil =>
      rw [hr] at h
      exact OD.done hr (hK σ G t env hex h hz hi hden)
    | cons r0 rs =>
      rw [hr] at h
      simp only at h
      cases fuel with
      | zero => cases h
      | succ fuel =>
        simp only at h
        cases hfd : findN (canTake C ks ops listed σ G.length) (r0 :: rs) with
        | some i =>
          rw [hfd] at h
          simp only at h
          obtain ⟨h1, h2⟩ := findN_spec hfd
          simp only [canTake, Bool.and_eq_true] at h2
          have hfree := h2.1
          have hready : (Region.ready .any ops listed).contains i = true := by rw [hr]; simpa using h1
          cases ho : ops[i]? with
          | none => rw [ho] at h; cases h
          | some o =>
            rw [ho] at h
            simp only at h
            split at h
            · rename_i hb
              simp only [Bool.and_eq_true] at hb
              obtain ⟨hd, hwt⟩ := hb
              rw [hn] at hd
              split at h
              · rename_i hgd
                have hw := gd_go (env := env) hgd
                split at h
                · rename_i nds v hp
                  split at h
                  · rename_i hc
                    split at h
                    · rename_i t' ht'
                      cases h
                      obtain ⟨env', hrun, ht⟩ := den_ndsT hden
                      obtain ⟨k1, k2, ds, rfl⟩ := runNds_facts hF hc hz hrun
                      obtain ⟨e1, hg⟩ := SS.wt_good hz hwt hi ds
                      have hop := sPure_ok (P := P) (E := E) (o := o) htab hg hp k2
                      have hrest := sxDraw_ok hns hn htab hS hF hK gas fuel ht' (hex.add ds) k1 (SInv.put (sinv_ext hz hwt hi ds) _ _) ht
                      rw [SS.put_den] at hrest
                      rw [← e1] at hw ⊢
                      exact OD.take i ho hns hfree hready hw hd hop hrest
                    · cases h
                  · cases h
                · cases h
              · rename_i hgd
                have hw := gd_go (env := env) hgd
                have hrest := sxDraw_ok hns hn htab hS hF hK gas fuel h hex hz (hi.put _ _) hden
                rw [SS.put_den] at hrest
                exact OD.no i ho hns hfree hready hw hd hrest
              · rename_i a tt want hgd
                split at h
                · rename_i hta
                  split at h
                  · rename_i x y hx hy
                    cases h
                    obtain ⟨g, hg⟩ := okC_bool (tyA_ok hz hta)
                    have ht : tk (σ.den env).T tt = .v (.bool g) := by
                      have := tk_denT env tt σ.T
                      rw [gd_two hgd, SV.den, hg, encC_bool] at this
                      exact this
                    simp only [Tr.den, hg] at hden
                    refine OD.know ht ?_
                    rw [← SS.know_den]
                    have hi' : ∀ b, SInv env (σ.know tt b) := fun b => hi
                    cases g with
                    | true => exact sxDraw_ok hns hn htab hS hF hK gas (fuel + 1) hx hex hz (hi' _) hden
                    | false => exact sxDraw_ok hns hn htab hS hF hK gas (fuel + 1) hy hex hz (hi' _) hden
                  · cases h
                · cases h
              · cases h
            · cases h
        | none =>
          rw [hfd] at h
          simp only at h
          generalize hone : (fun (i : Nat) => (match ops[i]? with
            | some o => if (okD n o.dst && σ.wt G) = true then (match gd ops o σ with
              | some (.go true) => (match sDo C ks σ G.length o.op with
                | some (nds, v, σ') => if chkN S G nds = true then (match sxDraw C S n ks ops gas fuel (listed.setIfInBounds i true) (σ'.put o.dst v) (G ++ tysOf nds) K with
                  | some t => some (ndsT nds t)
                  | none => none) else none
                | none => none)
              | some (.go false) => sxDraw C S n ks ops gas fuel (listed.setIfInBounds i true) (σ.put o.dst (.tup [])) G K
              | _ => none) else none
            | none => none : Option Tr)) = one at h
          have hall : ∀ i ∈ r0 :: rs, one i = some t := by
            split at h
            · rename_i t0 h0
              split at h
              · rename_i hs
                cases h
                intro i hi
                rcases List.mem_cons.1 hi with rfl | hi
                · rw [← hone]; exact h0
                · exact allSame_spec hs _ (List.mem_map_of_mem hi)
              · cases h
            · cases h
          refine OD.all hr (by simp) (fun i hi' => ?_)
          have h1 := hall i hi'
          rw [← hone] at h1
          simp only at h1
          cases ho : ops[i]? with
          | none => rw [ho] at h1; cases h1
          | some o =>
            rw [ho] at h1
            simp only at h1
            refine ⟨o, rfl, ?_⟩
            split at h1
            · rename_i hb
              simp only [Bool.and_eq_true] at hb
              obtain ⟨hd, hwt⟩ := hb
              rw [hn] at hd
              refine ⟨hd, ?_⟩
              split at h1
              · rename_i hgd
                have hw := gd_go (env := env) hgd
                split at h1
                · rename_i nds v σ' hdo
                  split at h1
                  · rename_i hc
                    split at h1
                    · rename_i t' ht'
                      cases h1
                      obtain ⟨env', hrun, ht⟩ := den_ndsT hden
                      obtain ⟨k1, k2, ds, rfl⟩ := runNds_facts hF hc hz hrun
                      obtain ⟨e1, hg⟩ := SS.wt_good hz hwt hi ds
                      obtain ⟨hx, hinv⟩ := sDo_ok (P := P) (E := E) (o := o) htab hS hg hdo k2
                      rw [← e1] at hw ⊢
                      refine .inl ⟨hw, hx.mono (fun w τ ⟨hw', hτ⟩ => ?_)⟩
                      subst hw'
                      subst hτ
                      rw [← SS.put_den]
                      exact sxDraw_ok hns hn htab hS hF hK gas fuel ht' (hex.add ds) k1 (hinv.put _ _) ht
                    · cases h1
                  · cases h1
                · cases h1
              · rename_i hgd
                have hw := gd_go (env := env) hgd
                have hrest := sxDraw_ok hns hn htab hS hF hK gas fuel h1 hex hz (hi.put _ _) hden
                rw [SS.put_den] at hrest
                exact .inr ⟨hw, hrest⟩
              · cases h1
            · cases h1
end
end Go.BH
