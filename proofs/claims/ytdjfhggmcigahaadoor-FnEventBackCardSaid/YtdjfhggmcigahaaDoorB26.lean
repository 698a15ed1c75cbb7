/- Regions in a drawn order, in letters. -/
import Derived.Test.YtdjfhggmcigahaaDoorB25
set_option linter.unusedVariables false
set_option linter.unusedSimpArgs false
namespace Go.BH
open Go.RowKit
def canTake (C : Cx) (ks : List Nat) (ops : Array Oper) (listed : Array Bool) (σ : SS) (m : Nat) (i : Nat) : Bool :=
  Region.free .any ops listed i && (match ops[i]? with
    | some o => (match gd ops o σ with
      | some (.go true) => (match sPureC C (kpOf ks) σ m o.op with
        | some _ => true
        | none => false)
      | some (.go false) => true
      | some (.two _ _ _) => true
      | none => false)
    | none => false)
def findN (p : Nat → Bool) : List Nat → Option Nat
  | [] => none
  | i :: r => if p i = true then some i else findN p r
/-! ### the same, but for the order of its first nodes -/
def At.rn (θ : List Nat) : At → At
  | .v i => .v ((θ[i]?).getD i)
  | .k d => .k d
def At.lt (m : Nat) : At → Bool
  | .v i => Nat.blt i m
  | .k _ => true
def Nd.rn (θ : List Nat) : Nd → Nd
  | .pr p xs => .pr p (xs.map (At.rn θ))
  | .call f xs ps tys => .call f (xs.map (At.rn θ)) ps tys
def Nd.lt (m : Nat) : Nd → Bool
  | .pr p xs => xs.all (At.lt m)
  | .call f xs ps tys => xs.all (At.lt m)
def Tr.rn (θ : List Nat) : Tr → Tr
  | .out e xs => .out e (xs.map (At.rn θ))
  | .nd n t => .nd (n.rn θ) (Tr.rn θ t)
  | .ite a t f => .ite (a.rn θ) (Tr.rn θ t) (Tr.rn θ f)
  | .seq ps a b => .seq ps (Tr.rn θ a) (Tr.rn θ b)
  | .loop ps xs b => .loop ps (xs.map (At.rn θ)) (Tr.rn θ b)
  | .blk e ps a b => .blk e ps (Tr.rn θ a) (Tr.rn θ b)
  | .both a t f => .both (a.rn θ) (Tr.rn θ t) (Tr.rn θ f)
def posNd : List Nd → Nat → Nd → Option Nat
  | [], _, _ => none
  | n :: r, m, x => if Nd.beq n x = true then some m else posNd r (m + n.tys.length) x
def rnNds (nds : List Nd) (m : Nat) : List Nd → List Nat → Option (List Nat)
  | [], θ => some θ
  | x :: r, θ => if x.lt θ.length = true then (match posNd nds m (x.rn θ) with
    | some q => rnNds nds m r (θ ++ List.range' q x.tys.length)
    | none => none) else none
def splitT : Tr → List Nd × Tr
  | .nd n t => (n :: (splitT t).1, (splitT t).2)
  | t => ([], t)
def sameT (S : Kinds) (G : List CK) (t t' : Tr) : Bool := Tr.beq t' t || (chkN S G (splitT t).1 && Nat.beq (tysOf (splitT t').1).length (tysOf (splitT t).1).length && (match rnNds (splitT t).1 G.length (splitT t').1 (List.range G.length) with
  | some θ => Tr.beq ((splitT t').2.rn θ) (splitT t).2
  | none => false))
def allSame (S : Kinds) (G : List CK) (t : Tr) : List (Option Tr) → Bool
  | [] => true
  | some t' :: r => sameT S G t t' && allSame S G t r
  | none :: _ => false
/-- e' is e with its first letters in another order. -/
def Rn (θ : List Nat) (e' e : List D) : Prop := ∃ b' b ds, e' = b' ++ ds ∧ e = b ++ ds ∧ b'.length = θ.length ∧ b.length = θ.length ∧ ∀ (i j : Nat), θ[i]? = some j → j < θ.length ∧ b'[i]? = b[j]?
theorem Rn.add {θ : List Nat} {e' e : List D} (h : Rn θ e' e) (ds : List D) : Rn θ (e' ++ ds) (e ++ ds) := by
  obtain ⟨b', b, es, rfl, rfl, h1, h2, h3⟩ := h
  exact ⟨b', b, es ++ ds, by simp, by simp, h1, h2, h3⟩
theorem Rn.at {θ : List Nat} {e' e : List D} (h : Rn θ e' e) (a : At) : (a.rn θ).den e = a.den e' := by
  obtain ⟨b', b, es, rfl, rfl, h1, h2, h3⟩ := h
  cases a with
  | k d => rfl
  | v i =>
    simp only [At.rn, At.den]
    congr 1
    cases e : θ[i]? with
    | none =>
      have : θ.length ≤ i := List.getElem?_eq_none_iff.1 e
      simp only [Option.getD_none]
      rw [List.getElem?_append_right (by omega), List.getElem?_append_right (by omega), h1, h2]
    | some j =>
      obtain ⟨k1, k2⟩ := h3 i j e
      have : i < θ.length := (List.getElem?_eq_some_iff.1 e).1
      simp only [Option.getD_some]
      rw [List.getElem?_append_left (by omega), List.getElem?_append_left (by omega), k2]
theorem Rn.ats {θ : List Nat} {e' e : List D} (h : Rn θ e' e) (xs : List At) : (xs.map (At.rn θ)).map (At.den e) = xs.map (At.den e') := by
  rw [List.map_map]
  exact List.map_congr_left (fun a _ => h.at a)
theorem Rn.nd {Φ : Fns} {θ : List Nat} {e' e : List D} (h : Rn θ e' e) (n : Nd) : runNd Φ (n.rn θ) e = runNd Φ n e' := by
  cases n with
  | pr p xs => simp only [Nd.rn, runNd, h.ats]
  | call f xs ps tys => simp only [Nd.rn, runNd, h.ats]
theorem Rn.den {Φ : Fns} {k : Nat} {θ : List Nat} : ∀ {t : Tr} {e' e : List D}, Rn θ e' e → (t.rn θ).den Φ k e = t.den Φ k e'
  | .out n xs, e', e, h => by simp only [Tr.rn, Tr.den, h.ats]
  | .nd n t, e', e, h => by
    simp only [Tr.rn, Tr.den, h.nd]
    cases runNd Φ n e' with
    | none => rfl
    | some ds => exact Rn.den (h.add ds)
  | .ite a t f, e', e, h => by
    simp only [Tr.rn, Tr.den, h.at, Rn.den (t := t) h, Rn.den (t := f) h]
  | .seq ps a b, e', e, h => by
    have hb := fun vs => Rn.den (Φ := Φ) (k := k) (t := b) (h.add vs)
    simp only [Tr.rn, Tr.den, Rn.den (t := a) h, hb]
  | .loop ps xs b, e', e, h => by
    have hb := fun vs => Rn.den (Φ := Φ) (k := k) (t := b) (h.add vs)
    simp only [Tr.rn, Tr.den, h.ats, hb]
  | .blk n ps a b, e', e, h => by
    have hb := fun vs => Rn.den (Φ := Φ) (k := k) (t := b) (h.add vs)
    simp only [Tr.rn, Tr.den, Rn.den (t := a) h, hb]
  | .both a t f, e', e, h => by
    simp only [Tr.rn, Tr.den, h.at, Rn.den (t := t) h, Rn.den (t := f) h]
theorem splitT_eq : ∀ t : Tr, ndsT (splitT t).1 (splitT t).2 = t
  | .nd n t => by
    simp only [splitT, ndsT]
    rw [splitT_eq t]
  | .out .. => rfl
  | .ite .. => rfl
  | .seq .. => rfl
  | .loop .. => rfl
  | .blk .. => rfl
  | .both .. => rfl
theorem den_ndsT_mk {Φ : Fns} {k : Nat} {t : Tr} : ∀ {nds : List Nd} {env env' : List D}, runNds Φ nds env = some env' → (ndsT nds t).den Φ k env = t.den Φ k env'
  | [], env, env', h => by
    obtain rfl := Option.some.inj h
    rfl
  | n :: r, env, env', h => by
    simp only [runNds] at h
    simp only [ndsT, Tr.den]
    cases hn : runNd Φ n env with
    | none => rw [hn] at h; cases h
    | some ds =>
      rw [hn] at h
      exact den_ndsT_mk h
/-- What a node of a list gives, found at its place. -/
theorem posNd_ok {Φ : Fns} {env : List D} {x : Nd} {q : Nat} : ∀ {nds : List Nd} {m : Nat}, posNd nds m x = some q → Facts Φ env m nds → q + x.tys.length ≤ m + (tysOf nds).length ∧ runNd Φ x env = some ((List.range' q x.tys.length).map fun i => (At.v i).den env)
  | [], m, h, _ => by cases h
  | n :: r, m, h, hf => by
    simp only [posNd] at h
    split at h
    · rename_i e
      obtain rfl := Nd.beq_eq e
      cases h
      refine ⟨by simp only [tysOf, List.length_append]; omega, ?_⟩
      cases n with
      | pr p xs =>
        have := hf.1.1
        simp only [runNd, this, Nd.tys, List.length_singleton]
        rfl
      | call f xs ps tys =>
        obtain ⟨⟨_, rs, h1, h2, h3⟩, _⟩ := hf
        simp only [runNd, h1, Nd.tys]
        congr 1
        have hl := okZ_length h2
        apply List.ext_getElem?
        intro j
        rw [List.getElem?_map]
        rcases Nat.lt_or_ge j rs.length with g | g
        · rw [List.getElem?_range' (by omega), List.getElem?_eq_getElem g]
          simp only [Option.map_some, Nat.one_mul]
          rw [h3 j rs[j] (List.getElem?_eq_getElem g)]
        · rw [List.getElem?_eq_none g, List.getElem?_eq_none (by simp; omega)]
          rfl
    · have hr : Facts Φ env (m + n.tys.length) r := by
        cases n with
        | pr p xs => exact hf.2
        | call f xs ps tys => exact hf.2
      obtain ⟨h2, h3⟩ := posNd_ok h hr
      refine ⟨by simp only [tysOf, List.length_append]; omega, h3⟩
theorem rnNd_at {Φ : Fns} {env1 : List D} {θ : List Nat} {x : Nd} (h : x.lt θ.length = true) : runNd Φ (x.rn θ) env1 = runNd Φ x (θ.map fun i => (At.v i).den env1) := by
  have key : ∀ xs : List At, xs.all (At.lt θ.length) = true → (xs.map (At.rn θ)).map (At.den env1) = xs.map (At.den (θ.map fun i => (At.v i).den env1)) := fun xs hx => by
    rw [List.map_map]
    refine List.map_congr_left (fun a ha => ?_)
    have := List.all_eq_true.1 hx a ha
    cases a with
    | k d => rfl
    | v i =>
      simp only [At.lt] at this
      have hi : i < θ.length := Nat.le_of_ble_eq_true this
      simp [At.rn, At.den, hi]
  cases x with
  | pr p xs => simp only [Nd.rn, runNd, key xs h]
  | call f xs ps tys => simp only [Nd.rn, runNd, key xs h]
theorem rnNds_ok {Φ : Fns} {env1 : List D} {nds : List Nd} {m : Nat} (hf : Facts Φ env1 m nds) (hl : env1.length = m + (tysOf nds).length) : ∀ {nds' : List Nd} {θ θ' : List Nat}, rnNds nds m nds' θ = some θ' → (∀ j ∈ θ, j < env1.length) → runNds Φ nds' (θ.map fun i => (At.v i).den env1) = some (θ'.map fun i => (At.v i).den env1) ∧ (∀ j ∈ θ', j < env1.length) ∧ θ'.length = θ.length + (tysOf nds').length
  | [], θ, θ', h, hj => by
    cases h
    exact ⟨rfl, hj, by simp [tysOf]⟩
  | x :: r, θ, θ', h, hj => by
    simp only [rnNds] at h
    split at h
    · rename_i hlt
      split at h
      · rename_i q hq
        obtain ⟨h2, h3⟩ := posNd_ok hq hf
        have hxl : (x.rn θ).tys = x.tys := by cases x <;> rfl
        rw [hxl] at h2 h3
        rw [rnNd_at hlt] at h3
        obtain ⟨k1, k2, k3⟩ := rnNds_ok hf hl h (fun j hj' => by
          rcases List.mem_append.1 hj' with g | g
          · exact hj j g
          · have := List.mem_range'_1.1 g
            omega)
        refine ⟨?_, k2, ?_⟩
        · simp only [runNds, h3]
          rw [← k1, List.map_append]
        · rw [k3]
          simp only [tysOf, List.length_append, List.length_range']
          omega
      · cases h
    · cases h
theorem sameT_den {Φ : Fns} {S : Kinds} {G : List CK} {t t' : Tr} {k : Nat} {env : List D} {out : Nat × List D} (hF : FnsOk S Φ) (hz : okZ G env = true) (h : sameT S G t t' = true) (hd : t.den Φ k env = some out) : t'.den Φ k env = some out := by
  unfold sameT at h
  rw [Bool.or_eq_true] at h
  rcases h with h | h
  · rw [Tr.beq_eq h]
    exact hd
  · simp only [Bool.and_eq_true] at h
    obtain ⟨⟨h1, h2⟩, h3⟩ := h
    split at h3
    · rename_i θ hθ
      rw [← splitT_eq t] at hd
      obtain ⟨env1, hr, hd1⟩ := den_ndsT hd
      obtain ⟨k1, k2, ds, rfl⟩ := runNds_facts hF h1 hz hr
      have hlen : (env ++ ds).length = G.length + (tysOf (splitT t).1).length := by
        rw [← okZ_len k1, List.length_append]
      have hG := okZ_len hz
      obtain ⟨g1, g2, g3⟩ := rnNds_ok k2 hlen hθ (fun j hj => by
        have := List.mem_range.1 hj
        rw [List.length_append]
        omega)
      have e0 : (List.range G.length).map (fun i => (At.v i).den (env ++ ds)) = env := by
        rw [hG]
        apply List.ext_getElem?
        intro j
        rw [List.getElem?_map]
        rcases Nat.lt_or_ge j env.length with g | g
        · rw [List.getElem?_range g]
          simp [At.den, List.getElem?_append_left g, g]
        · rw [List.getElem?_eq_none g, List.getElem?_eq_none (by simp; omega)]
          rfl
      rw [e0] at g1
      have g4 : θ.length = (env ++ ds).length := by
        rw [g3, hlen, List.length_range, Nat.eq_of_beq_eq_true h2]
      have hrn : Rn θ (θ.map fun i => (At.v i).den (env ++ ds)) (env ++ ds) := by
        refine ⟨θ.map fun i => (At.v i).den (env ++ ds), env ++ ds, [], (List.append_nil _).symm, (List.append_nil _).symm, List.length_map _, g4.symm, fun i j hij => ?_⟩
        have hj := g2 j (List.mem_of_getElem? hij)
        refine ⟨by omega, ?_⟩
        rw [List.getElem?_map, hij]
        simp only [Option.map_some, At.den]
        rw [List.getElem?_eq_getElem hj]
        rfl
      rw [← splitT_eq t', den_ndsT_mk g1, ← hrn.den, Tr.beq_eq h3]
      exact hd1
    · cases h3
/-- A region in whatever order: those that only reckon are taken first; then all that may come next are tried. -/
def sxDraw (C : Cx) (S : Kinds) (n : Nat) (ks : List Nat) (ops : Array Oper) : Nat → Nat → Array Bool → SS → List CK → (SS → List CK → Option Tr) → Option Tr
  | 0, _, _, _, _, _ => none
  | gas + 1, fuel, listed, σ, G, K =>
    match Region.ready .any ops listed with
    | [] => K σ G
    | r0 :: rs => match fuel with
      | 0 => none
      | fuel' + 1 => match findN (canTake C ks ops listed σ G.length) (r0 :: rs) with
        | some i => (match ops[i]? with
          | some o => if (okD n o.dst && σ.wt G) = true then (match gd ops o σ with
            | some (.go true) => (match sPureC C (kpOf ks) σ G.length o.op with
              | some (nds, v) => if chkN S G nds = true then (match sxDraw C S n ks ops gas fuel' (listed.setIfInBounds i true) (σ.put o.dst v) (G ++ tysOf nds) K with
                | some t => some (ndsT nds t)
                | none => none) else none
              | none => none)
            | some (.go false) => sxDraw C S n ks ops gas fuel' (listed.setIfInBounds i true) (σ.put o.dst (.tup [])) G K
            | some (.two a t want) => if tyA G a .bool = true then (match sxDraw C S n ks ops gas (fuel' + 1) listed (σ.know t true) G K, sxDraw C S n ks ops gas (fuel' + 1) listed (σ.know t false) G K with
              | some x, some y => some (.ite a x y)
              | _, _ => none) else none
            | none => none) else none
          | none => none)
        | none =>
          let one := fun (i : Nat) => match ops[i]? with
            | some o => if (okD n o.dst && σ.wt G) = true then (match gd ops o σ with
              | some (.go true) => (match sDo C ks σ G.length o.op with
                | some (nds, v, σ') => if chkN S G nds = true then (match sxDraw C S n ks ops gas fuel' (listed.setIfInBounds i true) (σ'.put o.dst v) (G ++ tysOf nds) K with
                  | some t => some (ndsT nds t)
                  | none => none) else none
                | none => none)
              | some (.go false) => sxDraw C S n ks ops gas fuel' (listed.setIfInBounds i true) (σ.put o.dst (.tup [])) G K
              | _ => none) else none
            | none => none
          match one r0 with
          | some t => if allSame S G t (rs.map one) = true then some t else none
          | none => none
section
variable {P : Program} {E : En} {C : Cx} {Φ : Fns} {S : Kinds}
theorem OD.all {ops : Array Oper} {kp : Nat → Bool} {N : St → Prop} {fuel : Nat} {listed : Array Bool} {σ : St} {rs : List Nat} (hr : Region.ready .any ops listed = rs) (hne : rs ≠ [])
    (h : ∀ i ∈ rs, ∃ oi, ops[i]? = some oi ∧ okD E.n oi.dst = true ∧ ((wantsB ops oi σ true ∧ OX P E kp oi σ (fun v σ' => OD P E ops kp N fuel (listed.setIfInBounds i true) (σ'.put oi.dst v))) ∨ (wantsB ops oi σ false ∧ OD P E ops kp N fuel (listed.setIfInBounds i true) (σ.put oi.dst (.tup []))))) : OD P E ops kp N (fuel + 1) listed σ := fun μ a w hI => by
  refine wpAnyH_all hr hne (fun i hi => ?_)
  obtain ⟨oi, ho, hd, ⟨hw, hx⟩ | ⟨hw, hx⟩⟩ := h i hi
  · unfold wpOp
    simp only [ho, wanted_of hI hw, if_true]
    refine .inl (hx μ a w hI _ _ (fun v σ' c μ' w' k hv hi' hs => ⟨hs.sm, ?_⟩))
    exact wpAnyH_mono (fun w'' hw'' => hs.trans hw'') _ _ _ _ (k μ' _ w' (hi'.put hd hv))
  · unfold wpOp
    simp only [ho, wanted_of hI hw, Bool.false_eq_true, if_false]
    exact ⟨.refl _ _ _, hx μ _ w (hI.put hd (.tup .nil))⟩
theorem OD.know {ops : Array Oper} {kp : Nat → Bool} {N : St → Prop} {fuel : Nat} {listed : Array Bool} {σ : St} {t : Nat} {g : Bool} (ht : tk σ.T t = .v (.bool g)) (h : OD P E ops kp N fuel listed (σ.know t g)) : OD P E ops kp N fuel listed σ := fun μ a w hi => h μ a w (hi.know ht)
theorem findN_spec {p : Nat → Bool} : ∀ {l : List Nat} {i : Nat}, findN p l = some i → i ∈ l ∧ p i = true
  | [], i, h => by cases h
  | j :: r, i, h => by
    simp only [findN] at h
    split at h
    · rename_i hp
      cases h
      exact ⟨List.mem_cons_self, hp⟩
    · obtain ⟨h1, h2⟩ := findN_spec h
      exact ⟨List.mem_cons_of_mem _ h1, h2⟩
theorem allSame_spec {S : Kinds} {G : List CK} {t : Tr} : ∀ {l : List (Option Tr)}, allSame S G t l = true → ∀ x ∈ l, ∃ t', x = some t' ∧ sameT S G t t' = true
  | [], _, x, hx => by cases hx
  | some t' :: r, h, x, hx => by
    simp only [allSame, Bool.and_eq_true] at h
    rcases List.mem_cons.1 hx with rfl | hx
    · exact ⟨t', rfl, h.1⟩
    · exact allSame_spec h.2 x hx
  | none :: r, h, x, hx => by cases h
theorem sxDraw_ok {k n : Nat} {ks : List Nat} {ops : Array Oper} (hns : Region.noSelect ops = true) (hn : n = E.n) (htab : TabOk P C.tab) (hS : ∀ (j : Nat) (s : Sig), C.sigs[j]? = some s → SigOk P Φ j s) (hF : FnsOk S Φ) {K : SS → List CK → Option Tr} {N : St → Prop} {out : Nat × List D} {env0 : List D} (hK : KS Φ k env0 K N out) :
    ∀ (gas fuel : Nat) {listed : Array Bool} {σ : SS} {G : List CK} {env : List D} {t : Tr}, sxDraw C S n ks ops gas fuel listed σ G K = some t → Ext env0 env → okZ G env = true → SInv env σ → t.den Φ k env = some out → OD P E ops (kpOf ks) N fuel listed (σ.den env)
  | 0, _, _, _, _, _, _, h, _, _, _, _ => by cases h
  | gas + 1, fuel, listed, σ, G, env, t, h, hex, hz, hi, hden => by
    unfold sxDraw at h
    cases hr : Region.ready .any ops listed with
    | nil =>
      rw [hr] at h
      exact OD.done hr (hK σ G t env hex h hz hi hden)
    | cons r0 rs =>
      rw [hr] at h
      simp only at h
      cases fuel with
      | zero => cases h
      | succ fuel =>
        simp only at h
        cases hfd : findN (canTake C ks ops listed σ G.length) (r0 :: rs) with
        | some i =>
          rw [hfd] at h
          simp only at h
          obtain ⟨h1, h2⟩ := findN_spec hfd
          simp only [canTake, Bool.and_eq_true] at h2
          have hfree := h2.1
          have hready : (Region.ready .any ops listed).contains i = true := by rw [hr]; simpa using h1
          cases ho : ops[i]? with
          | none => rw [ho] at h; cases h
          | some o =>
            rw [ho] at h
            simp only at h
            split at h
            · rename_i hb
              simp only [Bool.and_eq_true] at hb
              obtain ⟨hd, hwt⟩ := hb
              rw [hn] at hd
              split at h
              · rename_i hgd
                have hw := gd_go (env := env) hgd
                split at h
                · rename_i nds v hp
                  split at h
                  · rename_i hc
                    split at h
                    · rename_i t' ht'
                      cases h
                      obtain ⟨env', hrun, ht⟩ := den_ndsT hden
                      obtain ⟨k1, k2, ds, rfl⟩ := runNds_facts hF hc hz hrun
                      obtain ⟨e1, hg⟩ := SS.wt_good hz hwt hi ds
                      have hop := sPure_ok (P := P) (E := E) (o := o) htab hg (sPureC_eq hp) k2
                      have hrest := sxDraw_ok hns hn htab hS hF hK gas fuel ht' (hex.add ds) k1 (SInv.put (sinv_ext hz hwt hi ds) _ _) ht
                      rw [SS.put_den] at hrest
                      rw [← e1] at hw ⊢
                      exact OD.take i ho hns hfree hready hw hd hop hrest
                    · cases h
                  · cases h
                · cases h
              · rename_i hgd
                have hw := gd_go (env := env) hgd
                have hrest := sxDraw_ok hns hn htab hS hF hK gas fuel h hex hz (hi.put _ _) hden
                rw [SS.put_den] at hrest
                exact OD.no i ho hns hfree hready hw hd hrest
              · rename_i a tt want hgd
                split at h
                · rename_i hta
                  split at h
                  · rename_i x y hx hy
                    cases h
                    obtain ⟨g, hg⟩ := okC_bool (tyA_ok hz hta)
                    have ht : tk (σ.den env).T tt = .v (.bool g) := by
                      have := tk_denT env tt σ.T
                      rw [gd_two hgd, SV.den, hg, encC_bool] at this
                      exact this
                    simp only [Tr.den, hg] at hden
                    refine OD.know ht ?_
                    rw [← SS.know_den]
                    have hi' : ∀ b, SInv env (σ.know tt b) := fun b => hi
                    cases g with
                    | true => exact sxDraw_ok hns hn htab hS hF hK gas (fuel + 1) hx hex hz (hi' _) hden
                    | false => exact sxDraw_ok hns hn htab hS hF hK gas (fuel + 1) hy hex hz (hi' _) hden
                  · cases h
                · cases h
              · cases h
            · cases h
        | none =>
          rw [hfd] at h
          simp only at h
          generalize hone : (fun (i : Nat) => (match ops[i]? with
            | some o => if (okD n o.dst && σ.wt G) = true then (match gd ops o σ with
              | some (.go true) => (match sDo C ks σ G.length o.op with
                | some (nds, v, σ') => if chkN S G nds = true then (match sxDraw C S n ks ops gas fuel (listed.setIfInBounds i true) (σ'.put o.dst v) (G ++ tysOf nds) K with
                  | some t => some (ndsT nds t)
                  | none => none) else none
                | none => none)
              | some (.go false) => sxDraw C S n ks ops gas fuel (listed.setIfInBounds i true) (σ.put o.dst (.tup [])) G K
              | _ => none) else none
            | none => none : Option Tr)) = one at h
          have hall : ∀ i ∈ r0 :: rs, ∃ t', one i = some t' ∧ t'.den Φ k env = some out := by
            split at h
            · rename_i t0 h0
              split at h
              · rename_i hs
                cases h
                intro i hi
                rcases List.mem_cons.1 hi with rfl | hi
                · exact ⟨_, by rw [← hone]; exact h0, hden⟩
                · obtain ⟨t', e1, e2⟩ := allSame_spec hs _ (List.mem_map_of_mem hi)
                  exact ⟨t', e1, sameT_den hF hz e2 hden⟩
              · cases h
            · cases h
          refine OD.all hr (by simp) (fun i hi' => ?_)
          obtain ⟨t', h1, hden'⟩ := hall i hi'
          clear hden
          have hden := hden'
          rw [← hone] at h1
          simp only at h1
          cases ho : ops[i]? with
          | none => rw [ho] at h1; cases h1
          | some o =>
            rw [ho] at h1
            simp only at h1
            refine ⟨o, rfl, ?_⟩
            split at h1
            · rename_i hb
              simp only [Bool.and_eq_true] at hb
              obtain ⟨hd, hwt⟩ := hb
              rw [hn] at hd
              refine ⟨hd, ?_⟩
              split at h1
              · rename_i hgd
                have hw := gd_go (env := env) hgd
                split at h1
                · rename_i nds v σ' hdo
                  split at h1
                  · rename_i hc
                    split at h1
                    · rename_i t' ht'
                      cases h1
                      obtain ⟨env', hrun, ht⟩ := den_ndsT hden
                      obtain ⟨k1, k2, ds, rfl⟩ := runNds_facts hF hc hz hrun
                      obtain ⟨e1, hg⟩ := SS.wt_good hz hwt hi ds
                      obtain ⟨hx, hinv⟩ := sDo_ok (P := P) (E := E) (o := o) htab hS hg hdo k2
                      rw [← e1] at hw ⊢
                      refine .inl ⟨hw, hx.mono (fun w τ ⟨hw', hτ⟩ => ?_)⟩
                      subst hw'
                      subst hτ
                      rw [← SS.put_den]
                      exact sxDraw_ok hns hn htab hS hF hK gas fuel ht' (hex.add ds) k1 (hinv.put _ _) ht
                    · cases h1
                  · cases h1
                · cases h1
              · rename_i hgd
                have hw := gd_go (env := env) hgd
                have hrest := sxDraw_ok hns hn htab hS hF hK gas fuel h1 hex hz (hi.put _ _) hden
                rw [SS.put_den] at hrest
                exact .inr ⟨hw, hrest⟩
              · cases h1
            · cases h1
end
end Go.BH
