/- Pure operations in letters. -/
import Derived.Test.YtdjfhggmcigahaaDoorB14
set_option linter.unusedVariables false
set_option linter.unusedSimpArgs false
namespace Go.BH
open Go.RowKit
/-- One step of what a function computes: an operation on data, or a call. -/
inductive Nd where
  | pr (p : Pr) (xs : List At)
  | call (f : Nat) (xs : List At) (ps tys : List CK)
  deriving Inhabited
def Nd.tys : Nd → List CK
  | .pr p _ => [p.ty]
  | .call _ _ _ tys => tys
def tysOf : List Nd → List CK
  | [] => []
  | n :: r => n.tys ++ tysOf r
abbrev Fns := Nat → List D → Option (List D)
def runNd (G : Fns) : Nd → List D → Option (List D)
  | .pr p xs, env => match p.eval (xs.map (At.den env)) with
    | some d => some [d]
    | none => none
  | .call f xs _ _, env => G f (xs.map (At.den env))
def runNds (G : Fns) : List Nd → List D → Option (List D)
  | [], env => some env
  | n :: r, env => match runNd G n env with
    | some ds => runNds G r (env ++ ds)
    | none => none
def Fact (env : List D) (m : Nat) (p : Pr) (xs : List At) : Prop := p.eval (xs.map (At.den env)) = some ((At.v m).den env) ∧ okZ p.args (xs.map (At.den env)) = true
def Facts (Φ : Fns) (env : List D) : Nat → List Nd → Prop
  | _, [] => True
  | m, .pr p xs :: r => Fact env m p xs ∧ Facts Φ env (m + 1) r
  | m, .call f xs ps tys :: r => (okZ ps (xs.map (At.den env)) = true ∧ ∃ rs, Φ f (xs.map (At.den env)) = some rs ∧ okZ tys rs = true ∧ ∀ (j : Nat) (d : D), rs[j]? = some d → (At.v (m + j)).den env = d) ∧ Facts Φ env (m + tys.length) r
/-- What kinds a function takes and gives. -/
abbrev Kinds := Nat → Option (List CK × List CK)
def chkN (S : Kinds) (G : List CK) : List Nd → Bool
  | [] => true
  | .pr p xs :: r => p.wf && tyAs G xs p.args && chkN S (G ++ [p.ty]) r
  | .call f xs ps tys :: r => (match S f with
    | some (ps', rs) => tyAs G xs ps && CK.beqs ps' ps && CK.beqs rs tys
    | none => false) && chkN S (G ++ tys) r
def FnsOk (S : Kinds) (F : Fns) : Prop := ∀ f ps rs, S f = some (ps, rs) → ∀ vs ws, okZ ps vs = true → F f vs = some ws → okZ rs ws = true
theorem map_ext {G : List CK} {env : List D} (h : okZ G env = true) (ds : List D) : ∀ {as : List At} {ks : List CK}, tyAs G as ks = true → as.map (At.den (env ++ ds)) = as.map (At.den env)
  | [], _, _ => rfl
  | _ :: _, [], h' => by simp [tyAs] at h'
  | a :: as, k :: ks, h' => by
    simp only [tyAs, Bool.and_eq_true] at h'
    simp only [List.map_cons]
    rw [tyA_ext h h'.1, map_ext h ds h'.2]
theorem runNds_facts {Φ : Fns} {S : Kinds} (hF : FnsOk S Φ) : ∀ {nds : List Nd} {G : List CK} {env env' : List D}, chkN S G nds = true → okZ G env = true → runNds Φ nds env = some env' → okZ (G ++ tysOf nds) env' = true ∧ Facts Φ env' G.length nds ∧ ∃ ds, env' = env ++ ds
  | [], G, env, env', _, h, hr => by
    obtain rfl := Option.some.inj hr
    exact ⟨by simpa [tysOf] using h, trivial, [], by simp⟩
  | .call f xs ps0 tys :: r, G, env, env', hc, h, hr => by
    simp only [chkN, Bool.and_eq_true] at hc
    obtain ⟨h1, h3⟩ := hc
    split at h1
    · rename_i ps rs hS
      simp only [Bool.and_eq_true] at h1
      obtain ⟨⟨h1, h2'⟩, h2⟩ := h1
      obtain rfl := CK.beqs_eq h2
      obtain rfl := CK.beqs_eq h2'
      simp only [runNds, runNd] at hr
      have hargs := tyAs_ok h h1
      cases he : Φ f (xs.map (At.den env)) with
      | none => rw [he] at hr; cases hr
      | some ws =>
        rw [he] at hr
        have hws := hF f ps rs hS _ _ hargs he
        obtain ⟨k1, k2, ds, k3⟩ := runNds_facts hF h3 (okZ_app h hws) hr
        refine ⟨by simpa [tysOf, Nd.tys] using k1, ⟨⟨by rw [k3, List.append_assoc, map_ext h _ h1]; exact hargs, ws, ?_, hws, fun j d hj => ?_⟩, by simpa using k2⟩, ws ++ ds, by rw [k3]; simp⟩
        · rw [k3, List.append_assoc, map_ext h _ h1]
          exact he
        · have hlt : j < ws.length := by
            rcases Nat.lt_or_ge j ws.length with g | g
            · exact g
            · rw [List.getElem?_eq_none g] at hj; cases hj
          rw [k3, okZ_len h]
          simp only [At.den]
          rw [List.append_assoc, List.getElem?_append_right (by omega), Nat.add_sub_cancel_left, List.getElem?_append_left hlt, hj]
          rfl
    · cases h1
  | .pr p xs :: r, G, env, env', hc, h, hr => by
    simp only [chkN, Bool.and_eq_true] at hc
    obtain ⟨⟨h1, h2⟩, h3⟩ := hc
    simp only [runNds, runNd] at hr
    have hargs := tyAs_ok h h2
    cases he : p.eval (xs.map (At.den env)) with
    | none => rw [he] at hr; cases hr
    | some d =>
      rw [he] at hr
      have hd := Pr.ok h1 hargs he
      obtain ⟨k1, k2, ds, k3⟩ := runNds_facts hF h3 (okZ_snoc h hd) hr
      refine ⟨by simpa [tysOf, Nd.tys] using k1, ⟨?_, by simpa using k2⟩, d :: ds, by rw [k3]; simp⟩
      have hext : xs.map (At.den env') = xs.map (At.den env) := by
        rw [k3, List.append_assoc]
        exact map_ext h _ h2
      have hm : (At.v G.length).den env' = d := by
        rw [k3, okZ_len h]
        simp [At.den]
      exact ⟨by rw [hext, hm]; exact he, by rw [hext]; exact hargs⟩
/-! ### the operations -/
def whole (σ : SS) (i : Nat) (n : At) : Bool := match hgetS σ.H i with
  | some (.arr _ _ n') => (match n, n' with
    | .v a, .v b => Nat.beq a b
    | .k (.i a), .k (.i b) => decide (a = b)
    | _, _ => false)
  | _ => false
def isZ : At → Bool
  | .k (.i 0) => true
  | _ => false
/-- A slice by value. -/
def asSl : SV → Option (Bool × List CK × At)
  | .dat (.sl e) a => some (false, e, a)
  | .lz e a => some (true, e, a)
  | _ => none
def ofSl (l : Bool) (e : List CK) (a : At) : SV := match l with
  | true => .lz e a
  | false => .dat (.sl e) a
theorem encC_sl (e : List CK) (xs : List D) : encC (.sl e) (.l xs) = .fz false e.length xs.length (encR e xs) := by rw [encC, encR]
theorem asSl_den {env : List D} {x : SV} {l : Bool} {e : List CK} {a : At} (h : asSl x = some (l, e, a)) (hg : x.good env = true) : ∃ xs, a.den env = .l xs ∧ (∀ y ∈ xs, okE e y = true) ∧ x.den env = .fz l e.length xs.length (encR e xs) := by
  unfold asSl at h
  split at h
  · cases h
    obtain ⟨xs, h1, h2⟩ := okC_sl (show okC (.sl e) (a.den env) = true from hg)
    exact ⟨xs, h1, h2, by rw [SV.den, h1, encC_sl]⟩
  · cases h
    obtain ⟨xs, h1, h2⟩ := okC_sl (show okC (.sl e) (a.den env) = true from hg)
    exact ⟨xs, h1, h2, by simp only [SV.den, h1, D.items]⟩
  · cases h
theorem ofSl_den {env : List D} {l : Bool} {e : List CK} {a : At} {xs : List D} (h : a.den env = .l xs) : (ofSl l e a).den env = .fz l e.length xs.length (encR e xs) := by
  cases l
  · rw [ofSl, SV.den, h, encC_sl]
  · simp only [ofSl, SV.den, h, D.items]
theorem whole_inv {env : List D} {σ : SS} (hg : σ.Good env) {i : Nat} {n : At} (h : whole σ i n = true) : ∃ e a n', hgetS σ.H i = some (.arr e a n') ∧ n.den env = .i (a.den env).items.length := by
  unfold whole at h
  split at h
  · rename_i e a n' hh
    refine ⟨e, a, n', hh, ?_⟩
    have := (hg.A i e a n' hh).2
    split at h
    · obtain rfl := Nat.eq_of_beq_eq_true h
      exact this
    · have h' := of_decide_eq_true h
      subst h'
      exact this
    · cases h
  · cases h
def SV.cells : SV → List SV
  | .agg xs => xs
  | x => [x]
theorem SV.cells_den {env : List D} (x : SV) : (x.den env).cells = SV.dens env x.cells := by
  cases x with
  | dat k a =>
    simp only [SV.den, SV.cells, SV.dens]
    exact encC_cells k _
  | ifc a =>
    simp only [SV.den, SV.cells, SV.dens]
    unfold ifcA
    split <;> rfl
  | _ => rfl
/-- One cell's worth, in letters. -/
def SV.one : SV → Bool
  | .any => false
  | .agg _ => false
  | .tup _ => false
  | .K v => v.oneCell'
  | _ => true
theorem SV.one_den {env : List D} {x : SV} (h : x.one = true) (hg : x.good env = true) : (x.den env).one = true := by
  cases x with
  | dat k a => exact encC_one hg
  | K v => exact h
  | any => cases h
  | agg => cases h
  | tup => cases h
  | nilS => rfl
  | ifc a =>
    simp only [SV.den]
    unfold ifcA
    split <;> rfl
  | _ => rfl
def SV.ones : List SV → Bool
  | [] => true
  | x :: xs => x.one && SV.ones xs
theorem SV.ones_den {env : List D} : ∀ {xs : List SV}, SV.ones xs = true → SV.goods env xs = true → BH.ones (SV.dens env xs) = true
  | [], _, _ => rfl
  | x :: xs, h, hg => by
    simp only [SV.ones, Bool.and_eq_true] at h
    simp only [SV.goods, Bool.and_eq_true] at hg
    have := SV.ones_den h.2 hg.2
    simp only [BH.ones, SV.dens, List.all_cons, Bool.and_eq_true] at this ⊢
    exact ⟨SV.one_den h.1 hg.1, this⟩
/-- The cells js of element ix of the list a. -/
def getsN (e : List CK) (a ix : At) : List Nat → List Nd
  | [] => []
  | j :: js => .pr (.get e j) [a, ix] :: getsN e a ix js
def getsV (e : List CK) : Nat → List Nat → List SV
  | _, [] => []
  | m, j :: js => .dat (e.getD j .bool) (.v m) :: getsV e (m + 1) js
theorem get_fact {env : List D} {m : Nat} {e : List CK} {j : Nat} {a ix : At} (h : Fact env m (.get e j) [a, ix]) (hj : j < e.length) : ∃ xs i d, a.den env = .l xs ∧ ix.den env = .i i ∧ 0 ≤ i ∧ xs[i.toNat]? = some d ∧ (row e d)[j]? = some ((At.v m).den env) ∧ (encR e xs)[i.toNat * e.length + j]? = some (encC (e.getD j .bool) ((At.v m).den env)) := by
  obtain ⟨h1, h2⟩ := h
  simp only [List.map_cons, List.map_nil, Pr.args, okZ, Bool.and_eq_true, Bool.and_true] at h1 h2
  obtain ⟨xs, hx, _⟩ := okC_sl h2.1
  obtain ⟨i, hi⟩ := okC_int h2.2
  rw [hx, hi] at h1
  simp only [Pr.eval] at h1
  split at h1
  · cases h1
  · rename_i hneg
    cases hd : xs[i.toNat]? with
    | none => rw [hd] at h1; cases h1
    | some d =>
      rw [hd] at h1
      simp only [Option.bind_some] at h1
      refine ⟨xs, i, d, hx, hi, by omega, hd, h1, ?_⟩
      rw [encR_get hd hj]
      have hk : e[j]? = some (e.getD j .bool) := by simp [List.getD, hj]
      exact encZ_get j hk h1
theorem gets_fact {Φ : Fns} {env : List D} {e : List CK} {a ix : At} : ∀ (n : Nat) {m j : Nat}, Facts Φ env m (getsN e a ix (List.range' j n)) → j + n ≤ e.length → n ≠ 0 → ∃ xs i, a.den env = .l xs ∧ ix.den env = .i i ∧ 0 ≤ i ∧ ((encR e xs).drop (i.toNat * e.length + j)).take n = SV.dens env (getsV e m (List.range' j n))
  | 0, _, _, _, _, h => absurd rfl h
  | n + 1, m, j, h, hle, _ => by
    simp only [List.range'_succ, getsN, Facts] at h
    obtain ⟨xs, i, d, h1, h2, h3, h4, h5, h6⟩ := get_fact h.1 (by omega)
    refine ⟨xs, i, h1, h2, h3, ?_⟩
    simp only [List.range'_succ, getsV, SV.dens, SV.den]
    have hlt : i.toNat * e.length + j < (encR e xs).length := by
      rcases Nat.lt_or_ge (i.toNat * e.length + j) (encR e xs).length with g | g
      · exact g
      · rw [List.getElem?_eq_none g] at h6; cases h6
    rw [List.drop_eq_getElem_cons hlt, List.take_succ_cons]
    rw [List.getElem?_eq_getElem hlt] at h6
    rw [Option.some.inj h6]
    congr 1
    rcases Nat.eq_zero_or_pos n with e0 | e0
    · subst e0; simp [getsV, SV.dens]
    · obtain ⟨xs', i', k1, k2, k3, k4⟩ := gets_fact n h.2 (by omega) (by omega)
      rw [h1] at k1
      cases k1
      rw [h2] at k2
      cases k2
      rw [← k4, Nat.add_assoc]
def okSz (a b n : Nat) : Bool := Nat.ble (a + b) n
def sLoad (tab : TyTab) (kp : Nat → Bool) (σ : SS) (m : Nat) (t : TypeId) (p : SV) : Option (List Nd × SV) :=
  match tyGet tab t with
  | none => none
  | some T => match p with
    | .ptr i o => if kp i = true then match hgetS σ.H i with
        | some (.cells xs) => if T.agg = true then (if (!Nat.beq T.size 0 && okSz o T.size xs.length) = true then some ([], .agg ((xs.drop o).take T.size)) else none) else (match xs[o]? with
          | some v => some ([], v)
          | none => none)
        | _ => none else none
    | .ptrE i ix s off => if kp i = true then match hgetS σ.H i with
        | some (.arr e a n) => if Nat.beq s e.length = true then (if T.agg = true then (if (!Nat.beq T.size 0 && okSz off T.size e.length) = true then some (getsN e a ix (List.range' off T.size), .agg (getsV e m (List.range' off T.size))) else none)
            else if Nat.blt off e.length = true then some ([.pr (.get e off) [a, ix]], .dat (e.getD off .bool) (.v m)) else none) else none
        | _ => none else none
    | .pfz l e a ix off => if T.agg = true then (if (!Nat.beq T.size 0 && okSz off T.size e.length) = true then some (getsN e a ix (List.range' off T.size), .agg (getsV e m (List.range' off T.size))) else none)
            else if Nat.blt off e.length = true then some ([.pr (.get e off) [a, ix]], .dat (e.getD off .bool) (.v m)) else none
    | _ => none
section
variable {P : Program} {E : En} {σ : SS} {o : Oper} {kp : Nat → Bool} {tab : TyTab} {env : List D} {m : Nat} {nds : List Nd} {v : SV} {Φ : Fns}
theorem dens_drop (xs : List SV) (n : Nat) : (SV.dens env xs).drop n = SV.dens env (xs.drop n) := by simp [dens_map, List.map_drop]
theorem dens_take (xs : List SV) (n : Nat) : (SV.dens env xs).take n = SV.dens env (xs.take n) := by simp [dens_map, List.map_take]
theorem dens_len (xs : List SV) : (SV.dens env xs).length = xs.length := by simp [dens_map]
theorem dens_get (xs : List SV) (n : Nat) : (SV.dens env xs)[n]? = (xs[n]?).map (SV.den env) := by simp [dens_map]
theorem sLoad_ok {t : TypeId} {p : Operand} (htab : TabOk P tab) (ho : o.op = .load t p) (h : sLoad tab kp σ m t (σ.ev p) = some (nds, v)) (hf : Facts Φ env m nds) : OP P E kp o (σ.den env) (v.den env) := by
  unfold sLoad at h
  split at h
  · cases h
  · rename_i T hT
    obtain ⟨d, info, z, hu, hi, hz, t1, t2, t3, t4, t5, t6⟩ := tyGet_ok htab hT
    have hp := SS.ev_den env σ p
    split at h
    · rename_i i oo hv
      rw [hv] at hp
      split at h
      · rename_i hk
        split at h
        · rename_i xs hh
          have hg : hget (σ.den env).H i = some (SV.dens env xs) := by
            show hget (denH env σ.H) i = _
            rw [hget_denH, hh]; rfl
          split at h
          · rename_i ha
            split at h
            · rename_i hb
              simp only [Bool.and_eq_true, Bool.not_eq_true'] at hb
              have h2 := Nat.le_of_ble_eq_true hb.2
              have h0 : info.size ≠ 0 := by
                intro e0
                have := hb.1
                rw [t1, e0] at this
                simp at this
              cases h
              have := OP.loadN (P := P) (E := E) (σ := σ.den env) (kp := kp) ho hu (by rw [← t3]; exact ha) hi hp hg h0 (by rw [dens_len, ← t1]; exact h2) hk
              rw [dens_drop, dens_take, ← t1] at this
              exact this
            · cases h
          · rename_i ha
            split at h
            · rename_i x hx
              cases h
              exact OP.load1 ho hu (by rw [← t3]; simpa using ha) hp hg (by rw [dens_get, hx]; rfl) hk
            · cases h
        · cases h
      · cases h
    · rename_i i ix s off hv
      rw [hv] at hp
      split at h
      · rename_i hk
        split at h
        · rename_i e a n hh
          have hg : hget (σ.den env).H i = some (encR e (a.den env).items) := by
            show hget (denH env σ.H) i = _
            rw [hget_denH, hh]; rfl
          split at h
          · rename_i hs
            obtain rfl := Nat.eq_of_beq_eq_true hs
            split at h
            · rename_i ha
              split at h
              · rename_i hb
                simp only [Bool.and_eq_true, Bool.not_eq_true'] at hb
                have h2 := Nat.le_of_ble_eq_true hb.2
                have h0 : T.size ≠ 0 := by
                  intro e0
                  have := hb.1
                  rw [e0] at this
                  simp at this
                cases h
                obtain ⟨xs, z, k1, k2, k3, k4⟩ := gets_fact T.size hf h2 h0
                simp only [SV.den, k2, D.nat, D.int] at hp
                rw [k1] at hg
                simp only [D.items] at hg
                have hlen := congrArg List.length k4
                rw [dens_len] at hlen
                have hlv : (getsV e m (List.range' off T.size)).length = T.size := by
                  have : ∀ (l : List Nat) m, (getsV e m l).length = l.length := by
                    intro l
                    induction l with
                    | nil => intro m; rfl
                    | cons x xs ih => intro m; simp [getsV, ih]
                  rw [this]; simp
                rw [hlv] at hlen
                simp only [List.length_take, List.length_drop] at hlen
                have := OP.loadN (P := P) (E := E) (σ := σ.den env) (kp := kp) ho hu (by rw [← t3]; exact ha) hi hp hg (by rw [← t1]; exact h0) (by rw [← t1]; omega) hk
                rw [← t1, k4] at this
                exact this
              · cases h
            · rename_i ha
              split at h
              · rename_i hb
                cases h
                obtain ⟨xs, z, dd, k1, k2, k3, k4, k5, k6⟩ := get_fact hf.1 (by simpa using hb)
                simp only [SV.den, k2, D.nat, D.int] at hp
                rw [k1] at hg
                simp only [D.items] at hg
                exact OP.load1 ho hu (by rw [← t3]; simpa using ha) hp hg k6 hk
              · cases h
          · cases h
        · cases h
      · cases h
    · rename_i l e a ix off hv
      rw [hv] at hp
      split at h
      · rename_i ha
        split at h
        · rename_i hb
          simp only [Bool.and_eq_true, Bool.not_eq_true'] at hb
          have h2 := Nat.le_of_ble_eq_true hb.2
          have h0 : T.size ≠ 0 := by
            intro e0
            have := hb.1
            rw [e0] at this
            simp at this
          cases h
          obtain ⟨xs, z, k1, k2, k3, k4⟩ := gets_fact T.size hf h2 h0
          simp only [SV.den, k1, k2, D.nat, D.int, D.items] at hp
          have hlen := congrArg List.length k4
          rw [dens_len] at hlen
          have hlv : (getsV e m (List.range' off T.size)).length = T.size := by
            have : ∀ (l : List Nat) m, (getsV e m l).length = l.length := by
              intro l
              induction l with
              | nil => intro m; rfl
              | cons x xs ih => intro m; simp [getsV, ih]
            rw [this]; simp
          rw [hlv] at hlen
          simp only [List.length_take] at hlen
          have := OP.loadFN (P := P) (E := E) (σ := σ.den env) (kp := kp) ho hu (by rw [← t3]; exact ha) hi hp (by rw [← t1]; exact h0) (by rw [← t1]; omega)
          rw [← t1, k4] at this
          exact this
        · cases h
      · rename_i ha
        split at h
        · rename_i hb
          cases h
          obtain ⟨xs, z, dd, k1, k2, k3, k4, k5, k6⟩ := get_fact hf.1 (by simpa using hb)
          simp only [SV.den, k1, k2, D.nat, D.int, D.items] at hp
          exact OP.loadF1 ho hu (by rw [← t3]; simpa using ha) hp (by rw [List.getElem?_drop]; exact k6)
        · cases h
    · cases h
end
end Go.BH
