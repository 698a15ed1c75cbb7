/- Regions, in letters. -/
import Derived.Test.YtdjfhggmcigahaaDoorB24
set_option linter.unusedVariables false
set_option linter.unusedSimpArgs false
namespace Go.BH
open Go.RowKit
section
variable {env : List D} {i : Nat} {e : List CK} {a n : At}
mutual
theorem SV.frz_good (ha : okC (.sl e) (a.den env) = true) : ∀ {x : SV}, x.good env = true → (x.frz i e a n).good env = true
  | .any, _ => rfl
  | .dat k b, h => h
  | .lz e' b, h => h
  | .K v, _ => rfl
  | .nilS, _ => rfl
  | .e0, _ => rfl
  | .ifc a, h => h
  | .ptr j o, _ => by
    simp only [SV.frz]
    split <;> rfl
  | .ptrE j ix s off, h => by
    simp only [SV.frz]
    split
    · split
      · simp only [SV.good, Bool.and_eq_true]
        exact ⟨ha, h⟩
      · rfl
    · exact h
  | .sl j lo k s, h => by
    simp only [SV.frz]
    split
    · split
      · exact ha
      · rfl
    · exact h
  | .pfz l e' b ix off, h => h
  | .agg xs, h => SV.frzs_good ha h
  | .tup xs, h => SV.frzs_good ha h
  | .fn f xs, h => SV.frzs_good ha h
theorem SV.frzs_good (ha : okC (.sl e) (a.den env) = true) : ∀ {xs : List SV}, SV.goods env xs = true → SV.goods env (SV.frzs i e a n xs) = true
  | [], _ => rfl
  | x :: xs, h => by
    simp only [SV.goods, Bool.and_eq_true] at h
    simp only [SV.frzs, SV.goods, Bool.and_eq_true]
    exact ⟨SV.frz_good ha h.1, SV.frzs_good ha h.2⟩
end
theorem SS.frz_good {σ σ' : SS} {i : Nat} (hg : σ.Good env) (h : σ.frz i = some σ') : σ'.Good env := by
  obtain ⟨ln0, hln0⟩ := GK.ex
  have hok := (SS.frz_ok (E := ⟨⟨fun _ => none, fun _ => none, ln0⟩, default, fun _ => True, 0, 0, hln0⟩) hg h).2
  unfold SS.frz at h
  split at h
  · rename_i e a n hh
    cases h
    have ha := (hg.A i e a n hh).1
    refine ⟨fun t => ?_, fun j xs hj => ?_, fun j e' a' k hj => ?_⟩
    · simp only [tkS_frz]
      exact SV.frz_good ha (hg.T t)
    · simp only [hgetS_frz] at hj
      obtain ⟨b, hb, e1⟩ := Option.map_eq_some_iff.1 hj
      cases b with
      | cells ys =>
        cases e1
        exact SV.frzs_good ha (hg.C j ys (hgetS_del hb))
      | arr => cases e1
    · simp only [hgetS_frz] at hj
      obtain ⟨b, hb, e1⟩ := Option.map_eq_some_iff.1 hj
      cases b with
      | cells ys => cases e1
      | arr =>
        cases e1
        exact hg.A j _ _ _ (hgetS_del hb)
  · cases h
theorem frzAll_ok {E : En} : ∀ {l : List Nat} {σ σ' : SS}, σ.Good env → frzAll l σ = some σ' → Gh E (σ.den env) (σ'.den env) ∧ σ'.Good env
  | [], σ, σ', hg, h => by
    cases h
    exact ⟨.refl _, hg⟩
  | i :: r, σ, σ', hg, h => by
    simp only [frzAll] at h
    split at h
    · split at h
      · rename_i σ1 h1
        obtain ⟨k1, k2⟩ := frzAll_ok (E := E) (SS.frz_good hg h1) h
        exact ⟨(SS.frz_ok hg h1).1.trans k1, k2⟩
      · cases h
    · exact frzAll_ok hg h
end
/-- One operation. -/
def sDo (C : Cx) (ks : List Nat) (σ : SS) (m : Nat) (op : Op) : Option (List Nd × SV × SS) :=
  match sPureC C (fun _ => true) σ m op with
  | some (nds, v) => some (nds, v, σ)
  | none => match (match frzAll (sPre C σ op false) σ with
      | some σ1 => sEff C ks σ1 m op
      | none => none) with
    | some r => some r
    | none => match frzAll (sPre C σ op true) σ with
      | some σ2 => sEff C ks σ2 m op
      | none => none
def isNilO : Operand → Bool
  | .const (.slice none 0 0) => true
  | _ => false
theorem isNilO_eq {y : Operand} (h : isNilO y = true) : y = .const (.slice none 0 0) := by
  unfold isNilO at h
  split at h
  · rfl
  · cases h
/-- Is a frozen slice compared with nil? Which list is it? -/
def sNil (C : Cx) (σ : SS) (op : Op) : Option At :=
  match op with
  | .binOp .eql t x y _ => if isNilO y = true then (match tyGet C.tab t with
    | some T => (match T.kind with
      | .slice _ => (match asSl (σ.ev x) with
        | some (_, _, a) => some a
        | none => none)
      | _ => none)
    | none => none) else none
  | _ => none
inductive GR where
  | go (b : Bool)
  | two (a : At) (t : Nat) (want : Bool)
/-- What becomes of an operation's guard. -/
def gd (ops : Array Oper) (o : Oper) (σ : SS) : Option GR :=
  match o.guard with
  | none => some (.go true)
  | some (j, want) => match (ops[j]?).bind (·.dst) with
    | none => none
    | some t => match tkS σ.T t with
      | .tup [] => some (.go false)
      | .dat .bool (.k (.b true)) => some (.go want)
      | .dat .bool (.k (.b false)) => some (.go !want)
      | .dat .bool a => some (.two a t want)
      | _ => none
def SS.know (σ : SS) (t : Nat) (b : Bool) : SS := ⟨(t, .dat .bool (.k (.b b))) :: σ.T, σ.H, σ.nx⟩
def St.know (σ : St) (t : Nat) (b : Bool) : St := ⟨(t, .v (.bool b)) :: σ.T, σ.H, σ.nx⟩
section
variable {P : Program} {E : En} {C : Cx} {Φ : Fns} {S : Kinds}
theorem OP.oxAny {σ : St} {o : Oper} {kp kp' : Nat → Bool} {v : AV} {R : AV → St → Prop} (h : OP P E kp o σ v) (hR : R v σ) : OX P E kp' o σ R := by
  have : OS P E kp' o σ v σ := fun μ a w hi => by
    obtain ⟨c, hv, hr⟩ := h μ a w hi
    exact ⟨c, w, μ, hr w (.refl _ _ _), hv, hi, .refl _ _ _⟩
  exact this.ox hR
theorem sDo_ok {σ σ' : SS} {o : Oper} {ks : List Nat} {env : List D} {m : Nat} {nds : List Nd} {v : SV} (htab : TabOk P C.tab) (hS : ∀ (j : Nat) (s : Sig), C.sigs[j]? = some s → SigOk P Φ j s) (hg : σ.Good env) (h : sDo C ks σ m o.op = some (nds, v, σ')) (hf : Facts Φ env m nds) : EffR P E ks o σ env v σ' := by
  have key : ∀ b, (match frzAll (sPre C σ o.op b) σ with
      | some σ1 => sEff C ks σ1 m o.op
      | none => none) = some (nds, v, σ') → EffR P E ks o σ env v σ' := fun b h => by
    split at h
    · rename_i σ1 h1
      obtain ⟨k1, k2⟩ := frzAll_ok (E := E) hg h1
      obtain ⟨g1, g2⟩ := sEff_ok (P := P) (E := E) (o := o) htab hS k2 h hf
      exact ⟨OX.gh k1 g1, g2⟩
    · cases h
  unfold sDo at h
  split at h
  · rename_i nds' v' hp
    cases h
    exact ⟨(sPure_ok (P := P) (E := E) (o := o) htab hg (sPureC_eq hp) hf).oxAny ⟨rfl, rfl⟩, fun i e a n hh => (hg.A i e a n hh).2⟩
  · split at h
    · rename_i r hr
      cases h
      exact key false hr
    · exact key true h
theorem sNil_ok {σ : SS} {o : Oper} {ks : List Nat} {env : List D} {a : At} {R : AV → St → Prop} (htab : TabOk P C.tab) (hg : σ.Good env) (h : sNil C σ o.op = some a) (hf : R (.v (.bool false)) (σ.den env)) (ht : (a.den env).isE = true → R (.v (.bool true)) (σ.den env)) : OX P E (kpOf ks) o (σ.den env) R := by
  unfold sNil at h
  split at h
  · rename_i t x y t' hop
    split at h
    · rename_i hy
      obtain rfl := isNilO_eq hy
      split at h
      · rename_i T hT
        split at h
        · rename_i e hk
          split at h
          · rename_i l e' a' ha
            cases h
            obtain ⟨d, i, z, t1, t2, t3, t4, t5, t6, t7, t8⟩ := tyGet_ok htab hT
            rw [hk] at t7
            rw [kindD_slice t7.symm] at t1
            obtain ⟨xs, h1, h2, h3⟩ := asSl_den ha (ev_good hg x)
            refine OX.nilB hop t1 ((SS.ev_den env σ x).trans h3) hf (fun h0 => ht ?_)
            cases xs with
            | nil => rw [h1]; rfl
            | cons => cases h0
          · cases h
        · cases h
      · cases h
    · cases h
  · cases h
theorem INV.know {μ : Mu} {σ : St} {a : Act} {w : World} (h : INV E μ σ a w) {t : Nat} {g : Bool} (ht : tk σ.T t = .v (.bool g)) : INV E μ (σ.know t g) a w := { h with
  tmps := fun s => by
    simp only [St.know, tk]
    cases e : Nat.beq t s with
    | true =>
      have := Nat.eq_of_beq_eq_true e
      subst this
      simp only [↓reduceIte]
      rw [← ht]
      exact h.tmps t
    | false => exact h.tmps s }
theorem SS.know_den {env : List D} (σ : SS) (t : Nat) (b : Bool) : (σ.know t b).den env = (σ.den env).know t b := by
  simp only [SS.know, SS.den, St.know, denT]
  rw [show (SV.dat .bool (.k (.b b))).den env = .v (.bool b) from encC_bool b]
theorem gd_go {ops : Array Oper} {o : Oper} {σ : SS} {env : List D} {b : Bool} (h : gd ops o σ = some (.go b)) : wantsB ops o (σ.den env) b := by
  unfold gd at h
  unfold wantsB
  split at h
  · rename_i hg
    rw [hg]
    cases h
    rfl
  · rename_i j want hg
    rw [hg]
    split at h
    · cases h
    · rename_i t ht
      obtain ⟨oj, h1, h2⟩ := Option.bind_eq_some_iff.1 ht
      refine ⟨oj, t, h1, h2, ?_⟩
      have hd := tk_denT env t σ.T
      split at h
      · rename_i e
        cases h
        rw [e] at hd
        exact .inr ⟨hd, rfl⟩
      · rename_i e
        cases h
        rw [e] at hd
        exact .inl ⟨true, hd.trans (encC_bool true), by cases b <;> rfl⟩
      · rename_i e
        cases h
        rw [e] at hd
        exact .inl ⟨false, hd.trans (encC_bool false), by cases want <;> rfl⟩
      · cases h
      · cases h
theorem gd_two {ops : Array Oper} {o : Oper} {σ : SS} {a : At} {t : Nat} {want : Bool} (h : gd ops o σ = some (.two a t want)) : tkS σ.T t = .dat .bool a := by
  unfold gd at h
  split at h
  · cases h
  · split at h
    · cases h
    · split at h
      · cases h
      · cases h
      · cases h
      · rename_i e
        cases h
        exact e
      · cases h
/-- The tree that K makes of a state leaves with out; then N holds. -/
def Ext (env0 env : List D) : Prop := ∃ ds, env = env0 ++ ds
theorem Ext.refl (env : List D) : Ext env env := ⟨[], by simp⟩
theorem Ext.add {a b : List D} (h : Ext a b) (ds : List D) : Ext a (b ++ ds) := by
  obtain ⟨es, rfl⟩ := h
  exact ⟨es ++ ds, by simp⟩
def KS (Φ : Fns) (k : Nat) (env0 : List D) (K : SS → List CK → Option Tr) (N : St → Prop) (out : Nat × List D) : Prop := ∀ σ G t env, Ext env0 env → K σ G = some t → okZ G env = true → SInv env σ → t.den Φ k env = some out → N (σ.den env)
/-- A region in its order. -/
def sxOps (C : Cx) (S : Kinds) (n : Nat) (ops : Array Oper) : List Oper → SS → List CK → (SS → List CK → Option Tr) → Option Tr
  | [], σ, G, K => K σ G
  | o :: r, σ, G, K =>
    if okD n o.dst = true then
      let skip := fun (σ : SS) => sxOps C S n ops r (σ.put o.dst (.tup [])) G K
      let run := fun (σ : SS) => if σ.wt G = true then (match sDo C [] σ G.length o.op with
        | some (nds, v, σ') => if chkN S G nds = true then (match sxOps C S n ops r (σ'.put o.dst v) (G ++ tysOf nds) K with
          | some t => some (ndsT nds t)
          | none => none) else none
        | none => (match sNil C σ o.op with
          | some a => (match sxOps C S n ops r (σ.put o.dst (.dat .bool (.k (.b true)))) G K, sxOps C S n ops r (σ.put o.dst (.dat .bool (.k (.b false)))) G K with
            | some x, some y => some (.both a x y)
            | _, _ => none)
          | none => none)) else none
      match gd ops o σ with
      | some (.go true) => run σ
      | some (.go false) => skip σ
      | some (.two a t want) => if tyA G a .bool = true then
          (match (match want with
            | true => run (σ.know t true)
            | false => skip (σ.know t true)), (match want with
            | true => skip (σ.know t false)
            | false => run (σ.know t false)) with
          | some x, some y => some (.ite a x y)
          | _, _ => none) else none
      | none => none
    else none
theorem SInv.put {env : List D} {σ : SS} (h : SInv env σ) (d : Option Tmp) (v : SV) : SInv env (σ.put d v) := by
  cases d <;> exact h
theorem sinv_ext {G : List CK} {env : List D} (hz : okZ G env = true) {σ : SS} (hw : σ.wt G = true) (hi : SInv env σ) (ds : List D) : SInv (env ++ ds) σ := fun i e a n hh => ((SS.wt_good hz hw hi ds).2.A i e a n hh).2
theorem wants_know {ops : Array Oper} {o : Oper} {σ : SS} {a : At} {t : Nat} {want : Bool} {env : List D} (h : gd ops o σ = some (.two a t want)) (g : Bool) : wantsB ops o ((σ.know t g).den env) (g == want) := by
  have ht := gd_two h
  unfold gd at h
  unfold wantsB
  split at h
  · cases h
  · rename_i j want' hg
    rw [hg]
    split at h
    · cases h
    · rename_i t' ht'
      split at h
      all_goals first | (cases h; done) | skip
      cases h
      obtain ⟨oj, h1, h2⟩ := Option.bind_eq_some_iff.1 ht'
      refine ⟨oj, t, h1, h2, .inl ⟨g, ?_, rfl⟩⟩
      rw [SS.know_den]
      simp [St.know, tk]
/-- One operation of a region, and the rest. -/
theorem run_ok {k : Nat} {ops : Array Oper} {o : Oper} {r : List Oper} {σ σ' : SS} {G : List CK} {env : List D} {nds : List Nd} {v : SV} {t : Tr} {N : St → Prop} {out : Nat × List D} (htab : TabOk P C.tab) (hS : ∀ (j : Nat) (s : Sig), C.sigs[j]? = some s → SigOk P Φ j s) (hF : FnsOk S Φ) (hd : okD E.n o.dst = true) (hz : okZ G env = true) (hi : SInv env σ)
    (hwt : σ.wt G = true) (hdo : sDo C [] σ G.length o.op = some (nds, v, σ')) (hc : chkN S G nds = true) (hden : (ndsT nds t).den Φ k env = some out) (hw : wantsB ops o (σ.den env) true)
    (rest : ∀ env', Ext env env' → okZ (G ++ tysOf nds) env' = true → SInv env' (σ'.put o.dst v) → t.den Φ k env' = some out → OT P E ops r N ((σ'.put o.dst v).den env')) : OT P E ops (o :: r) N (σ.den env) := by
  obtain ⟨env', hr, ht⟩ := den_ndsT hden
  obtain ⟨k1, k2, ds, rfl⟩ := runNds_facts hF hc hz hr
  obtain ⟨e1, hg⟩ := SS.wt_good hz hwt hi ds
  obtain ⟨h1, h2⟩ := sDo_ok (P := P) (E := E) (o := o) htab hS hg hdo k2
  rw [← e1] at hw ⊢
  refine OT.step hw hd (h1.mono (fun w τ ⟨hw', hτ⟩ => ?_))
  subst hw'
  subst hτ
  rw [← SS.put_den]
  exact rest _ ⟨ds, rfl⟩ k1 (h2.put _ _) ht
theorem OT.know {ops : Array Oper} {N : St → Prop} {l : List Oper} {σ : St} {t : Nat} {g : Bool} (ht : tk σ.T t = .v (.bool g)) (h : OT P E ops l N (σ.know t g)) : OT P E ops l N σ := fun Q N' hq μ a w hi => h Q N' hq μ a w (hi.know ht)
theorem sxOps_ok {k n : Nat} {ops : Array Oper} (hn : n = E.n) (htab : TabOk P C.tab) (hS : ∀ (j : Nat) (s : Sig), C.sigs[j]? = some s → SigOk P Φ j s) (hF : FnsOk S Φ) {K : SS → List CK → Option Tr} {N : St → Prop} {out : Nat × List D} {env0 : List D} (hK : KS Φ k env0 K N out) :
    ∀ {l : List Oper} {σ : SS} {G : List CK} {env : List D} {t : Tr}, sxOps C S n ops l σ G K = some t → Ext env0 env → okZ G env = true → SInv env σ → t.den Φ k env = some out → OT P E ops l N (σ.den env)
  | [], σ, G, env, t, h, hx, hz, hi, hden => .nil (hK σ G t env hx h hz hi hden)
  | o :: r, σ, G, env, t, h, hex, hz, hi, hden => by
    simp only [sxOps] at h
    split at h
    · rename_i hd
      rw [hn] at hd
      have skip : ∀ {σ : SS} {t : Tr}, sxOps C S n ops r (σ.put o.dst (.tup [])) G K = some t → SInv env σ → t.den Φ k env = some out → wantsB ops o (σ.den env) false → OT P E ops (o :: r) N (σ.den env) := fun {σ t} h hi hden hw => by
        have := sxOps_ok hn htab hS hF hK h hex hz (hi.put _ _) hden
        rw [SS.put_den] at this
        exact OT.no hw hd this
      have run : ∀ {σ : SS} {t : Tr}, (if σ.wt G = true then (match sDo C [] σ G.length o.op with
        | some (nds, v, σ') => if chkN S G nds = true then (match sxOps C S n ops r (σ'.put o.dst v) (G ++ tysOf nds) K with
          | some t => some (ndsT nds t)
          | none => none) else none
        | none => (match sNil C σ o.op with
          | some a => (match sxOps C S n ops r (σ.put o.dst (.dat .bool (.k (.b true)))) G K, sxOps C S n ops r (σ.put o.dst (.dat .bool (.k (.b false)))) G K with
            | some x, some y => some (.both a x y)
            | _, _ => none)
          | none => none)) else none) = some t → SInv env σ → t.den Φ k env = some out → wantsB ops o (σ.den env) true → OT P E ops (o :: r) N (σ.den env) := fun {σ t} h hi hden hw => by
        split at h
        · rename_i hwt
          split at h
          · rename_i nds v σ' hdo
            split at h
            · rename_i hc
              split at h
              · rename_i t' ht'
                cases h
                exact run_ok htab hS hF hd hz hi hwt hdo hc hden hw (fun env' ⟨ds, e⟩ k1 k2 k3 => sxOps_ok hn htab hS hF hK ht' (e ▸ hex.add ds) k1 k2 k3)
              · cases h
            · cases h
          · split at h
            · rename_i a hnil
              split at h
              · rename_i x y hx' hy'
                cases h
                obtain ⟨e1, hg⟩ := SS.wt_good hz hwt hi []
                rw [List.append_nil] at hg
                have go : ∀ (b : Bool) {q : Tr}, sxOps C S n ops r (σ.put o.dst (.dat .bool (.k (.b b)))) G K = some q → q.den Φ k env = some out → OT P E ops r N ((σ.den env).put o.dst (.v (.bool b))) := fun b q hq hd' => by
                  have := sxOps_ok hn htab hS hF hK hq hex hz (hi.put _ _) hd'
                  rw [SS.put_den, show (SV.dat .bool (.k (.b b))).den env = .v (.bool b) from encC_bool b] at this
                  exact this
                simp only [Tr.den] at hden
                refine OT.step hw hd (sNil_ok (ks := []) htab hg hnil (go false hy' ?_) (fun he => go true hx' ?_))
                · split at hden
                  · exact (agree_some hden).2
                  · exact hden
                · rw [if_pos he] at hden
                  exact (agree_some hden).1
              · cases h
            · cases h
        · cases h
      split at h
      · rename_i hgd
        exact run h hi hden (gd_go hgd)
      · rename_i hgd
        exact skip h hi hden (gd_go hgd)
      · rename_i a tt want hgd
        split at h
        · rename_i hta
          split at h
          · rename_i x y hx hy
            cases h
            obtain ⟨g, hg⟩ := okC_bool (tyA_ok hz hta)
            have ht : tk (σ.den env).T tt = .v (.bool g) := by
              have := tk_denT env tt σ.T
              rw [gd_two hgd, SV.den, hg, encC_bool] at this
              exact this
            simp only [Tr.den, hg] at hden
            refine OT.know ht ?_
            rw [← SS.know_den]
            have hi' : ∀ b, SInv env (σ.know tt b) := fun b => hi
            cases g with
            | true =>
              have hw := wants_know (env := env) hgd true
              cases want with
              | true => exact run hx (hi' _) hden hw
              | false => exact skip hx (hi' _) hden hw
            | false =>
              have hw := wants_know (env := env) hgd false
              cases want with
              | true => exact skip hy (hi' _) hden hw
              | false => exact run hy (hi' _) hden hw
          · cases h
        · cases h
      · cases h
    · cases h
end
end Go.BH
