/- Code, in letters. -/
import Derived.Test.YtdjfhggmcigahaaDoorB28
set_option linter.unusedVariables false
set_option linter.unusedSimpArgs false
namespace Go.BH
open Go.RowKit
/-- Where code may leave to: how, the kinds known there, the shape. -/
abbrev Ents := List (Nat × List CK × Shp)
def entOf : Ents → Nat → Option (List CK × Shp)
  | [], _ => none
  | (e, G0, sh) :: r, n => if Nat.beq e n = true then some (G0, sh) else entOf r n
/-- Shapes at places of the code; blocks that a region in a drawn order writes. -/
structure Hn where
  shp : List (Nat × Shp)
  wr : List (Nat × List Nat)
def shpAt : List (Nat × Shp) → Nat → Option Shp
  | [], _ => none
  | (e, sh) :: r, n => if Nat.beq e n = true then some sh else shpAt r n
def wrAt : List (Nat × List Nat) → Nat → List Nat
  | [], _ => []
  | (e, sh) :: r, n => if Nat.beq e n = true then sh else wrAt r n
def leaf (M e : Nat) (G0 : List CK) (sh : Shp) (σ : SS) (G : List CK) : Option Tr := match goVals M G0 sh σ G with
  | some vals => some (.out e vals)
  | none => none
def Shp.st (sh : Shp) : SS := ⟨sh.T, sh.H, sh.nx⟩
def cutTo (sh : Shp) (G : List CK) (K : SS → List CK → Option Tr) : Option Tr := match K sh.st ((G ++ sh.ps) ++ tysOf (lenNds sh.H)) with
  | some t => some (ndsT (lenNds sh.H) t)
  | none => none
def SS.knowO (σ : SS) (o : Operand) (b : Bool) : SS := match o with
  | .tmp t => σ.know t b
  | _ => σ
/-- Are cuts for good in this function? (A hint at no place of the code says so.) -/
def winH (h : Hn) : Bool := match wrAt h.wr 0 with
  | [] => false
  | _ => true
def namesBut (wr : List Nat) : List (Nat × SB) → List Nat
  | [] => []
  | (i, _) :: r => if memN i wr = true then namesBut wr r else i :: namesBut wr r
/-- The tree of code. -/
def sx (C : Cx) (S : Kinds) (n M : Nat) (hs : Hn) : Code → Nat → SS → List CK → Ents → (SS → List CK → Option Tr) → Option Tr
  | .skip, _, σ, G, _, K => K σ G
  | .region _ ops draw, p, σ, G, _, K => match draw with
    | true => if Region.noSelect ops = true then sxDraw C S n (namesBut (wrAt hs.wr p) σ.H) ops (2 * ops.size + 4) ops.size (Array.replicate ops.size false) σ G K else none
    | false => sxOps C S n ops.toList.toArray ops.toList σ G K
  | .seq a b, p, σ, G, xs, K => match shpAt hs.shp p with
    | none => sx C S n M hs a (2 * p) σ G xs (fun σ' G' => sx C S n M hs b (2 * p + 1) σ' G' xs K)
    | some sh => match sx C S n M hs a (2 * p) σ G xs (leaf M 0 G sh), cutTo sh G (fun σ' G' => sx C S n M hs b (2 * p + 1) σ' G' xs K) with
      | some ta, some tb => some (.seq sh.ps ta tb)
      | _, _ => none
  | .cond o x y, p, σ, G, xs, K => match σ.ev o with
    | .dat .bool (.k (.b true)) => sx C S n M hs x (2 * p) σ G xs K
    | .dat .bool (.k (.b false)) => sx C S n M hs y (2 * p + 1) σ G xs K
    | .dat .bool a => if tyA G a .bool = true then (match sx C S n M hs x (2 * p) (σ.knowO o true) G xs K, sx C S n M hs y (2 * p + 1) (σ.knowO o false) G xs K with
      | some tx, some ty => some (.ite a tx ty)
      | _, _ => none) else none
    | _ => none
  | .block id c, p, σ, G, xs, K => match shpAt hs.shp p with
    | none => none
    | some sh => match sx C S n M hs c (2 * p) σ G ((id + 2, G, sh) :: xs) (leaf M 0 G sh), cutTo sh G K with
      | some ta, some tb => some (.blk (id + 2) sh.ps ta tb)
      | _, _ => none
  | .loop c, p, σ, G, xs, K => match shpAt hs.shp p with
    | none => none
    | some sh => match goVals M G sh σ G, cutTo sh G (fun σ' G' => sx C S n M hs c (2 * p) σ' G' xs (leaf M 0 G sh)) with
      | some vals, some tb => some (.loop sh.ps vals tb)
      | _, _ => none
  | .exit id, _, σ, G, xs, _ => match entOf xs (id + 2) with
    | some (G0, sh) => leaf M (id + 2) G0 sh σ G
    | none => none
  | .ret, _, σ, G, xs, _ => match entOf xs 1 with
    | some (G0, sh) => leaf M 1 G0 sh σ G
    | none => none
  | _, _, _, _, _, _ => none
def exN : Exit → Option Nat
  | .ret => some 1
  | .exit id => some (id + 2)
  | _ => none
def PX (xs : Ents) (env : List D) (out : Nat × List D) : Exit → St → Prop := fun e τ => ∃ n, exN e = some n ∧ out.1 = n ∧ ∃ G0 sh, entOf xs n = some (G0, sh) ∧ okZ sh.ps out.2 = true ∧ sh.wf G0 = true ∧ τ = shSt sh (env.take G0.length) out.2
def XOk (xs : Ents) (env : List D) : Prop := ∀ n G0 sh, entOf xs n = some (G0, sh) → okZ G0 (env.take G0.length) = true
section
variable {P : Program} {E : En} {C : Cx} {Φ : Fns} {S : Kinds} {k : Nat}
theorem take_ext {G0 : List CK} {env env' : List D} (h : okZ G0 (env.take G0.length) = true) (hx : Ext env env') : env'.take G0.length = env.take G0.length := by
  obtain ⟨ds, rfl⟩ := hx
  have := okZ_len h
  rw [List.length_take] at this
  exact List.take_append_of_le_length (by omega)
theorem XOk.ext {xs : Ents} {env env' : List D} (h : XOk xs env) (hx : Ext env env') : XOk xs env' := fun n G0 sh he => by
  rw [take_ext (h n G0 sh he) hx]
  exact h n G0 sh he
theorem PX.back {xs : Ents} {env env' : List D} (h : XOk xs env) (hx : Ext env env') {out : Nat × List D} {e : Exit} {τ : St} (k : PX xs env' out e τ) : PX xs env out e τ := by
  obtain ⟨n, h1, h2, G0, sh, h3, h4, h5, h6⟩ := k
  exact ⟨n, h1, h2, G0, sh, h3, h4, h5, by rw [h6, take_ext (h n G0 sh h3) hx]⟩
theorem exN_pos {e : Exit} {n : Nat} (h : exN e = some n) : n ≠ 0 ∧ e ≠ .normal := by
  cases e <;> simp [exN] at h <;> (refine ⟨by omega, ?_⟩; intro g; cases g)
theorem Ext.trans {a b c : List D} (h : Ext a b) (k : Ext b c) : Ext a c := by
  obtain ⟨x, rfl⟩ := h
  obtain ⟨y, rfl⟩ := k
  exact ⟨x ++ y, by simp⟩
theorem KS.ext {env env' : List D} {K : SS → List CK → Option Tr} {N : St → Prop} {out : Nat × List D} (h : KS Φ k env K N out) (hx : Ext env env') : KS Φ k env' K N out := fun σ G t e h1 h2 h3 h4 h5 => h σ G t e (hx.trans h1) h2 h3 h4 h5
theorem GS.inv {μ : Mu} {σ τ : St} {a : Act} {w : World} (h : GS E σ τ) (hi : INV E μ σ a w) : ∃ μ', INV E μ' τ a w := by
  obtain ⟨σ1, rs, h1, h2⟩ := h
  obtain ⟨μ1, hi1, _⟩ := h1 μ a w hi
  exact ⟨_, hi1.sel h2⟩
theorem CT.gsQ {c : Code} {Q : Exit → St → Prop} {σ : St} (h : CT P E c (fun e σ => ∃ τ, (τ = σ ∨ GS E σ τ) ∧ Q e τ) σ) : CT P E c Q σ := fun μ a w hi => by
  refine Code.wp_mono ?_ (h μ a w hi)
  rintro e a' w' ⟨σ', μ', ⟨τ, hg, hq⟩, hi'⟩
  rcases hg with rfl | hg
  · exact ⟨_, _, hq, hi'⟩
  · obtain ⟨μ2, hi2⟩ := hg.inv hi'
    exact ⟨_, _, hq, hi2⟩
theorem leaf_ok {M e : Nat} {G0 : List CK} {sh : Shp} {σ : SS} {G : List CK} {t : Tr} {env : List D} {out : Nat × List D} (hM : M = E.m) (h : leaf M e G0 sh σ G = some t) (hz0 : okZ G0 (env.take G0.length) = true) (hz : okZ G env = true) (hi : SInv env σ) (hden : t.den Φ k env = some out) :
    out.1 = e ∧ okZ sh.ps out.2 = true ∧ sh.wf G0 = true ∧ GS E (σ.den env) (shSt sh (env.take G0.length) out.2) := by
  unfold leaf at h
  split at h
  · rename_i vals hv
    cases h
    simp only [Tr.den, Option.some.injEq] at hden
    subst hden
    have hx : Ext (env.take G0.length) env := ⟨env.drop G0.length, (List.take_append_drop _ _).symm⟩
    obtain ⟨h1, h2, h3⟩ := goVals_ok (E := E) hv hM hz0 hx hz hi
    exact ⟨rfl, h1, h2, h3⟩
  · cases h
theorem take_all {G : List CK} {env : List D} (h : okZ G env = true) : env.take G.length = env := by rw [okZ_len h, List.take_length]
/-- What holds where a cut is reached. -/
def AtCut (E : En) (G : List CK) (sh : Shp) (env : List D) (out : Nat × List D) (τ : St) : Prop := out.1 = 0 ∧ okZ sh.ps out.2 = true ∧ sh.wf G = true ∧ GS E τ (shSt sh env out.2)
theorem leaf_ks {M : Nat} {G : List CK} {sh : Shp} {env : List D} {out : Nat × List D} (hM : M = E.m) (hz : okZ G env = true) : KS Φ k env (leaf M 0 G sh) (AtCut E G sh env out) out := fun σ G' t env' hx h hz' hi hden => by
  have e1 : env'.take G.length = env := by rw [take_ext (by rw [take_all hz]; exact hz) hx, take_all hz]
  obtain ⟨h1, h2, h3, h4⟩ := leaf_ok (E := E) hM h (by rw [e1]; exact hz) hz' hi hden
  rw [e1] at h4
  exact ⟨h1, h2, h3, h4⟩
theorem run_lens {G : List CK} {e1 : List D} (hz : okZ G e1 = true) : ∀ {H : List (Nat × SB)} {l env' : List D}, arrsOk G H = true → runNds Φ (lenNds H) (e1 ++ l) = some env' → env' = (e1 ++ l) ++ lensOf e1 H ∧ okZ (tysOf (lenNds H)) (lensOf e1 H) = true
  | [], l, env', _, h => by
    obtain rfl := Option.some.inj h
    exact ⟨by simp [lensOf], rfl⟩
  | (q, .cells xs) :: r, l, env', ha, h => run_lens hz (H := r) (by simpa only [arrsOk] using ha) h
  | (q, .arr e a n) :: r, l, env', ha, h => by
    simp only [arrsOk, Bool.and_eq_true] at ha
    simp only [lenNds, runNds, runNd, List.map_cons, List.map_nil] at h
    obtain ⟨xs, hx, _⟩ := okC_sl (tyA_ok hz ha.1)
    rw [tyA_ext hz ha.1, hx] at h
    simp only [Pr.eval] at h
    rw [List.append_assoc] at h
    obtain ⟨h1, h2⟩ := run_lens hz ha.2 h
    refine ⟨?_, ?_⟩
    · rw [h1, lensOf, hx]
      simp [D.items]
    · simp only [lenNds, tysOf, Nd.tys, lensOf, List.cons_append, List.nil_append, okZ, Bool.and_eq_true]
      exact ⟨rfl, h2⟩
theorem cutTo_ok {sh : Shp} {G : List CK} {K : SS → List CK → Option Tr} {tb : Tr} {env vs : List D} {out : Nat × List D} (h : cutTo sh G K = some tb) (hden : tb.den Φ k (env ++ vs) = some out) (hz : okZ G env = true) (hv : okZ sh.ps vs = true) (hw : sh.wf G = true) :
    ∃ t, K sh.st ((G ++ sh.ps) ++ tysOf (lenNds sh.H)) = some t ∧ okZ ((G ++ sh.ps) ++ tysOf (lenNds sh.H)) (shEnv sh env vs) = true ∧ SInv (shEnv sh env vs) sh.st ∧ t.den Φ k (shEnv sh env vs) = some out ∧ Ext env (shEnv sh env vs) ∧ sh.st.den (shEnv sh env vs) = shSt sh env vs := by
  unfold cutTo at h
  split at h
  · rename_i t ht
    cases h
    obtain ⟨env', h1, h2⟩ := den_ndsT hden
    have hok := okZ_app hz hv
    have hw' := hw
    simp only [Shp.wf, Bool.and_eq_true] at hw'
    obtain ⟨k1, k2⟩ := run_lens (Φ := Φ) hok (l := []) hw'.1 (by simpa using h1)
    simp only [List.append_nil] at k1
    subst k1
    exact ⟨t, ht, okZ_app hok k2, shp_inv hw hz hv, h2, ⟨vs ++ lensOf (env ++ vs) sh.H, by simp [shEnv]⟩, rfl⟩
  · cases h
theorem CT.region' {id : Nat} {ops : Array Oper} {Q : Exit → St → Prop} {σ : St} (h : OT P E ops.toList.toArray ops.toList (Q .normal) σ) : CT P E (.region id ops false) Q σ := by
  have := CT.region (P := P) (E := E) (id := id) (l := ops.toList) (Q := Q) h
  simpa using this
theorem CT.know {c : Code} {Q : Exit → St → Prop} {σ : St} {t : Nat} {g : Bool} (ht : tk σ.T t = .v (.bool g)) (h : CT P E c Q (σ.know t g)) : CT P E c Q σ := fun μ a w hi => h μ a w (hi.know ht)
theorem CT.knowO {c : Code} {Q : Exit → St → Prop} {σ : SS} {env : List D} {o : Operand} {g : Bool} (ht : (σ.den env).ev o = .v (.bool g)) (h : CT P E c Q ((σ.knowO o g).den env)) : CT P E c Q (σ.den env) := by
  cases o with
  | tmp t =>
    simp only [SS.knowO, SS.know_den] at h
    exact CT.know ht h
  | _ => exact h
theorem SInv.knowO {σ : SS} {env : List D} (h : SInv env σ) (o : Operand) (g : Bool) : SInv env (σ.knowO o g) := by
  cases o <;> exact h
theorem sx_ok {n M : Nat} {hs : Hn} (hn : n = E.n) (hM : M = E.m) (hm : P.follows .mixedOrders = true) (htab : TabOk P C.tab) (hS : ∀ (j : Nat) (s : Sig), C.sigs[j]? = some s → SigOk P Φ j s) (hF : FnsOk S Φ) :
    ∀ {c : Code} {p : Nat} {σ : SS} {G : List CK} {xs : Ents} {K : SS → List CK → Option Tr} {t : Tr} {env : List D} {N : St → Prop} {out : Nat × List D},
      sx C S n M hs c p σ G xs K = some t → okZ G env = true → SInv env σ → XOk xs env → t.den Φ k env = some out → KS Φ k env K N out → CT P E c (nxt N (PX xs env out)) (σ.den env)
  | .skip, p, σ, G, xs, K, t, env, N, out, h, hz, hi, hx, hden, hK => CT.skip (hK σ G t env (.refl env) h hz hi hden)
  | .region id ops draw, p, σ, G, xs, K, t, env, N, out, h, hz, hi, hx, hden, hK => by
    unfold sx at h
    cases draw with
    | true =>
      simp only at h
      split at h
      · rename_i hns
        exact CT.draw hm _ (sxDraw_ok hns hn htab hS hF hK _ _ h (.refl env) hz hi hden)
      · cases h
    | false => exact CT.region' (sxOps_ok hn htab hS hF hK h (.refl env) hz hi hden)
  | .seq a b, p, σ, G, xs, K, t, env, N, out, h, hz, hi, hx, hden, hK => by
    unfold sx at h
    split at h
    · refine CT.seq (CT.mono (sx_ok hn hM hm htab hS hF (N := CT P E b (nxt N (PX xs env out))) h hz hi hx hden (fun σ' G' t' env' e1 h' hz' hi' hd' => ?_)) (fun e τ q => ?_))
      · exact CT.mono (sx_ok hn hM hm htab hS hF h' hz' hi' (hx.ext e1) hd' (hK.ext e1)) (fun e τ q => by
          cases e with
          | normal => exact q
          | _ => exact PX.back hx e1 q)
      · cases e with
        | normal => exact q
        | _ => exact q
    · rename_i sh _
      split at h
      · rename_i ta tb hta htb
        cases h
        simp only [Tr.den] at hden
        refine CT.seq ?_
        generalize hoa : ta.den Φ k env = oa at hden
        cases oa with
        | none => cases hden
        | some o =>
          obtain ⟨e0, vs⟩ := o
          have ha := sx_ok hn hM hm htab hS hF (N := AtCut E G sh env (e0, vs)) hta hz hi hx hoa (leaf_ks hM hz)
          cases e0 with
          | zero =>
            refine ha.mono (fun e τ q => ?_)
            have hno : ∀ {e : Exit} {τ : St}, PX xs env (0, vs) e τ → False := fun ⟨n, h1, h2, _⟩ => (exN_pos h1).1 h2.symm
            cases e with
            | normal =>
              obtain ⟨_, q2, q3, q4⟩ := q
              obtain ⟨t', k1, k2, k3, k4, k5, k6⟩ := cutTo_ok htb hden hz q2 q3
              refine CT.gs q4 ?_
              rw [← k6]
              exact CT.mono (sx_ok hn hM hm htab hS hF k1 k2 k3 (hx.ext k5) k4 (hK.ext k5)) (fun e τ q => by
                cases e with
                | normal => exact q
                | _ => exact PX.back hx k5 q)
            | _ => exact (hno q).elim
          | succ e0 =>
            simp only [Option.some.injEq] at hden
            subst hden
            refine ha.mono (fun e τ q => ?_)
            cases e with
            | normal => exact absurd q.1 (by simp)
            | _ => exact q
      · cases h
  | .cond o x y, p, σ, G, xs, K, t, env, N, out, h, hz, hi, hx, hden, hK => by
    have hev := SS.ev_den env σ o
    unfold sx at h
    split at h
    · rename_i e
      rw [e] at hev
      exact CT.cond (b := true) (hev.trans (encC_bool true)) (fun _ => sx_ok hn hM hm htab hS hF h hz hi hx hden hK) (fun g => by cases g)
    · rename_i e
      rw [e] at hev
      exact CT.cond (b := false) (hev.trans (encC_bool false)) (fun g => by cases g) (fun _ => sx_ok hn hM hm htab hS hF h hz hi hx hden hK)
    · rename_i a _ _ e
      split at h
      · rename_i hta
        split at h
        · rename_i tx ty h1 h2
          cases h
          obtain ⟨g, hg⟩ := okC_bool (tyA_ok hz hta)
          have hv : (σ.den env).ev o = .v (.bool g) := by
            rw [hev, e, SV.den, hg, encC_bool]
          simp only [Tr.den, hg] at hden
          refine CT.cond hv (fun hb => ?_) (fun hb => ?_)
          · subst hb
            exact CT.knowO hv (sx_ok hn hM hm htab hS hF h1 hz (hi.knowO o true) hx hden hK)
          · subst hb
            exact CT.knowO hv (sx_ok hn hM hm htab hS hF h2 hz (hi.knowO o false) hx hden hK)
        · cases h
      · cases h
    · cases h
  | .block id c, p, σ, G, xs, K, t, env, N, out, h, hz, hi, hx, hden, hK => by
    unfold sx at h
    split at h
    · cases h
    · rename_i sh _
      split at h
      · rename_i ta tb hta htb
        cases h
        simp only [Tr.den] at hden
        generalize hoa : ta.den Φ k env = oa at hden
        cases oa with
        | none => cases hden
        | some o =>
          obtain ⟨e0, vs⟩ := o
          have hx' : XOk ((id + 2, G, sh) :: xs) env := fun q G0 sh0 he => by
            simp only [entOf] at he
            split at he
            · cases he
              rw [take_all hz]; exact hz
            · exact hx q G0 sh0 he
          have ha := sx_ok hn hM hm htab hS hF (N := AtCut E G sh env (e0, vs)) hta hz hi hx' hoa (leaf_ks hM hz)
          have fin : (e0 = 0 ∨ e0 = id + 2) → tb.den Φ k (env ++ vs) = some out → okZ sh.ps vs = true → sh.wf G = true → N (shSt sh env vs) := fun _ hd q2 q3 => by
            obtain ⟨t', k1, k2, k3, k4, k5, k6⟩ := cutTo_ok htb hd hz q2 q3
            rw [← k6]
            exact hK _ _ t' _ k5 k1 k2 k3 k4
          have out1 : ∀ {e : Exit} {τ : St} {q : Nat}, exN e = some q → q ≠ id + 2 → PX ((id + 2, G, sh) :: xs) env (e0, vs) e τ → PX xs env (e0, vs) e τ := fun {e τ q} h0 hq ⟨m, h1, h2, G0, sh0, h3, h4⟩ => by
            rw [h0] at h1
            cases h1
            refine ⟨q, h0, h2, G0, sh0, ?_, h4⟩
            simp only [entOf] at h3
            split at h3
            · rename_i hb
              exact absurd (Nat.eq_of_beq_eq_true hb).symm hq
            · exact h3
          refine CT.gsQ (CT.block (ha.mono (fun e τ q => ?_)))
          by_cases hcase : e0 = 0 ∨ e0 = id + 2
          · have hd : tb.den Φ k (env ++ vs) = some out := by
              rcases hcase with rfl | rfl
              · exact hden
              · simpa using hden
            have other : ∀ {e : Exit} {τ : St} {q : Nat}, exN e = some q → q ≠ id + 2 → PX ((id + 2, G, sh) :: xs) env (e0, vs) e τ → False := fun {e τ q} h0 hq ⟨m, h1, h2, _⟩ => by
              rw [h0] at h1
              cases h1
              have := (exN_pos h0).1
              simp only at h2
              omega
            cases e with
            | normal =>
              obtain ⟨_, q2, q3, q4⟩ := q
              exact ⟨_, .inr q4, fin hcase hd q2 q3⟩
            | exit j =>
              simp only [blkQ]
              by_cases hj : j = id
              · subst hj
                rw [if_pos rfl]
                obtain ⟨m, h1, h2, G0, sh0, h3, h4, h5, h6⟩ := q
                cases h1
                simp only [entOf, Nat.beq_refl, if_true] at h3
                cases h3
                rw [take_all hz] at h6
                exact ⟨_, .inl rfl, by rw [h6]; exact fin hcase hd h4 h5⟩
              · exact (other rfl (by omega) q).elim
            | ret => exact (other rfl (by omega) q).elim
            | _ => exact absurd q (by rintro ⟨m, h1, _⟩; cases h1)
          · have hd : out = (e0, vs) := by
              have h1 : e0 ≠ 0 := fun g => hcase (.inl g)
              have h2 : Nat.beq e0 (id + 2) = false := by
                cases g : Nat.beq e0 (id + 2) with
                | false => rfl
                | true => exact absurd (.inr (Nat.eq_of_beq_eq_true g)) hcase
              cases e0 with
              | zero => exact absurd rfl h1
              | succ e0 =>
                simp only [h2] at hden
                exact (Option.some.inj hden).symm
            subst hd
            cases e with
            | normal => exact absurd (.inl q.1) hcase
            | exit j =>
              simp only [blkQ]
              by_cases hj : j = id
              · subst hj
                obtain ⟨m, h1, h2, _⟩ := q
                cases h1
                exact absurd (.inr h2) hcase
              · rw [if_neg hj]
                exact ⟨_, .inl rfl, out1 rfl (by omega) q⟩
            | ret => exact ⟨_, .inl rfl, out1 rfl (by omega) q⟩
            | _ => exact absurd q (by rintro ⟨m, h1, _⟩; cases h1)
      · cases h
  | .loop c, p, σ, G, xs, K, t, env, N, out, h, hz, hi, hx, hden, hK => by
    unfold sx at h
    split at h
    · cases h
    · rename_i sh _
      split at h
      · rename_i vals tb hv htb
        cases h
        simp only [Tr.den] at hden
        obtain ⟨g1, g2, g3⟩ := goVals_ok (E := E) hv hM hz (.refl env) hz hi
        refine CT.gs g3 ?_
        refine CT.loop (fun n τ => ∃ vs, okZ sh.ps vs = true ∧ τ = shSt sh env vs ∧ iter (fun vs => tb.den Φ k (env ++ vs)) n vs = some out) (fun n τ hJ => ?_) (n := k) ⟨_, g1, rfl, hden⟩
        obtain ⟨vs, j1, rfl, j3⟩ := hJ
        cases n with
        | zero => cases j3
        | succ n =>
          simp only [iter] at j3
          generalize hob : tb.den Φ k (env ++ vs) = ob at j3
          cases ob with
          | none => cases j3
          | some o =>
            obtain ⟨e0, ws⟩ := o
            obtain ⟨t', k1, k2, k3, k4, k5, k6⟩ := cutTo_ok htb hob hz j1 g2
            have hzG := hz
            have hb := sx_ok hn hM hm htab hS hF (N := AtCut E G sh env (e0, ws)) k1 k2 k3 (hx.ext k5) k4 ((leaf_ks hM hz).ext k5)
            rw [k6] at hb
            refine CT.gsQ (hb.mono (fun e τ q => ?_))
            cases e0 with
            | zero =>
              have hno : ∀ {e : Exit} {τ : St}, PX xs (shEnv sh env vs) (0, ws) e τ → False := fun ⟨n, h1, h2, _⟩ => (exN_pos h1).1 h2.symm
              cases e with
              | normal =>
                obtain ⟨_, q2, q3, q4⟩ := q
                exact ⟨_, .inr q4, n, Nat.lt_succ_self n, ws, q2, rfl, j3⟩
              | _ => exact (hno q).elim
            | succ e0 =>
              simp only [Option.some.injEq] at j3
              subst j3
              cases e with
              | normal => exact absurd q.1 (by simp)
              | _ => exact ⟨_, .inl rfl, PX.back hx k5 q⟩
      · cases h
  | .exit id, p, σ, G, xs, K, t, env, N, out, h, hz, hi, hx, hden, hK => by
    unfold sx at h
    split at h
    · rename_i G0 sh he
      obtain ⟨h1, h2, h3, h4⟩ := leaf_ok (E := E) hM h (hx _ _ _ he) hz hi hden
      exact CT.gsQ (CT.exit ⟨_, .inr h4, id + 2, rfl, h1, G0, sh, he, h2, h3, rfl⟩)
    · cases h
  | .ret, p, σ, G, xs, K, t, env, N, out, h, hz, hi, hx, hden, hK => by
    unfold sx at h
    split at h
    · rename_i G0 sh he
      obtain ⟨h1, h2, h3, h4⟩ := leaf_ok (E := E) hM h (hx _ _ _ he) hz hi hden
      exact CT.gsQ (CT.ret ⟨_, .inr h4, 1, rfl, h1, G0, sh, he, h2, h3, rfl⟩)
    · cases h
  | .rangeFunc .., p, σ, G, xs, K, t, env, N, out, h, hz, hi, hx, hden, hK => by cases h
  | .scope .., p, σ, G, xs, K, t, env, N, out, h, hz, hi, hx, hden, hK => by cases h
  | .label .., p, σ, G, xs, K, t, env, N, out, h, hz, hi, hx, hden, hK => by cases h
  | .goto .., p, σ, G, xs, K, t, env, N, out, h, hz, hi, hx, hden, hK => by cases h
  | .refuse .., p, σ, G, xs, K, t, env, N, out, h, hz, hi, hx, hden, hK => by cases h
end
end Go.BH
