/- The plain picture of a call's memory, 13: what is to be shown of a body, as one statement. -/
import Derived.Test.YtcphdfjoodebiaaAH12
set_option linter.unusedVariables false
set_option linter.unusedSimpArgs false
namespace Go.AH
open Go.RowKit
def okC (n : Nat) : Code → Bool
  | .region _ ops false => okDs n ops.toList
  | .seq a b => okC n a && okC n b
  | .cond _ a b => okC n a && okC n b
  | .block _ a => okC n a
  | _ => true
def plainOps : List Oper → Bool
  | [] => true
  | o :: r => plainOp o.op && plainOps r
def plainC : Code → Bool
  | .region _ ops false => plainOps ops.toList
  | .seq a b => plainC a && plainC b
  | .cond _ a b => plainC a && plainC b
  | .block _ a => plainC a
  | .skip => true
  | .exit _ => true
  | .ret => true
  | _ => false
/-- A body; its loops and drawn regions are left. -/
def vcC (P : Program) (base : Nat) (E : En) : Code → (Exit → St → Prop) → St → Prop
  | .skip, Q, σ => Q .normal σ
  | .exit id, Q, σ => Q (.exit id) σ
  | .ret, Q, σ => Q .ret σ
  | .seq a b, Q, σ => if plainC a = true then vcC P base E a (nxt (vcC P base E b Q) Q) σ else CT P base E (.seq a b) Q σ
  | .cond (.tmp t) a b, Q, σ => match tk σ.T t with
    | .v (.bool g) => sp g (vcC P base E a Q (σ.know t true)) (vcC P base E b Q (σ.know t false))
    | _ => False
  | .block id c, Q, σ => if plainC c = true then vcC P base E c (blkQ id Q) σ else CT P base E (.block id c) Q σ
  | .region id ops false, Q, σ => if plainOps ops.toList = true then vcl P base E ops ops.toList (Q .normal) σ else CT P base E (.region id ops false) Q σ
  | c, Q, σ => CT P base E c Q σ
section
variable {P : Program} {base : Nat} {E : En} {σ : St}
theorem vcC_sound : ∀ (c : Code) (Q : Exit → St → Prop) (σ : St), okC E.n c = true → vcC P base E c Q σ → CT P base E c Q σ
  | .skip, Q, σ, _, h => .skip h
  | .exit id, Q, σ, _, h => .exit h
  | .ret, Q, σ, _, h => .ret h
  | .seq a b, Q, σ, hd, h => by
    simp only [okC, Bool.and_eq_true] at hd
    simp only [vcC] at h
    cases hp : plainC a with
    | false => rw [hp] at h; exact h
    | true =>
      rw [hp] at h
      refine .seq ((vcC_sound a _ σ hd.1 h).mono (fun e σ' hq => ?_))
      cases e with
      | normal => exact vcC_sound b Q σ' hd.2 hq
      | _ => exact hq
  | .cond (.tmp t) a b, Q, σ, hd, h => by
    simp only [okC, Bool.and_eq_true] at hd
    simp only [vcC] at h
    split at h
    · rename_i g hg
      exact .cond (o := .tmp t) (b := g) hg (fun e μ c w hi => vcC_sound a Q _ hd.1 (h.1 e) μ c w (hi.know hg e)) (fun e μ c w hi => vcC_sound b Q _ hd.2 (h.2 e) μ c w (hi.know hg e))
    · exact h.elim
  | .cond (.const v) a b, Q, σ, hd, h => h
  | .cond (.global v) a b, Q, σ, hd, h => h
  | .cond (.func v) a b, Q, σ, hd, h => h
  | .block id c, Q, σ, hd, h => by
    simp only [vcC] at h
    cases hp : plainC c with
    | false => rw [hp] at h; exact h
    | true => rw [hp] at h; exact .block (vcC_sound c _ σ (by simpa only [okC] using hd) h)
  | .region id ops false, Q, σ, hd, h => by
    simp only [vcC] at h
    cases hp : plainOps ops.toList with
    | false => rw [hp] at h; exact h
    | true =>
      rw [hp] at h
      obtain ⟨l⟩ := ops
      exact CT.reg (l := l) (by simpa only [okC] using hd) h
  | .region id ops true, Q, σ, hd, h => h
  | .loop c, Q, σ, hd, h => h
  | .goto l, Q, σ, hd, h => h
  | .label l, Q, σ, hd, h => h
  | .rangeFunc f p a b, Q, σ, hd, h => h
  | .scope c, Q, σ, hd, h => h
  | .refuse w, Q, σ, hd, h => h
def rv (P : Program) (σ : St) : ResultVar → (AV → Prop) → Prop
  | .tmp t, K => K (tk σ.T t)
  | .cell a t, K => pv P (fun _ => true) σ (.load t (.tmp a)) K
def rvK (f : (List AV → Prop) → Prop) (K : List AV → Prop) (v : AV) : Prop := f (fun vs => K (v :: vs))
def rvs (P : Program) (σ : St) : List ResultVar → (List AV → Prop) → Prop
  | [], K => K []
  | x :: xs, K => rv P σ x (fun v => rvs P σ xs (fun vs => K (v :: vs)))
theorem rv_sound {x : ResultVar} {K : AV → Prop} (h : rv P σ x K) : ∃ v, RV P σ x v ∧ K v := by
  cases x with
  | tmp t => exact ⟨_, .tmp t rfl, h⟩
  | cell a t =>
    simp only [rv, pv] at h
    split at h
    · rename_i T i k ht hp
      obtain ⟨d, info, z, hu, hi, hz, rfl⟩ := tyOf_spec ht
      obtain ⟨_, h⟩ := h
      split at h
      · rename_i ha
        exact ⟨_, .cellN hu ha hi h.1 hp h.2.1 rfl, h.2.2⟩
      · rename_i ha
        obtain ⟨x, hx, h⟩ := h
        exact ⟨x, .cell1 hu ha hp hx, h⟩
    · exact h.elim
theorem rvs_sound : ∀ (xs : List ResultVar) (K : List AV → Prop), rvs P σ xs K → ∃ vs, RVs P σ xs vs ∧ K vs
  | [], K, h => ⟨[], .nil, h⟩
  | x :: xs, K, h => by
    obtain ⟨v, h1, h2⟩ := rv_sound h
    obtain ⟨vs, h3, h4⟩ := rvs_sound xs _ h2
    exact ⟨v :: vs, .cons h1 h3, h4⟩
def fin (R : AV → List Blk → Prop) (g : List Blk) (vs : List AV) : Prop := AV.noLs vs = true ∧ R (oneOf vs) g
/-- The end of a body, and what it returns. -/
def RE (P : Program) (rs : List ResultVar) (R : AV → List Blk → Prop) : Exit → St → Prop
  | .ret, σ => rvs P σ rs (fin R σ.H.g)
  | .normal, σ => rvs P σ rs (fin R σ.H.g)
  | _, _ => False
theorem RE.rq {rs : List ResultVar} {R : AV → List Blk → Prop} {e : Exit} {σ : St} (h : RE P rs R e σ) : RQ P rs R e σ := by
  cases e with
  | ret =>
    obtain ⟨vs, h1, h2⟩ := rvs_sound rs _ h
    exact ⟨.inl rfl, vs, h1, h2⟩
  | normal =>
    obtain ⟨vs, h1, h2⟩ := rvs_sound rs _ h
    exact ⟨.inr rfl, vs, h1, h2⟩
  | _ => exact h.elim
/-- A function's triple, from its body. -/
theorem FT.vc {f : FuncId} {fn : Func} {c : Code} {args : List AV} {g : List Blk} {R : AV → List Blk → Prop} (hf : P.funcs[f]? = some fn) (hb : fn.body = some c) (hn : Nat.ble args.length fn.ntmps = true) (hok : okC fn.ntmps c = true)
    (h : ∀ base μ w, vcC P base ⟨μ, w, g, gM g, fn.ntmps⟩ c (RE P fn.results.toList R) ⟨argT 0 args, ⟨g, []⟩⟩) : FT P f args g R :=
  .of_body hf hb (Nat.le_of_ble_eq_true hn) (fun base μ w => (vcC_sound c _ _ hok (h base μ w)).mono (fun e σ hq => hq.rq))
end
end Go.AH
