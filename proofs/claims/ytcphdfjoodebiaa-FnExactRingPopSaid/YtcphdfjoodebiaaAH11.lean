/- The plain picture of a call's memory, 11: what is to be shown of a region, as one statement. -/
import Derived.Test.YtcphdfjoodebiaaAH10
import Derived.Laws.StructEq
set_option linter.unusedVariables false
set_option linter.unusedSimpArgs false
namespace Go.AH
open Go.RowKit
inductive TyK where
  | slice (e : TypeId)
  | struct (fs : List (TypeId × Nat))
  | str
  | other
/-- What the rules need of a type. -/
structure Ty where
  size : Nat
  bytes : Nat
  agg : Bool
  kind : TyK
  zero : List Value
def kindD : TypeDesc → TyK
  | .slice e => .slice e
  | .struct fs => .struct (fs.toList.map fun f => (f.type, f.offset))
  | .string => .str
  | _ => .other
def tyOf (P : Program) (t : TypeId) : Option Ty :=
  match P.underlying t, P.info? t with
  | some d, some i => match i.zero with
    | some z => some ⟨i.size, i.bytes, aggD d, kindD d, z.cells.toList⟩
    | none => none
  | _, _ => none
theorem tyOf_spec {P : Program} {t : TypeId} {T : Ty} (h : tyOf P t = some T) : ∃ d i z, P.underlying t = some d ∧ P.info? t = some i ∧ i.zero = some z ∧ T = ⟨i.size, i.bytes, aggD d, kindD d, z.cells.toList⟩ := by
  unfold tyOf at h
  cases hd : P.underlying t with
  | none => simp [hd] at h
  | some d =>
    cases hi : P.info? t with
    | none => simp [hd, hi] at h
    | some i =>
      cases hz : i.zero with
      | none => simp [hd, hi, hz] at h
      | some z => exact ⟨d, i, z, rfl, rfl, hz, by simp [hd, hi, hz] at h; exact h.symm⟩
/-- Two values and what an operation makes of them. -/
def bvP (P : Program) (t : TypeId) (o : BinOp) (u v : Value) (K : Value → Prop) : Prop :=
  match u, v with
  | .int k a, .int k' b => k = k' ∧ (match o with
    | .add => K (.int k (k.wrap (a + b)))
    | .sub => K (.int k (k.wrap (a - b)))
    | .mul => K (.int k (k.wrap (a * b)))
    | .quo => b ≠ 0 ∧ K (.int k (k.wrap (a.tdiv b)))
    | .rem => b ≠ 0 ∧ K (.int k (a.tmod b))
    | .eql => K (.bool (a == b))
    | .neq => K (.bool (a != b))
    | .lss => K (.bool (decide (a < b)))
    | .leq => K (.bool (decide (a ≤ b)))
    | .gtr => K (.bool (decide (a > b)))
    | .geq => K (.bool (decide (a ≥ b)))
    | o => ∃ r, (∀ w : World, (binOp o t u v : Sem Value).run P w = .ok r w) ∧ K r)
  | u, v => ∃ r, (∀ w : World, (binOp o t u v : Sem Value).run P w = .ok r w) ∧ (∀ (x y : Operand) (w : World), (eqGuard o t x y u v).run P w = .ok () w) ∧ K r
theorem bvP_sound {P : Program} {t : TypeId} {o : BinOp} {u v : Value} {K : Value → Prop} (x y : Operand) (h : bvP P t o u v K) : ∃ r, K r ∧ ∀ w : World, (do eqGuard o t x y u v; binOp o t u v : Sem Value).run P w = .ok r w := by
  unfold bvP at h
  split at h
  · rename_i k a k' b
    obtain ⟨rfl, h⟩ := h
    have hg : ∀ w, (eqGuard o t x y (.int k a) (.int k b)).run P w = .ok () w := fun w => by
      unfold eqGuard
      split <;> rfl
    cases o <;> simp only at h
    case quo => exact ⟨_, h.2, fun w => by simp [hg w, binOp, Op.intDiv, h.1]⟩
    case rem => exact ⟨_, h.2, fun w => by simp [hg w, binOp, Op.intDiv, h.1]⟩
    all_goals first
      | (obtain ⟨r, h1, h2⟩ := h; exact ⟨r, h2, fun w => by simp only [Sem.run_bind, hg w, Result.andThen_ok, h1 w]⟩)
      | exact ⟨_, h, fun w => by simp [hg w, binOp, Op.intArith, Op.intCmp]⟩
  · obtain ⟨r, h1, h2, h3⟩ := h
    exact ⟨r, h3, fun w => by simp only [Sem.run_bind, h2 x y w, Result.andThen_ok, h1 w]⟩
/-! ### structs of whole numbers, compared -/
def intF (P : Program) (f : Field) : Bool := match P.underlying f.type with
  | some (.int _) => f.name != "_"
  | _ => false
/-- A struct of n whole numbers. -/
def eqIntsB (P : Program) (t : TypeId) (n : Nat) : Bool :=
  !P.eqGuardType P.depth t && !P.stoodInHeld t && (match P.underlying t with
    | some (.struct fs) => fs.toList.map (·.offset) == List.range' 0 n && fs.toList.all (intF P)
    | _ => false)
def fstP (ps : List (IntKind × Int × Int)) : List Value := ps.map fun p => .int p.1 p.2.1
def sndP (ps : List (IntKind × Int × Int)) : List Value := ps.map fun p => .int p.1 p.2.2
def allEq : List (IntKind × Int × Int) → Bool
  | [] => true
  | p :: r => (p.2.1 == p.2.2) && allEq r
theorem eqFields_run {P : Program} (w : World) (d : Nat) (all : List (IntKind × Int × Int)) : ∀ (fs : List Field) (m : Nat), fs.map (·.offset) = List.range' m fs.length → fs.all (intF P) = true → m + fs.length = all.length →
    (Op.eqFields (d + 1) (fstP all).toArray (sndP all).toArray fs).run P w = .ok (allEq (all.drop m)) w
  | [], m, _, _, h => by
    simp only [List.length_nil, Nat.add_zero] at h
    subst h
    simp [Op.eqFields, allEq]
  | f :: fs, m, ho, hi, h => by
    simp only [List.map_cons, List.length_cons, List.range'_succ, List.cons.injEq] at ho
    simp only [List.all_cons, Bool.and_eq_true] at hi
    simp only [List.length_cons] at h
    obtain ⟨ho1, ho2⟩ := ho
    have hm : m < all.length := by omega
    have hd : all.drop m = all[m] :: all.drop (m + 1) := List.drop_eq_getElem_cons hm
    have hx : (fstP all).toArray[m]? = some (.int all[m].1 all[m].2.1) := by simp [fstP, hm]
    have hy : (sndP all).toArray[m]? = some (.int all[m].1 all[m].2.2) := by simp [sndP, hm]
    have ih := eqFields_run w d all fs (m + 1) ho2 hi.2 (by omega)
    have hf := hi.1
    unfold intF at hf
    split at hf
    · rename_i k hu
      have p1 : (part f.type (fstP all).toArray f.offset).run P w = .ok (.int all[m].1 all[m].2.1) w := by
        simp [part, isAgg, run_underlying hu, ho1, hx]
      have p2 : (part f.type (sndP all).toArray f.offset).run P w = .ok (.int all[m].1 all[m].2.2) w := by
        simp [part, isAgg, run_underlying hu, ho1, hy]
      have hn : f.name ≠ "_" := by simpa using hf
      simp only [Op.eqFields, hn, ne_eq, not_false_eq_true, if_true, Sem.run_bind, p1, p2, Result.andThen_ok, run_equalIn_int w d f.type _ k _ _ hu, Sem.run_ite, ih, hd, allEq]
      cases e : (all[m].2.1 == all[m].2.2) <;> simp
    · cases hf
theorem eqInts_run {P : Program} {t : TypeId} {ps : List (IntKind × Int × Int)} (h : eqIntsB P t ps.length = true) (x y : Operand) (w : World) :
    (∀ o, (eqGuard o t x y (.agg (fstP ps).toArray) (.agg (sndP ps).toArray)).run P w = .ok () w) ∧ (binOp .eql t (.agg (fstP ps).toArray) (.agg (sndP ps).toArray)).run P w = .ok (.bool (allEq ps)) w ∧ (binOp .neq t (.agg (fstP ps).toArray) (.agg (sndP ps).toArray)).run P w = .ok (.bool (!allEq ps)) w := by
  unfold eqIntsB at h
  simp only [Bool.and_eq_true, Bool.not_eq_true'] at h
  obtain ⟨⟨h1, h2⟩, h3⟩ := h
  split at h3
  · rename_i fs hu
    simp only [Bool.and_eq_true, beq_iff_eq] at h3
    have hfo : P.fieldsOf t = fs := by simp [Program.fieldsOf, hu]
    have hlen : fs.toList.length = ps.length := by
      have := congrArg List.length h3.1
      simpa using this
    have hr : (Op.equalIn 10000 t (.agg (fstP ps).toArray) (.agg (sndP ps).toArray)).run P w = .ok (allEq ps) w := by
      rw [run_equalIn_agg w 9999 t _ _ (by rw [hfo]; exact hu) h2, hfo]
      simpa using eqFields_run w 9998 ps fs.toList 0 (by rw [hlen]; exact h3.1) h3.2 (by omega)
    refine ⟨fun o => run_eqGuard_agg w o t x y _ _ h1, ?_, ?_⟩
    · rw [run_eql_struct, hr]; rfl
    · rw [run_neq_struct, hr]; rfl
  · cases h3
def asI : AV → Option (IntKind × Int)
  | .v (.int k a) => some (k, a)
  | _ => none
theorem asI_spec {x : AV} {p : IntKind × Int} (h : asI x = some p) : x = .v (.int p.1 p.2) := by
  unfold asI at h
  split at h
  · cases h; rfl
  · cases h
/-- Two lists of plain whole numbers, side by side. -/
def pairI : List AV → List AV → Option (List (IntKind × Int × Int))
  | [], [] => some []
  | x :: xs, y :: ys => match asI x, asI y with
    | some p, some q => if p.1 = q.1 then (pairI xs ys).bind (fun r => some ((p.1, p.2, q.2) :: r)) else none
    | _, _ => none
  | _, _ => none
theorem pairI_spec : ∀ {xs ys : List AV} {ps : List (IntKind × Int × Int)}, pairI xs ys = some ps → xs = vals (fstP ps) ∧ ys = vals (sndP ps)
  | [], [], ps, h => by
    simp only [pairI, Option.some.injEq] at h
    subst h
    exact ⟨rfl, rfl⟩
  | x :: xs, y :: ys, ps, h => by
    simp only [pairI] at h
    split at h
    · rename_i p q hp hq
      split at h
      · rename_i e
        cases hr : pairI xs ys with
        | none => simp [hr] at h
        | some r =>
          simp only [hr, Option.bind_some, Option.some.injEq] at h
          subst h
          obtain ⟨h1, h2⟩ := pairI_spec hr
          rw [asI_spec hp, asI_spec hq, h1, h2, ← e]
          exact ⟨rfl, rfl⟩
      · cases h
    · cases h
  | [], _ :: _, _, h => by simp [pairI] at h
  | _ :: _, [], _, h => by simp [pairI] at h
theorem VR.vals_agg {μ : Id → Option Pl} {l : List Value} {c : Value} (h : VR μ (.agg (vals l)) c) : c = .agg l.toArray := by
  cases h with
  | agg h =>
    rename_i cs
    have : ∀ (l cs : List Value), VRs μ (vals l) cs → cs = l := by
      intro l
      induction l with
      | nil => intro cs h; cases h; rfl
      | cons x xs ih => intro cs h; cases h with | cons a b => rw [a.val, ih _ b]
    rw [this _ _ h]
theorem OP.binAgg {P : Program} {base : Nat} {E : En} {σ : St} {o : Oper} {kp : Id → Bool} {op : BinOp} {t t' : TypeId} {x y : Operand} {ps : List (IntKind × Int × Int)} {r : Bool} (ho : o.op = .binOp op t x y t') (hx : σ.ev x = .agg (vals (fstP ps))) (hy : σ.ev y = .agg (vals (sndP ps))) (h : eqIntsB P t ps.length = true) (hop : (op = .eql ∧ r = allEq ps) ∨ (op = .neq ∧ r = !allEq ps)) : OP P base E kp o σ (.v (.bool r)) := fun μ a w hi => by
  have h1 := hi.ev x
  have h2 := hi.ev y
  rw [hx] at h1
  rw [hy] at h2
  refine ⟨_, .v _, fun w' _ => ?_⟩
  obtain ⟨e1, e2, e3⟩ := eqInts_run h x y w'
  rcases hop with ⟨rfl, rfl⟩ | ⟨rfl, rfl⟩
  · simp only [execOp, ho, h1.vals_agg, h2.vals_agg, Sem.run_bind, e1, e2, Result.andThen_ok, Sem.run_pure]
  · simp only [execOp, ho, h1.vals_agg, h2.vals_agg, Sem.run_bind, e1, e3, Result.andThen_ok, Sem.run_pure]
def kvv (K : AV → Prop) (r : Value) : Prop := K (.v r)
/-- An operation that only reckons or reads. -/
def pv (P : Program) (kp : Id → Bool) (σ : St) (op : Op) (K : AV → Prop) : Prop :=
  match op with
  | .move x => K (σ.ev x)
  | .assign x => K (σ.ev x)
  | .pick c x y => match σ.ev c with
    | .v (.bool b) => K (pk b (σ.ev x) (σ.ev y))
    | _ => False
  | .binOp o t x y _ => match σ.ev x, σ.ev y with
    | .v u, .v v => bvP P t o u v (kvv K)
    | .agg xs, .agg ys => ∃ ps, pairI xs ys = some ps ∧ eqIntsB P t ps.length = true ∧ (match o with
      | .eql => K (.v (.bool (allEq ps)))
      | .neq => K (.v (.bool (!allEq ps)))
      | _ => False)
    | _, _ => False
  | .unOp o _ x => match o, σ.ev x with
    | .not, .v (.bool b) => K (.v (.bool (!b)))
    | o, .v u => ∃ r, (∀ w : World, (Op.unary o u).run P w = .ok r w) ∧ K (.v r)
    | _, _ => False
  | .convert s d x => match σ.ev x with
    | .v u => ∃ r, (∀ w : World, (convert s d u).run P w = .ok r w) ∧ K (.v r)
    | _ => False
  | .extract x n => match σ.ev x with
    | .tup vs => ∃ v, vs[n]? = some v ∧ K v
    | _ => False
  | .load t p => match tyOf P t, σ.ev p with
    | some T, .ptr i k => kp i = true ∧ (match T.agg with
      | true => T.size ≠ 0 ∧ k + T.size ≤ (σ.H.get i).cells.length ∧ K (.agg (((σ.H.get i).cells.drop k).take T.size))
      | false => ∃ x, (σ.H.get i).cells[k]? = some x ∧ K x)
    | _, _ => False
  | .fieldAddr s x f => match tyOf P s, σ.ev x with
    | some T, .ptr i k => match T.kind with
      | .struct fs => ∃ q, fs[f]? = some q ∧ ∃ F, tyOf P q.1 = some F ∧ F.size ≠ 0 ∧ K (.ptr i (k + q.2))
      | _ => False
    | _, _ => False
  | .indexAddr t x ix => match tyOf P t, σ.ev x, σ.ev ix with
    | some T, .sl i k n s, .v (.int _ z) => match T.kind with
      | .slice e => ∃ F, tyOf P e = some F ∧ 0 ≤ z ∧ z < n ∧ K (.ptr i (k + z.toNat * F.size))
      | _ => False
    | _, _, _ => False
  | .call ⟨.builtin .len, ⟨[x]⟩, ⟨[t]⟩⟩ => match tyOf P t, σ.ev x with
    | some T, .sl i k n s => match T.kind with
      | .slice e => K (.v (goInt n))
      | _ => False
    | some T, .v (.slice b n c) => match T.kind with
      | .slice e => K (.v (goInt n))
      | _ => False
    | some T, .e0 => match T.kind with
      | .slice e => K (.v (goInt 0))
      | _ => False
    | some T, .v (.string z) => match T.kind with
      | .str => K (.v (goInt z.size))
      | _ => False
    | _, _ => False
  | .call ⟨.builtin .max, ⟨[x, y]⟩, _⟩ => match σ.ev x, σ.ev y with
    | .v (.int k a), .v (.int _ b) => K (.v (.int k (if b > a then b else a)))
    | _, _ => False
  | .call ⟨.builtin .min, ⟨[x, y]⟩, _⟩ => match σ.ev x, σ.ev y with
    | .v (.int k a), .v (.int _ b) => K (.v (.int k (if b < a then b else a)))
    | _, _ => False
  | _ => False
theorem kindD_slice {d : TypeDesc} {e : TypeId} (h : kindD d = .slice e) : d = .slice e := by
  cases d <;> simp_all [kindD]
theorem kindD_str {d : TypeDesc} (h : kindD d = .str) : d = .string := by
  cases d <;> simp_all [kindD]
theorem kindD_struct {d : TypeDesc} {fs : List (TypeId × Nat)} (h : kindD d = .struct fs) : ∃ gs : Array Field, d = .struct gs ∧ fs = gs.toList.map fun f => (f.type, f.offset) := by
  cases d <;> simp_all [kindD]
section
variable {P : Program} {base : Nat} {E : En} {σ : St} {o : Oper} {kp : Id → Bool}
theorem pv_sound {K : AV → Prop} (h : pv P kp σ o.op K) : ∃ v, K v ∧ OP P base E kp o σ v := by
  generalize hop : o.op = op at h
  unfold pv at h
  split at h
  · exact ⟨_, h, .move hop⟩
  · exact ⟨_, h, .assign hop⟩
  · split at h
    · rename_i hc
      exact ⟨_, h, .pick hop hc⟩
    · exact h.elim
  · split at h
    · rename_i hx hy
      obtain ⟨r, hk, hr⟩ := bvP_sound _ _ h
      exact ⟨_, hk, .bin hop hx hy hr⟩
    · rename_i hx hy
      obtain ⟨ps, hps, he, hk⟩ := h
      obtain ⟨e1, e2⟩ := pairI_spec hps
      rw [e1] at hx
      rw [e2] at hy
      split at hk
      · exact ⟨_, hk, .binAgg hop hx hy he (.inl ⟨rfl, rfl⟩)⟩
      · exact ⟨_, hk, .binAgg hop hx hy he (.inr ⟨rfl, rfl⟩)⟩
      · exact hk.elim
    · exact h.elim
  · split at h
    · rename_i hx
      exact ⟨_, h, .un hop hx (fun w => by simp [Op.unary])⟩
    · rename_i hx
      obtain ⟨r, h1, h2⟩ := h
      exact ⟨_, h2, .un hop hx h1⟩
    · exact h.elim
  · split at h
    · rename_i hx
      obtain ⟨r, h1, h2⟩ := h
      exact ⟨_, h2, .conv hop hx h1⟩
    · exact h.elim
  · split at h
    · rename_i hx
      obtain ⟨v, h1, h2⟩ := h
      exact ⟨v, h2, .extract hop hx h1⟩
    · exact h.elim
  · split at h
    · rename_i T i k ht hp
      obtain ⟨d, info, z, hu, hi, hz, rfl⟩ := tyOf_spec ht
      obtain ⟨hk, h⟩ := h
      split at h
      · rename_i ha
        exact ⟨_, h.2.2, .loadN hop hu ha hi hp h.1 h.2.1 hk⟩
      · rename_i ha
        obtain ⟨x, hx, h⟩ := h
        exact ⟨x, h, .load1 hop hu ha hp hx hk⟩
    · exact h.elim
  · split at h
    · rename_i T i k ht hp
      obtain ⟨d, info, z, hu, hi, hz, rfl⟩ := tyOf_spec ht
      split at h
      · rename_i fs hf
        obtain ⟨gs, rfl, rfl⟩ := kindD_struct hf
        obtain ⟨q, hq, F, hF, h0, h⟩ := h
        simp only [List.getElem?_map, Option.map_eq_some_iff] at hq
        obtain ⟨fd, hfd, rfl⟩ := hq
        obtain ⟨d', info', z', hu', hi', hz', rfl⟩ := tyOf_spec hF
        exact ⟨_, h, .fieldAddr hop hu (by simpa using hfd) hi' h0 hp⟩
      · exact h.elim
    · exact h.elim
  · split at h
    · rename_i T i k n s kd z ht hx hz
      obtain ⟨d, info, zz, hu, hi, hz', rfl⟩ := tyOf_spec ht
      split at h
      · rename_i e hk
        rw [kindD_slice hk] at hu
        obtain ⟨F, hF, h0, h1, h⟩ := h
        obtain ⟨d', info', z', hu', hi', hz', rfl⟩ := tyOf_spec hF
        exact ⟨_, h, .indexAddr hop hu hi' hx hz h0 h1⟩
      · exact h.elim
    · exact h.elim
  · split at h
    · rename_i ht hx
      obtain ⟨d, info, zz, hu, hi, hz', rfl⟩ := tyOf_spec ht
      split at h
      · rename_i e hk
        rw [kindD_slice hk] at hu
        exact ⟨_, h, .lenS hop hu hx⟩
      · exact h.elim
    · rename_i ht hx
      obtain ⟨d, info, zz, hu, hi, hz', rfl⟩ := tyOf_spec ht
      split at h
      · rename_i e hk
        rw [kindD_slice hk] at hu
        exact ⟨_, h, .lenV hop hu hx⟩
      · exact h.elim
    · rename_i ht hx
      obtain ⟨d, info, zz, hu, hi, hz', rfl⟩ := tyOf_spec ht
      split at h
      · rename_i e hk
        rw [kindD_slice hk] at hu
        exact ⟨_, h, .lenE hop hu hx⟩
      · exact h.elim
    · rename_i ht hx
      obtain ⟨d, info, zz, hu, hi, hz', rfl⟩ := tyOf_spec ht
      split at h
      · rename_i hk
        rw [kindD_str hk] at hu
        exact ⟨_, h, .lenStr hop hu hx⟩
      · exact h.elim
    · exact h.elim
  · split at h
    · rename_i hx hy
      exact ⟨_, h, .max hop hx hy⟩
    · exact h.elim
  · split at h
    · rename_i hx hy
      exact ⟨_, h, .min hop hx hy⟩
    · exact h.elim
  · exact h.elim
end
end Go.AH
