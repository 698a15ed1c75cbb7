/- The plain picture of a call's memory, 12: what is to be shown of a region, op by op. -/
import Derived.Test.YtcphdfjoodebiaaAH11
set_option linter.unusedVariables false
set_option linter.unusedSimpArgs false
namespace Go.AH
open Go.RowKit
def placesOf (P : Program) : List (TypeId × Nat) → Option (List (Nat × Nat))
  | [] => some []
  | (t, off) :: r => match tyOf P t, placesOf P r with
    | some T, some l => some ((off, T.size) :: l)
    | _, _ => none
theorem places_run {P : Program} (w : World) : ∀ (fs : List Field) (l : List (Nat × Nat)), placesOf P (fs.map fun f => (f.type, f.offset)) = some l → (fs.mapM fun f => do pure (f.offset, ← sizeOf f.type) : Sem (List (Nat × Nat))).run P w = .ok l w
  | [], l, h => by
    cases h
    rfl
  | f :: fs, l, h => by
    simp only [List.map_cons, placesOf] at h
    cases ht : tyOf P f.type with
    | none => rw [ht] at h; cases h
    | some T =>
      cases hl : placesOf P (fs.map fun f => (f.type, f.offset)) with
      | none => rw [ht, hl] at h; cases h
      | some m =>
        rw [ht, hl] at h
        cases h
        obtain ⟨d, i, z, hu, hi, hz, rfl⟩ := tyOf_spec ht
        rw [List.mapM_cons]
        simp only [Sem.run_bind, run_sizeOf' hi, Result.andThen_ok, Sem.run_pure, places_run w fs m hl]
def kval (K : AV → St → Prop) (σ : St) (v : AV) : Prop := K v σ
def kput (K : St → Prop) (d : Option Tmp) (v : AV) (σ : St) : Prop := K (σ.put d v)
/-- An operation of a region. -/
def ov (P : Program) (base : Nat) (E : En) (kp : Id → Bool) (o : Oper) (σ : St) (K : AV → St → Prop) : Prop :=
  match o.op with
  | .alloc t => match tyOf P t, o.dst with
    | some T, some d => kp (.l d) = false ∧ K (.ptr (.l d) 0) ⟨killI (.l d) σ.T, σ.H.put (.l d) (vals T.zero)⟩
    | _, _ => False
  | .box t x => match o.dst with
    | some d => kp (.l d) = false ∧ onesB (σ.ev x).cells = true ∧ K (.ptr (.l d) 0) ⟨killI (.l d) σ.T, σ.H.put (.l d) (σ.ev x).cells⟩
    | none => False
  | .build t ⟨ps⟩ => match tyOf P t with
    | some T => match T.kind with
      | .struct fs => ∃ pl, placesOf P fs = some pl ∧ ∃ ds, fillA (fun i => pl[i]?) (vals T.zero) (ps.map fun p => (p.1, σ.ev p.2)) = some ds ∧ K (.agg ds) σ
      | _ => False
    | none => False
  | .buildSlice t 0 ⟨[]⟩ => match tyOf P t with
    | some T => match T.kind with
      | .slice e => (∃ F, tyOf P e = some F) ∧ K .e0 σ
      | _ => False
    | none => False
  | .buildSlice t n ⟨ps⟩ => match tyOf P t with
    | some T => match T.kind with
      | .slice e => ∃ F, tyOf P e = some F ∧ n * F.size ≤ 16777216 ∧ n * F.size ≠ 0 ∧ F.zero.length = F.size ∧ ∃ ds, fillA (fun i => some (i * F.size, F.size)) (vals ((List.range (n * F.size)).map fun j => F.zero[j % F.zero.length]!)) (ps.map fun p => (p.1, σ.ev p.2)) = some ds ∧ AV.noLs ds = true ∧ K (.sl (.g σ.H.g.length) 0 n F.size) ⟨σ.T, σ.H.push (.own ds)⟩
      | _ => False
    | none => False
  | .store t p x => match tyOf P t, σ.ev p with
    | some T, .ptr i k => T.size ≠ 0 ∧ ∃ cs, σ.H.get i = .own cs ∧ E.lets i ∧ (σ.ev x).cells.length = T.size ∧ k + T.size ≤ cs.length ∧ onesB (σ.ev x).cells = true ∧ (∀ j, kp j = true → (σ.H.get j).alive = true ∧ j ≠ i) ∧ K .any ⟨σ.T, σ.H.put i (upd cs k (σ.ev x).cells)⟩
    | _, _ => False
  | .call ⟨.builtin .len, xs, ts⟩ => pv P (fun _ => true) σ (.call ⟨.builtin .len, xs, ts⟩) (kval K σ)
  | .call ⟨.builtin .max, xs, ts⟩ => pv P (fun _ => true) σ (.call ⟨.builtin .max, xs, ts⟩) (kval K σ)
  | .call ⟨.builtin .min, xs, ts⟩ => pv P (fun _ => true) σ (.call ⟨.builtin .min, xs, ts⟩) (kval K σ)
  | .call _ => OX P base E kp o σ K
  | .makeSlice _ _ _ => OX P base E kp o σ K
  | .slice _ _ _ _ _ => OX P base E kp o σ K
  | .makeFunc _ _ _ => OX P base E kp o σ K
  | .index _ _ _ => OX P base E kp o σ K
  | .field _ _ _ => OX P base E kp o σ K
  | op => pv P (fun _ => true) σ op (kval K σ)
section
variable {P : Program} {base : Nat} {E : En} {σ : St} {o : Oper} {kp : Id → Bool}
theorem OX.pv {K : AV → St → Prop} (h : pv P (fun _ => true) σ o.op (kval K σ)) : OX P base E kp o σ K := by
  obtain ⟨v, hk, hp⟩ := pv_sound (base := base) (E := E) h
  have : OS P base E kp o σ v σ := fun μ a w hi => by
    obtain ⟨c, hv, hr⟩ := hp μ a w hi
    exact ⟨c, w, μ, hr w (.refl _ _ _), hv, hi, .refl _ _ _⟩
  exact this.ox hk
theorem ov_sound {K : AV → St → Prop} (h : ov P base E kp o σ K) : OX P base E kp o σ K := by
  generalize hop : o.op = op
  unfold ov at h
  rw [hop] at h
  split at h
  · split at h
    · rename_i T d ht hd
      obtain ⟨dd, i, z, hu, hi, hz, rfl⟩ := tyOf_spec ht
      have := (OS.allocL (base := base) (E := E) (σ := σ) hop hi hz h.1).ox (R := K) h.2
      exact this
    · exact h.elim
  · split at h
    · exact (OS.boxL (base := base) (E := E) (σ := σ) hop (onesB_iff.1 h.2.1) h.1).ox h.2.2
    · exact h.elim
  · split at h
    · rename_i T ht
      obtain ⟨dd, i, z, hu, hi, hz, rfl⟩ := tyOf_spec ht
      split at h
      · rename_i fs hf
        obtain ⟨gs, rfl, rfl⟩ := kindD_struct hf
        obtain ⟨pl, hpl, ds, hds, hk⟩ := h
        refine (OP.build (base := base) (E := E) (σ := σ) (kp := kp) (pl := pl.toArray) (ds := ds) hop hu hi hz (fun w => ?_) (by simpa using hds)).os.ox hk
        rw [Array.mapM_eq_mapM_toList]
        simp only [map_eq_pure_bind, Sem.run_bind, places_run w _ _ hpl, Result.andThen_ok, Sem.run_pure]
      · exact h.elim
    · exact h.elim
  · split at h
    · rename_i T ht
      obtain ⟨dd, i, z, hu, hi, hz, rfl⟩ := tyOf_spec ht
      split at h
      · rename_i e he
        rw [kindD_slice he] at hu
        obtain ⟨⟨F, hF⟩, hk⟩ := h
        obtain ⟨d', i', z', hu', hi', hz', rfl⟩ := tyOf_spec hF
        exact (OS.buildSlice0 (base := base) (E := E) (σ := σ) hop hu hi').ox hk
      · exact h.elim
    · exact h.elim
  · split at h
    · rename_i T ht
      obtain ⟨dd, i, z, hu, hi, hz, rfl⟩ := tyOf_spec ht
      split at h
      · rename_i e he
        rw [kindD_slice he] at hu
        obtain ⟨F, hF, h1, h2, h3, ds, hds, hn, hk⟩ := h
        obtain ⟨d', i', z', hu', hi', hz', rfl⟩ := tyOf_spec hF
        simp only at h1 h2 h3 hds hk
        have e2 : (fun j => z'.cells[j % z'.cells.size]!) = (fun j => z'.cells.toList[j % z'.cells.toList.length]!) := funext (fun j => by
          rw [Array.length_toList, ← Array.getElem!_toList])
        exact (OS.buildSlice (base := base) (E := E) (σ := σ) (kp := kp) hop hu hi' hz' h1 h2 (by simpa using h3) (by rw [e2]; exact hds) (noLs_iff.1 hn)).ox hk
      · exact h.elim
    · exact h.elim
  · split at h
    · rename_i T i k ht hp
      obtain ⟨dd, ii, z, hu, hi, hz, rfl⟩ := tyOf_spec ht
      obtain ⟨h0, cs, h1, h2, h3, h4, h5, h6, hk⟩ := h
      exact (OS0.store (base := base) (E := E) (σ := σ) hop hi h0 hp h1 h2 h3 h4 (onesB_iff.1 h5) h6).ox hk
    · exact h.elim
  · exact OX.pv (by rw [hop]; exact h)
  · exact OX.pv (by rw [hop]; exact h)
  · exact OX.pv (by rw [hop]; exact h)
  · exact h
  · exact h
  · exact h
  · exact h
  · exact h
  · exact h
  · exact OX.pv (by rw [hop]; exact h)
/-- A temporary whose truth is known. -/
def St.know (σ : St) (t : Nat) (b : Bool) : St := ⟨(t, .v (.bool b)) :: σ.T, σ.H⟩
theorem INV.know {μ : Id → Option Pl} {a : Act} {w : World} (h : INV base E μ σ a w) {t : Nat} {g b : Bool} (ht : tk σ.T t = .v (.bool g)) (hg : g = b) : INV base E μ (σ.know t b) a w := { h with
  tmps := fun s => by
    simp only [St.know, tk]
    cases e : Nat.beq t s with
    | true =>
      have := Nat.eq_of_beq_eq_true e
      subst this
      subst hg
      simp only [↓reduceIte]
      rw [← ht]
      exact h.tmps t
    | false => exact h.tmps s }
/-- Both ways. -/
def sp (g : Bool) (t f : Prop) : Prop := (g = true → t) ∧ (g = false → f)
theorem sp_true (t f : Prop) : sp true t f = t := by simp [sp]
theorem sp_false (t f : Prop) : sp false t f = f := by simp [sp]
theorem spE (g : Bool) (t f : Prop) : sp g t f = ((g = true → t) ∧ (g = false → f)) := rfl
/-- The guard of an operation: what it was, and what follows if it is met, and if not. -/
def gv (ops : Array Oper) (o : Oper) (σ : St) (yes no : St → Prop) : Prop :=
  match o.guard with
  | none => yes σ
  | some (j, want) => match (ops[j]?).bind (·.dst) with
    | some t => match tk σ.T t with
      | .v (.bool g) => sp g (if want = true then yes (σ.know t true) else no (σ.know t true)) (if want = true then no (σ.know t false) else yes (σ.know t false))
      | .tup [] => no σ
      | _ => False
    | none => False
theorem gv_cases {ops : Array Oper} {yes no : St → Prop} (h : gv ops o σ yes no) : ∃ σ', (∀ μ a w, INV base E μ σ a w → INV base E μ σ' a w) ∧ ((wantsB ops o σ' true ∧ yes σ') ∨ (wantsB ops o σ' false ∧ no σ')) := by
  unfold gv at h
  cases hg : o.guard with
  | none => rw [hg] at h; exact ⟨σ, fun _ _ _ h => h, .inl ⟨by simp [wantsB, hg], h⟩⟩
  | some p =>
    obtain ⟨j, want⟩ := p
    rw [hg] at h
    simp only at h
    cases hj : ops[j]? with
    | none => simp [hj] at h
    | some oj =>
      cases hd : oj.dst with
      | none => simp [hj, hd] at h
      | some t =>
        simp only [hj, hd, Option.bind_some] at h
        split at h
        · rename_i g ht
          have hk : ∀ b, tk (σ.know t b).T t = .v (.bool b) := fun b => by simp [St.know, tk]
          obtain ⟨h1, h2⟩ := h
          cases g with
          | true =>
            have h1 := h1 rfl
            refine ⟨σ.know t true, fun μ a w hi => hi.know ht rfl, ?_⟩
            cases want with
            | true => exact .inl ⟨by simp only [wantsB, hg]; exact ⟨oj, t, hj, hd, .inl ⟨true, hk _, by simp⟩⟩, h1⟩
            | false => exact .inr ⟨by simp only [wantsB, hg]; exact ⟨oj, t, hj, hd, .inl ⟨true, hk _, by simp⟩⟩, h1⟩
          | false =>
            have h2 := h2 rfl
            refine ⟨σ.know t false, fun μ a w hi => hi.know ht rfl, ?_⟩
            cases want with
            | true => exact .inr ⟨by simp only [wantsB, hg]; exact ⟨oj, t, hj, hd, .inl ⟨false, hk _, by simp⟩⟩, h2⟩
            | false => exact .inl ⟨by simp only [wantsB, hg]; exact ⟨oj, t, hj, hd, .inl ⟨false, hk _, by simp⟩⟩, h2⟩
        · rename_i ht
          exact ⟨σ, fun _ _ _ h => h, .inr ⟨by simp only [wantsB, hg]; exact ⟨oj, t, hj, hd, .inr ⟨ht, by trivial⟩⟩, h⟩⟩
        · exact h.elim
def vstY (P : Program) (base : Nat) (E : En) (kp : Id → Bool) (o : Oper) (next : St → Prop) (σ : St) : Prop := ov P base E kp o σ (kput next o.dst)
def vstT (P : Program) (kp : Id → Bool) (o : Oper) (next : St → Prop) (σ : St) : Prop := pv P kp σ o.op (kval (kput next o.dst) σ)
def vstN (o : Oper) (next : St → Prop) (σ : St) : Prop := next (σ.put o.dst (.tup []))
/-- Has it a call of a function, or another operation that is left to be shown by hand? -/
def plainOp : Op → Bool
  | .call ⟨.builtin .len, _, _⟩ => true
  | .call ⟨.builtin .max, _, _⟩ => true
  | .call ⟨.builtin .min, _, _⟩ => true
  | .call _ => false
  | .makeSlice _ _ _ => false
  | .slice _ _ _ _ _ => false
  | .makeFunc _ _ _ => false
  | .index _ _ _ => false
  | .field _ _ _ => false
  | _ => true
/-- A region in its order. -/
def vcl (P : Program) (base : Nat) (E : En) (ops : Array Oper) : List Oper → (St → Prop) → St → Prop
  | [], K, σ => K σ
  | o :: r, K, σ => match plainOp o.op with
    | true => gv ops o σ (vstY P base E (fun _ => false) o (vcl P base E ops r K)) (vstN o (vcl P base E ops r K))
    | false => OT P base E ops (o :: r) K σ
def okDs (n : Nat) : List Oper → Bool
  | [] => true
  | o :: r => okD n o.dst && okDs n r
theorem vcl_sound {ops : Array Oper} {K : St → Prop} : ∀ (l : List Oper) (σ : St), okDs E.n l = true → vcl P base E ops l K σ → OT P base E ops l K σ
  | [], σ, _, h => .nil h
  | o :: r, σ, hd, h => by
    simp only [okDs, Bool.and_eq_true] at hd
    simp only [vcl] at h
    cases hp : plainOp o.op with
    | false => rw [hp] at h; exact h
    | true =>
    rw [hp] at h
    obtain ⟨σ', hσ, ⟨hw, h⟩ | ⟨hw, h⟩⟩ := gv_cases (base := base) (E := E) h
    · exact fun Q N hq μ a w hi => (OT.step hw hd.1 ((ov_sound h).mono (fun v σ' k => vcl_sound r _ hd.2 k))) Q N hq μ a w (hσ μ a w hi)
    · exact fun Q N hq μ a w hi => (OT.no hw hd.1 (vcl_sound r _ hd.2 h)) Q N hq μ a w (hσ μ a w hi)
theorem CT.reg {id : Nat} {l : List Oper} {Q : Exit → St → Prop} (hd : okDs E.n l = true) (h : vcl P base E l.toArray l (Q .normal) σ) : CT P base E (.region id l.toArray false) Q σ := .region (vcl_sound l σ hd h)
theorem OD.next1no {ops : Array Oper} {K : St → Prop} {fuel : Nat} {listed : Array Bool} (i : Nat) {oi : Oper} (hr : Region.ready .any ops listed = [i]) (hi : ops[i]? = some oi) (hw : wantsB ops oi σ false) (hd : okD E.n oi.dst = true)
    (h : OD P base E ops kp K fuel (listed.setIfInBounds i true) (σ.put oi.dst (.tup []))) : OD P base E ops kp K (fuel + 1) listed σ := fun μ a w hI => by
  refine wpAnyH_all hr (by simp) (fun j hj => ?_)
  obtain rfl : j = i := by simpa using hj
  unfold wpOp
  simp only [hi, wanted_of hI hw, Bool.false_eq_true, if_false]
  exact ⟨.refl _ _ _, h μ _ w (hI.put hd (.tup .nil))⟩
/-- A drawn region: who comes next is taken first (true), or must come next (false). -/
def schedOk (ops : Array Oper) : List (Bool × Nat) → Nat → Array Bool → Bool
  | [], fuel, listed => (Region.ready .any ops listed).isEmpty && fuel == 0
  | (b, i) :: r, fuel + 1, listed => (bif b then Region.noSelect ops && Region.free .any ops listed i && (Region.ready .any ops listed).contains i else Region.ready .any ops listed == [i]) && schedOk ops r fuel (listed.setIfInBounds i true)
  | _, _, _ => false
def ODs (P : Program) (base : Nat) (E : En) (kp : Id → Bool) (ops : Array Oper) (s : List (Bool × Nat)) (K : St → Prop) (σ : St) : Prop := ∀ (fuel : Nat) (listed : Array Bool), schedOk ops s fuel listed = true → OD P base E ops kp K fuel listed σ
def vcd (P : Program) (base : Nat) (E : En) (kp : Id → Bool) (ops : Array Oper) : List (Bool × Nat) → (St → Prop) → St → Prop
  | [], K, σ => K σ
  | (b, i) :: r, K, σ => match ops[i]? with
    | none => False
    | some o => match b with
      | true => gv ops o σ (vstT P kp o (vcd P base E kp ops r K)) (vstN o (vcd P base E kp ops r K))
      | false => match plainOp o.op with
        | true => gv ops o σ (vstY P base E kp o (vcd P base E kp ops r K)) (vstN o (vcd P base E kp ops r K))
        | false => ODs P base E kp ops ((b, i) :: r) K σ
theorem vcd_sound {ops : Array Oper} {K : St → Prop} (hds : okDs E.n ops.toList = true) : ∀ (s : List (Bool × Nat)) (fuel : Nat) (listed : Array Bool) (σ : St), schedOk ops s fuel listed = true → vcd P base E kp ops s K σ → OD P base E ops kp K fuel listed σ := by
  have hd : ∀ (i : Nat) (o : Oper), ops[i]? = some o → okD E.n o.dst = true := by
    have : ∀ (l : List Oper), okDs E.n l = true → ∀ o ∈ l, okD E.n o.dst = true := by
      intro l
      induction l with
      | nil => intro _ o ho; cases ho
      | cons x xs ih =>
        intro h o ho
        simp only [okDs, Bool.and_eq_true] at h
        rcases List.mem_cons.1 ho with rfl | ho
        · exact h.1
        · exact ih h.2 o ho
    intro i o h
    exact this _ hds o (by rw [← Array.getElem?_toList] at h; exact List.mem_of_getElem? h)
  intro s
  induction s with
  | nil =>
    intro fuel listed σ hs h
    simp only [schedOk, Bool.and_eq_true, List.isEmpty_iff] at hs
    exact .done hs.1 h
  | cons p r ih =>
    obtain ⟨b, i⟩ := p
    intro fuel listed σ hs h
    cases fuel with
    | zero => simp [schedOk] at hs
    | succ fuel =>
      simp only [schedOk, Bool.and_eq_true] at hs
      obtain ⟨h1, h2⟩ := hs
      simp only [vcd] at h
      cases ho : ops[i]? with
      | none => rw [ho] at h; exact h.elim
      | some o =>
        rw [ho] at h
        simp only at h
        cases b with
        | true =>
          simp only [cond_true, Bool.and_eq_true] at h1
          obtain ⟨σ', hσ, ⟨hw, h⟩ | ⟨hw, h⟩⟩ := gv_cases (base := base) (E := E) h
          · obtain ⟨v, hk, hp⟩ := pv_sound (base := base) (E := E) h
            exact fun μ a w hi => OD.take i ho h1.1.1 h1.1.2 h1.2 hw (hd i o ho) hp (ih fuel _ _ h2 hk) μ a w (hσ μ a w hi)
          · exact fun μ a w hi => OD.no i ho h1.1.1 h1.1.2 h1.2 hw (hd i o ho) (ih fuel _ _ h2 h) μ a w (hσ μ a w hi)
        | false =>
          simp only at h
          cases hp : plainOp o.op with
          | false => rw [hp] at h; exact h (fuel + 1) listed (by simp only [schedOk, h1, h2, Bool.and_self])
          | true =>
          rw [hp] at h
          simp only [cond_false] at h1
          have hr : Region.ready .any ops listed = [i] := by simpa using h1
          obtain ⟨σ', hσ, ⟨hw, h⟩ | ⟨hw, h⟩⟩ := gv_cases (base := base) (E := E) h
          · exact fun μ a w hi => OD.next1 i hr ho hw (hd i o ho) ((ov_sound h).mono (fun v σ' k => ih fuel _ _ h2 k)) μ a w (hσ μ a w hi)
          · exact fun μ a w hi => OD.next1no i hr ho hw (hd i o ho) (ih fuel _ _ h2 h) μ a w (hσ μ a w hi)
theorem ODs.of {ops : Array Oper} {K : St → Prop} {s : List (Bool × Nat)} (hds : okDs E.n ops.toList = true) (h : vcd P base E kp ops s K σ) : ODs P base E kp ops s K σ := fun fuel listed hs => vcd_sound hds s fuel listed σ hs h
theorem ODs.step {ops : Array Oper} {K : St → Prop} {i : Nat} {r : List (Bool × Nat)} (hi : ops[i]? = some o) (hg : o.guard = none) (hd : okD E.n o.dst = true) (h : OX P base E kp o σ (fun v σ' => ODs P base E kp ops r K (σ'.put o.dst v))) : ODs P base E kp ops ((false, i) :: r) K σ := fun fuel listed hs => by
  cases fuel with
  | zero => simp [schedOk] at hs
  | succ fuel =>
    simp only [schedOk, Bool.and_eq_true, cond_false] at hs
    exact .next1 i (by simpa using hs.1) hi (by unfold wantsB; rw [hg]) hd (h.mono (fun v σ' k => k fuel _ hs.2))
theorem OT.go {ops : Array Oper} {K : St → Prop} {r : List Oper} (hg : o.guard = none) (hd : okD E.n o.dst = true) (h : OX P base E (fun _ => false) o σ (fun v σ' => OT P base E ops r K (σ'.put o.dst v))) : OT P base E ops (o :: r) K σ := .step (by unfold wantsB; rw [hg]) hd h
theorem CT.drw {id : Nat} {ops : Array Oper} {Q : Exit → St → Prop} (hm : P.follows .mixedOrders = true) (s : List (Bool × Nat)) (kp : Id → Bool) (hd : okDs E.n ops.toList = true) (hs : schedOk ops s ops.size (Array.replicate ops.size false) = true) (h : vcd P base E kp ops s (Q .normal) σ) : CT P base E (.region id ops true) Q σ :=
  .draw hm kp (vcd_sound hd s _ _ _ hs h)
/-- What holds behind a piece of code, said anew. -/
theorem CT.cut {x y : Code} {Q : Exit → St → Prop} {α : Type} (I : α → St) (Y : α → Prop) (h : CT P base E x (nxt (fun σ' => ∃ z, Y z ∧ Le σ' (I z)) Q) σ) (k : ∀ z, Y z → CT P base E y Q (I z)) : CT P base E (.seq x y) Q σ := by
  refine .seq (h.mono (fun e σ' hq => ?_))
  cases e with
  | normal =>
    obtain ⟨z, hz, hl⟩ := hq
    exact (k z hz).weaken hl
  | _ => exact hq
end
end Go.AH
