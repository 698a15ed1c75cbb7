/- The plain picture of a call's memory, 10: a call within a call. -/
import Derived.Test.YtcphdfjoodebiaaAH9
set_option linter.unusedVariables false
set_option linter.unusedSimpArgs false
namespace Go.AH
open Go.RowKit
def Blk.ren (ρ : Nat → Id) : Blk → Blk
  | .dead => .dead
  | .ro cs => .dead
  | .own cs => .own (AV.rens ρ cs)
/-- The caller's blocks behind the call: those lent to be written hold what the callee left in them. -/
def Hp.upds (ρ : Nat → Id) (H : Hp) : List Id → List Blk → List Blk → Hp
  | i :: is, .own _ :: gs, .own cs :: bs => Hp.upds ρ (H.put i (AV.rens ρ cs)) is gs bs
  | _ :: is, _ :: gs, _ :: bs => Hp.upds ρ H is gs bs
  | _, _, _ => H
/-- The names that the callee's blocks have with the caller: those lent, then new ones. -/
def named (ids : List Id) (L n : Nat) : Id := (ids[n]?).getD (.g (L + (n - ids.length)))
def back (σ : St) (ids : List Id) (gC g' : List Blk) : St :=
  let ρ := named ids σ.H.g.length
  let H := Hp.upds ρ σ.H ids gC g'
  ⟨σ.T, ⟨H.g ++ (g'.drop ids.length).map (Blk.ren ρ), H.l⟩⟩
/-- The blocks that are lent, as the callee names them. -/
inductive Lend (E : En) (H : Hp) (ρ : Nat → Id) : List Id → List Blk → Prop where
  | nil : Lend E H ρ [] []
  | dead {i : Id} {is : List Id} {gs : List Blk} (k : Lend E H ρ is gs) : Lend E H ρ (i :: is) (.dead :: gs)
  | ro {i : Id} {cs : List AV} {is : List Id} {gs : List Blk} (ha : (H.get i).alive = true) (h : (H.get i).cells = AV.rens ρ cs) (hn : AV.noLs cs = true) (k : Lend E H ρ is gs) : Lend E H ρ (i :: is) (.ro cs :: gs)
  | own {i : Id} {cs : List AV} {is : List Id} {gs : List Blk} (h : H.get i = .own (AV.rens ρ cs)) (hn : AV.noLs cs = true) (hl : E.lets i) (k : Lend E H ρ is gs) : Lend E H ρ (i :: is) (.own cs :: gs)
theorem Lend.length {E : En} {H : Hp} {ρ : Nat → Id} : ∀ {ids : List Id} {gC : List Blk}, Lend E H ρ ids gC → gC.length = ids.length
  | _, _, .nil => rfl
  | _, _, .dead k => by simp [Lend.length k]
  | _, _, .ro _ _ _ k => by simp [Lend.length k]
  | _, _, .own _ _ _ k => by simp [Lend.length k]
theorem Lend.get {E : En} {H : Hp} {ρ : Nat → Id} : ∀ {ids : List Id} {gC : List Blk}, Lend E H ρ ids gC → ∀ (n : Nat) (i : Id), ids[n]? = some i →
    ((gC[n]?).getD .dead = .dead) ∨ (∃ cs, (gC[n]?).getD .dead = .ro cs ∧ (H.get i).alive = true ∧ (H.get i).cells = AV.rens ρ cs ∧ AV.noLs cs = true) ∨ (∃ cs, (gC[n]?).getD .dead = .own cs ∧ H.get i = .own (AV.rens ρ cs) ∧ AV.noLs cs = true ∧ E.lets i)
  | _, _, .nil, n, i, h => by simp at h
  | _, _, .dead k, 0, i, h => by simp
  | _, _, .dead k, n + 1, i, h => by simpa using Lend.get k n i (by simpa using h)
  | _, _, .ro ha h hn k, 0, i, hi => by simp at hi; subst hi; exact .inr (.inl ⟨_, by simp, ha, h, hn⟩)
  | _, _, .ro ha h hn k, n + 1, i, hi => by simpa using Lend.get k n i (by simpa using hi)
  | _, _, .own h hn hl k, 0, i, hi => by simp at hi; subst hi; exact .inr (.inr ⟨_, by simp, h, hn, hl⟩)
  | _, _, .own h hn hl k, n + 1, i, hi => by simpa using Lend.get k n i (by simpa using hi)
theorem upds_len (ρ : Nat → Id) : ∀ (ids : List Id) (gC g' : List Blk) (H : Hp), (Hp.upds ρ H ids gC g').g.length = H.g.length
  | [], _, _, _ => by simp [Hp.upds]
  | _ :: _, [], _, _ => by simp [Hp.upds]
  | _ :: _, _ :: _, [], _ => by simp [Hp.upds]
  | i :: is, g :: gs, b :: bs, H => by
    cases g <;> cases b <;> simp only [Hp.upds, upds_len ρ is gs bs] <;> simp [put_g_len]
theorem upds_ne (ρ : Nat → Id) (i : Id) : ∀ (ids : List Id) (gC g' : List Blk) (H : Hp), (∀ n : Nat, ids[n]? = some i → ((gC[n]?).getD .dead).isOwn = false) → (Hp.upds ρ H ids gC g').get i = H.get i
  | [], _, _, _, _ => by simp [Hp.upds]
  | _ :: _, [], _, _, _ => by simp [Hp.upds]
  | _ :: _, _ :: _, [], _, _ => by simp [Hp.upds]
  | j :: is, g :: gs, b :: bs, H, h => by
    have h0 := h 0
    have hs : ∀ n : Nat, is[n]? = some i → ((gs[n]?).getD .dead).isOwn = false := fun n hn => by simpa using h (n + 1) (by simpa using hn)
    cases g with
    | own cs =>
      have hji : j ≠ i := fun e => by subst e; simp [Blk.isOwn] at h0
      cases b with
      | own ds => simp only [Hp.upds]; rw [upds_ne ρ i is gs bs _ hs, get_put_ne hji]
      | dead => simp only [Hp.upds]; exact upds_ne ρ i is gs bs _ hs
      | ro ds => simp only [Hp.upds]; exact upds_ne ρ i is gs bs _ hs
    | dead => simp only [Hp.upds]; exact upds_ne ρ i is gs bs _ hs
    | ro cs => simp only [Hp.upds]; exact upds_ne ρ i is gs bs _ hs
theorem upds_eq (ρ : Nat → Id) (i : Id) : ∀ (ids : List Id) (gC g' : List Blk) (H : Hp) (n : Nat) (cs : List AV), (∀ m : Nat, m ≠ n → ids[m]? = some i → ((gC[m]?).getD .dead).isOwn = false) → ids[n]? = some i → ((gC[n]?).getD .dead).isOwn = true → g'[n]? = some (.own cs) → H.has i → (Hp.upds ρ H ids gC g').get i = .own (AV.rens ρ cs)
  | [], _, _, _, n, _, _, h, _, _, _ => by simp at h
  | _ :: _, [], _, _, n, _, _, _, h, _, _ => by simp [Blk.isOwn] at h
  | _ :: _, _ :: _, [], _, n, _, _, _, _, h, _ => by simp at h
  | j :: is, g :: gs, b :: bs, H, 0, cs, hno, hi, hg, hb, hh => by
    simp at hi hb
    subst hi
    subst hb
    have hs : ∀ n : Nat, is[n]? = some j → ((gs[n]?).getD .dead).isOwn = false := fun n hn => by simpa using hno (n + 1) (by omega) (by simpa using hn)
    cases g with
    | own ds => simp only [Hp.upds]; rw [upds_ne ρ j is gs bs _ hs, get_put_same' hh]
    | dead => simp [Blk.isOwn] at hg
    | ro ds => simp [Blk.isOwn] at hg
  | j :: is, g :: gs, b :: bs, H, n + 1, cs, hno, hi, hg, hb, hh => by
    have hs : ∀ m : Nat, m ≠ n → is[m]? = some i → ((gs[m]?).getD .dead).isOwn = false := fun m hm hn => by simpa using hno (m + 1) (by omega) (by simpa using hn)
    have hrec : ∀ H' : Hp, H'.has i → (Hp.upds ρ H' is gs bs).get i = .own (AV.rens ρ cs) := fun H' hh' => upds_eq ρ i is gs bs H' n cs hs (by simpa using hi) (by simpa using hg) (by simpa using hb) hh'
    have hput : ∀ ds, (H.put j ds).has i := fun ds => by
      cases i with
      | g m => show m < (H.put j ds).g.length; rw [put_g_len]; exact hh
      | l m => trivial
    cases g <;> cases b <;> simp only [Hp.upds] <;> first | exact hrec _ hh | exact hrec _ (hput _)
theorem Kept.trans' {m n : Nat → Prop} {a b c : World} (h : Kept m a b) (k : Kept n b c) (hn : ∀ i, i < a.heap.size → n i → m i) : Kept m a c :=
  ⟨k.os.trans h.os, k.tape.trans h.tape, k.output.trans h.output, Nat.le_trans h.size k.size, fun i hi hm => (k.block i (by have := h.size; omega) (fun g => hm (hn i hi g))).trans (h.block i hi hm)⟩
mutual
theorem noL_ren {ρ : Nat → Id} (h : ∀ n, ∃ m, ρ n = .g m) : ∀ {x : AV}, x.noL = true → (x.ren ρ).noL = true
  | .any, _ => rfl
  | .v _, _ => rfl
  | .ptr (.g n) _, _ => by obtain ⟨m, hm⟩ := h n; simp [AV.ren, hm, AV.noL]
  | .ptr (.l _) _, n => by simp [AV.noL] at n
  | .sl (.g n) _ _ _, _ => by obtain ⟨m, hm⟩ := h n; simp [AV.ren, hm, AV.noL]
  | .sl (.l _) _ _ _, n => by simp [AV.noL] at n
  | .e0, _ => rfl
  | .agg cs, n => by simp only [AV.ren, AV.noL]; exact noLs_ren h (by simpa [AV.noL] using n)
  | .tup cs, n => by simp only [AV.ren, AV.noL]; exact noLs_ren h (by simpa [AV.noL] using n)
  | .fn f x y, n => by
    simp [AV.noL] at n
    simp only [AV.ren, AV.noL, Bool.and_eq_true]
    exact ⟨noLs_ren h n.1, noLs_ren h n.2⟩
theorem noLs_ren {ρ : Nat → Id} (h : ∀ n, ∃ m, ρ n = .g m) : ∀ {x : List AV}, AV.noLs x = true → AV.noLs (AV.rens ρ x) = true
  | [], _ => rfl
  | x :: xs, n => by
    simp only [AV.noLs, Bool.and_eq_true] at n
    simp only [AV.rens, AV.noLs, Bool.and_eq_true]
    exact ⟨noL_ren h n.1, noLs_ren h n.2⟩
end
section
variable {P : Program} {base : Nat} {E : En} {σ : St} {o : Oper} {kp : Id → Bool}
/-- A call: its blocks ids are lent under the names that the callee's triple has for them. -/
theorem INV.call {μ : Id → Option Pl} {a : Act} {w : World} {f : FuncId} {ids : List Id} {argsC : List AV} {gC : List Blk} {RC : AV → List Blk → Prop} {vs : List Value} (hi : INV base E μ σ a w) (hft : FT P f argsC gC RC) (hlend : Lend E σ.H (named ids σ.H.g.length) ids gC) (hargs : VRs μ (AV.rens (named ids σ.H.g.length) argsC) vs) (hnl : AV.noLs argsC = true)
    (hapart : ∀ (n m : Nat) (i : Id), n ≠ m → ids[n]? = some i → ids[m]? = some i → ((gC[n]?).getD .dead).isOwn = true → ((gC[m]?).getD .dead).alive = false) (hkeep : ∀ r g', RC r g' → ∀ n, gM gC n → gM g' n)
    (hcl : (∀ n, ∃ m, named ids σ.H.g.length n = .g m) ∨ ∀ r g', RC r g' → ∀ n : Nat, ∀ x ∈ ((g'[n]?).getD Blk.dead).cells, (x.ren (named ids σ.H.g.length)).noL = true)
    (hkp : ∀ j, kp j = true → (σ.H.get j).alive = true ∧ ∀ n : Nat, ids[n]? = some j → ((gC[n]?).getD .dead).isOwn = false) :
    Calls P f vs.toArray w (fun e w' => ∃ c r g' μ'', e = .returned c ∧ RC r g' ∧ VR μ'' (r.ren (named ids σ.H.g.length)) c ∧ INV base E μ'' (back σ ids gC g') a w' ∧ SMk kp μ μ'' w w') := by
  have hlenC := hlend.length
  generalize hL : σ.H.g.length = L at *
  generalize hρ : named ids L = ρ at *
  have hρlt : ∀ (n : Nat) (i : Id), ids[n]? = some i → ρ n = i := fun n i h => by rw [← hρ]; simp [named, h]
  have hρge : ∀ n, ids.length ≤ n → ρ n = .g (L + (n - ids.length)) := fun n h => by rw [← hρ]; simp [named, List.getElem?_eq_none h]
  let μc : Id → Option Pl := fun i => match i with
    | .g n => match ids[n]? with
      | some j => μ j
      | none => none
    | .l _ => none
  have hfreshL : ∀ m, L ≤ m → μ (.g m) = none := fun m hm => hi.fresh m (by rw [hL]; exact hm)
  have F0 : ∀ n a, μc (.g n) = some a → ∃ i, ids[n]? = some i ∧ μ i = some a := fun n a h => by
    simp only [μc] at h
    cases e : ids[n]? with
    | none => rw [e] at h; cases h
    | some i => rw [e] at h; exact ⟨i, rfl, h⟩
  have F1 : ∀ n i, ids[n]? = some i → μc (.g n) = μ i := fun n i h => by simp only [μc, h]
  have F2 : ∀ n a, μ (ρ n) = some a → μc (.g n) = some a := fun n a h => by
    rcases Nat.lt_or_ge n ids.length with hn | hn
    · obtain ⟨i, hi'⟩ : ∃ i, ids[n]? = some i := ⟨_, List.getElem?_eq_getElem hn⟩
      rw [F1 n i hi', ← hρlt n i hi']; exact h
    · rw [hρge n hn, hfreshL _ (by omega)] at h; cases h
  have hvC : VRs μc argsC vs := VRs.unren F2 hnl hargs
  have hcellsC : ∀ n : Nat, ∀ x ∈ ((gC[n]?).getD Blk.dead).cells, x.noL = true := fun n x hx => by
    rcases Nat.lt_or_ge n ids.length with hn | hn
    · obtain ⟨i, hi'⟩ : ∃ i, ids[n]? = some i := ⟨_, List.getElem?_eq_getElem hn⟩
      rcases hlend.get n i hi' with e | ⟨cs, e, _, _, hc⟩ | ⟨cs, e, _, hc, _⟩
      · rw [e] at hx; cases hx
      · rw [e] at hx; exact noLs_iff.1 hc x hx
      · rw [e] at hx; exact noLs_iff.1 hc x hx
    · rw [List.getElem?_eq_none (by omega)] at hx; cases hx
  have hHRC : HR base μc ⟨gC, []⟩ w := by
    refine ⟨fun i hc => ?_, fun i hc b hb => ?_, fun i j hij hc hd b d hb hd' => ?_, fun i x hx => ?_, fun i b hb => ?_⟩
    · cases i with
      | l n => simp [Hp.get, lget, Blk.cells] at hc
      | g n =>
        have hn : n < ids.length := by
          rcases Nat.lt_or_ge n ids.length with hn | hn
          · exact hn
          · simp [Hp.get, List.getElem?_eq_none (show gC.length ≤ n by omega), Blk.cells] at hc
        obtain ⟨i, hi'⟩ : ∃ i, ids[n]? = some i := ⟨_, List.getElem?_eq_getElem hn⟩
        have hcl := hcellsC n
        rcases hlend.get n i hi' with e | ⟨cs, e, ha, hcs, _⟩ | ⟨cs, e, hcs, _, _⟩
        · simp only [Hp.get, e] at hc; exact absurd rfl hc
        · simp only [Hp.get, e] at hc ⊢
          rw [e] at hcl
          obtain ⟨b, hb, hl, hat⟩ := hi.heap.there i (by rw [hcs, rens_map]; intro h0; exact hc (List.map_eq_nil_iff.1 h0))
          refine ⟨b, by rw [F1 n i hi']; exact hb, hl, fun j x hx => ?_⟩
          obtain ⟨y, hy, hv⟩ := hat j (x.ren ρ) (by rw [hcs, rens_map, List.getElem?_map, show cs[j]? = some x from hx]; rfl)
          exact ⟨y, hy, hv.unren F2 (hcl x (List.mem_of_getElem? hx))⟩
        · simp only [Hp.get, e] at hc ⊢
          rw [e] at hcl
          obtain ⟨b, hb, hl, hat⟩ := hi.heap.there i (by rw [hcs]; simp only [Blk.cells, rens_map]; intro h0; exact hc (List.map_eq_nil_iff.1 h0))
          refine ⟨b, by rw [F1 n i hi']; exact hb, hl, fun j x hx => ?_⟩
          obtain ⟨y, hy, hv⟩ := hat j (x.ren ρ) (by rw [hcs]; simp only [Blk.cells, rens_map]; rw [List.getElem?_map, show cs[j]? = some x from hx]; rfl)
          exact ⟨y, hy, hv.unren F2 (hcl x (List.mem_of_getElem? hx))⟩
    · cases i with
      | l n => cases hb
      | g n =>
        obtain ⟨i, hi', hbi⟩ := F0 n b hb
        rcases hlend.get n i hi' with e | ⟨cs, e, ha, hcs, _⟩ | ⟨cs, e, hcs, _, _⟩
        · simp only [Hp.get, e] at hc; cases hc
        · simp only [Hp.get, e] at hc; cases hc
        · obtain ⟨h1, h2, h3⟩ := hi.heap.own i (by rw [hcs]; rfl) b hbi
          refine ⟨h1, h2, ?_⟩
          rw [hcs] at h3
          simp only [Hp.get, e]
          simpa [Blk.cells, rens_length] using h3
    · cases i with
      | l n => cases hb
      | g n =>
        cases j with
        | l m => cases hd'
        | g m =>
          obtain ⟨i, hi', hbi⟩ := F0 n b hb
          obtain ⟨j, hj', hdj⟩ := F0 m d hd'
          have hnm : n ≠ m := fun e => hij (by rw [e])
          have hown : (σ.H.get i).isOwn = true := by
            rcases hlend.get n i hi' with e | ⟨cs, e, ha, hcs, _⟩ | ⟨cs, e, hcs, _, _⟩
            · simp only [Hp.get, e] at hc; cases hc
            · simp only [Hp.get, e] at hc; cases hc
            · rw [hcs]; rfl
          have hal : (σ.H.get j).alive = true := by
            rcases hlend.get m j hj' with e | ⟨cs, e, ha, hcs, _⟩ | ⟨cs, e, hcs, _, _⟩
            · simp only [Hp.get, e] at hd; cases hd
            · exact ha
            · rw [hcs]; rfl
          have hne : i ≠ j := fun e => by
            subst e
            have := hapart n m i hnm hi' hj' hc
            rw [show (gC[m]?).getD .dead = (⟨gC, []⟩ : Hp).get (.g m) from rfl, hd] at this
            cases this
          exact hi.heap.apart i j hne hown hal b d hbi hdj
    · cases i with
      | l n => simp [Hp.get, lget, Blk.cells] at hx
      | g n => exact hcellsC n x hx
    · cases i with
      | l n => cases hb
      | g n =>
        obtain ⟨i, _, hbi⟩ := F0 n b hb
        exact hi.heap.old i b hbi
  have hFC : Fresh μc ⟨gC, []⟩ := fun n hn => by
    simp only [μc]
    rw [List.getElem?_eq_none (by simpa [hlenC] using hn)]
  refine Calls.mono (hft base μc w vs hi.le hHRC hFC (fun _ => rfl) hvC) ?_
  rintro e w' ⟨c, r, g', μ', rfl, hR, hrn, hv, hHR', hF', hsame, hlen', hkept, hnew⟩
  let μ2 : Id → Option Pl := fun i => match i with
    | .g m => if m < L then μ (.g m) else μ' (.g (ids.length + (m - L)))
    | .l d => μ (.l d)
  have G1 : ∀ i b, μ i = some b → μ2 i = some b := fun i b h => by
    cases i with
    | l d => exact h
    | g m =>
      simp only [μ2]
      rcases Nat.lt_or_ge m L with hm | hm
      · rw [if_pos hm]; exact h
      · rw [hfreshL m hm] at h; cases h
  have G2 : ∀ i b, μ2 i = some b → (∀ m, i = .g m → m < L) → μ i = some b := fun i b h hm => by
    cases i with
    | l d => exact h
    | g m =>
      simp only [μ2] at h
      rw [if_pos (hm m rfl)] at h; exact h
  have G3 : ∀ n b, μ' (.g n) = some b → μ2 (ρ n) = some b := fun n b h => by
    rcases Nat.lt_or_ge n ids.length with hn | hn
    · obtain ⟨i, hi'⟩ : ∃ i, ids[n]? = some i := ⟨_, List.getElem?_eq_getElem hn⟩
      rw [hsame n (by omega), F1 n i hi'] at h
      rw [hρlt n i hi']
      exact G1 i b h
    · rw [hρge n hn]
      simp only [μ2]
      rw [if_neg (by omega), show ids.length + (L + (n - ids.length) - L) = n by omega]
      exact h
  have hback : back σ ids gC g' = ⟨σ.T, ⟨(Hp.upds ρ σ.H ids gC g').g ++ (g'.drop ids.length).map (Blk.ren ρ), (Hp.upds ρ σ.H ids gC g').l⟩⟩ := by
    simp only [back, hL, hρ]
  generalize hH1 : Hp.upds ρ σ.H ids gC g' = H1 at hback
  have hlen1 : H1.g.length = L := by rw [← hH1, upds_len, hL]
  have hget : ∀ i, (∀ m, i = .g m → m < L) → (back σ ids gC g').H.get i = H1.get i := fun i h => by
    rw [hback]
    cases i with
    | l d => rfl
    | g m => simp only [Hp.get]; rw [List.getElem?_append_left (by rw [hlen1]; exact h m rfl)]
  have hgetN : ∀ m, L ≤ m → (back σ ids gC g').H.get (.g m) = ((g'[ids.length + (m - L)]?).getD .dead).ren ρ := fun m h => by
    rw [hback]
    simp only [Hp.get]
    rw [List.getElem?_append_right (by rw [hlen1]; exact h), hlen1, List.getElem?_map, List.getElem?_drop]
    cases g'[ids.length + (m - L)]? <;> rfl
  -- three kinds of names
  have hcase : ∀ i, ((∀ m, i = .g m → m < L) ∧ (∀ n : Nat, ids[n]? = some i → ((gC[n]?).getD .dead).isOwn = false) ∧ (back σ ids gC g').H.get i = σ.H.get i)
      ∨ ((∀ m, i = .g m → m < L) ∧ ∃ n cs ds, ids[n]? = some i ∧ (gC[n]?).getD .dead = .own ds ∧ (⟨g', []⟩ : Hp).get (.g n) = .own cs ∧ (back σ ids gC g').H.get i = .own (AV.rens ρ cs) ∧ σ.H.get i = .own (AV.rens ρ ds) ∧ E.lets i)
      ∨ (∃ m, i = .g m ∧ L ≤ m) := fun i => by
    by_cases hm : ∀ m, i = .g m → m < L
    · by_cases ho : ∀ n : Nat, ids[n]? = some i → ((gC[n]?).getD .dead).isOwn = false
      · exact .inl ⟨hm, ho, by rw [hget i hm, ← hH1, upds_ne ρ i ids gC g' σ.H ho]⟩
      · refine .inr (.inl ⟨hm, ?_⟩)
        obtain ⟨n, hn⟩ := Classical.not_forall.1 ho
        obtain ⟨hn1, hn2⟩ := Classical.not_imp.1 hn
        have hown : ((gC[n]?).getD .dead).isOwn = true := by
          cases hx : ((gC[n]?).getD .dead).isOwn with
          | true => rfl
          | false => exact absurd hx hn2
        rcases hlend.get n i hn1 with e | ⟨cs, e, _⟩ | ⟨ds, e, hcs, _, hlets⟩
        · rw [e] at hown; cases hown
        · rw [e] at hown; cases hown
        · have hk := hkeep r g' hR n hown
          unfold gM at hk
          cases hg : (g'[n]?).getD .dead with
          | dead => rw [hg] at hk; cases hk
          | ro _ => rw [hg] at hk; cases hk
          | own cs =>
            have hsome : g'[n]? = some (.own cs) := by
              cases hx : g'[n]? with
              | none => rw [hx] at hg; cases hg
              | some y => rw [hx] at hg; simpa using hg
            refine ⟨n, cs, ds, hn1, e, hg, ?_, hcs, hlets⟩
            rw [hget i hm, ← hH1]
            refine upds_eq ρ i ids gC g' σ.H n cs (fun m hmn hm' => ?_) hn1 hown hsome (has_of (by rw [hcs]; rfl))
            have := hapart n m i (Ne.symm hmn) hn1 hm' hown
            cases hx : ((gC[m]?).getD .dead) <;> simp_all [Blk.alive, Blk.isOwn]
    · obtain ⟨m, hm⟩ := Classical.not_forall.1 hm
      obtain ⟨h1, h2⟩ := Classical.not_imp.1 hm
      exact .inr (.inr ⟨m, h1, by omega⟩)
  -- what the callee has not touched
  have hstay : ∀ i b, μ i = some b → (σ.H.get i).alive = true → (∀ n : Nat, ids[n]? = some i → ((gC[n]?).getD .dead).isOwn = false) → w'.heap[b.block]? = w.heap[b.block]? := fun i b hb hal hno => by
    refine hkept.block _ (hi.heap.old i b hb) ?_
    rintro ⟨n, d, hn, hd, he⟩
    obtain ⟨j, hj, hdj⟩ := F0 n d hd
    rcases hlend.get n j hj with e | ⟨cs, e, _⟩ | ⟨ds, e, hcs, _, _⟩
    · rw [gM, e] at hn; cases hn
    · rw [gM, e] at hn; cases hn
    · have hne : j ≠ i := fun h => by
        subst h
        unfold gM at hn
        rw [hno n hj] at hn
        cases hn
      exact hi.heap.apart j i hne (by rw [hcs]; rfl) hal d b hdj hb he
  have hrenV : ∀ {x : AV} {c : Value}, x.noL = true → VR μ' x c → VR μ2 (x.ren ρ) c := fun hx hc => hc.ren G3 hx
  have hclean : ∀ n : Nat, ∀ x ∈ ((g'[n]?).getD Blk.dead).cells, (x.ren ρ).noL = true := fun n x hx => by
    rcases hcl with h | h
    · exact noL_ren h (hHR'.clean (.g n) x hx)
    · exact h r g' hR n x hx
  have hold : ∀ i, (∀ m, i = .g m → m < L) → ((back σ ids gC g').H.get i).alive = true → (σ.H.get i).alive = true := fun i hm h => by
    rcases hcase i with ⟨_, _, e⟩ | ⟨_, n, cs, ds, _, _, _, _, e, _⟩ | ⟨m, e, hm'⟩
    · rwa [e] at h
    · rw [e]; rfl
    · have := hm m e; omega
  have holdO : ∀ i, (∀ m, i = .g m → m < L) → ((back σ ids gC g').H.get i).isOwn = true → (σ.H.get i).isOwn = true := fun i hm h => by
    rcases hcase i with ⟨_, _, e⟩ | ⟨_, n, cs, ds, _, _, _, _, e, _⟩ | ⟨m, e, hm'⟩
    · rwa [e] at h
    · rw [e]; rfl
    · have := hm m e; omega
  have hsplit : ∀ i : Id, (∀ m, i = Id.g m → m < L) ∨ ∃ m, i = Id.g m ∧ L ≤ m := fun i => by
    cases i with
    | l d => exact .inl (fun m h => by cases h)
    | g m =>
      rcases Nat.lt_or_ge m L with h | h
      · exact .inl (fun m' h' => by cases h'; exact h)
      · exact .inr ⟨m, rfl, h⟩
  have hμN : ∀ m, L ≤ m → μ2 (.g m) = μ' (.g (ids.length + (m - L))) := fun m h => if_neg (by omega)
  have hnewG : ∀ m, L ≤ m → ∀ b, ((back σ ids gC g').H.get (.g m)).alive = true → μ2 (.g m) = some b → w.heap.size ≤ b.block := fun m h b hal hb => by
    rw [hμN m h] at hb
    rw [hgetN m h] at hal
    refine hnew _ (by omega) ?_ b hb
    cases hx : (g'[ids.length + (m - L)]?).getD .dead <;> rw [hx] at hal <;> simp_all [Blk.ren, Blk.alive]
  have hlen2 : (back σ ids gC g').H.g.length = L + (g'.length - ids.length) := by
    rw [hback]; simp [hlen1]
  have hsz := hkept.size
  refine ⟨c, r, g', μ2, rfl, hR, hrenV hrn hv, ⟨?_, hi.size, hi.defers, ⟨fun i hc => ?_, fun i hc b hb => ?_, fun i j hij hc hd b d hb hd' => ?_, fun i x hx => ?_, fun i b hb => ?_⟩, fun n hn => ?_, by have := hi.le; omega, fun n hn => ?_, ?_, fun i hc hne b hb => ?_, ?_⟩, fun j hj p hp => ⟨G1 j p hp, hstay j p hp (hkp j hj).1 (hkp j hj).2⟩⟩
  · rw [hback]
    exact fun t => (hi.tmps t).mono G1
  · rcases hcase i with ⟨hm, hno, e⟩ | ⟨hm, n, cs, ds, hn, hd, hg', e, _, _⟩ | ⟨m, rfl, hm⟩
    · rw [e] at hc ⊢
      obtain ⟨b, hb, hl, hat⟩ := hi.heap.there i hc
      exact ⟨b, G1 i b hb, by omega, hat.mono (fun j => cell_block (hstay i b hb (alive_of hc) hno)) (fun x _ c k => k.mono G1)⟩
    · rw [e] at hc ⊢
      obtain ⟨b, hb, hl, hat⟩ := hHR'.there (.g n) (by rw [hg']; intro h0; apply hc; simp only [Blk.cells] at h0 ⊢; rw [h0]; rfl)
      rw [hg'] at hat
      refine ⟨b, by rw [← hρlt n i hn]; exact G3 n b hb, hl, fun j y hy => ?_⟩
      simp only [Blk.cells, rens_map, List.getElem?_map, Option.map_eq_some_iff] at hy
      obtain ⟨x, hx, rfl⟩ := hy
      obtain ⟨z, hz, hvz⟩ := hat j x hx
      exact ⟨z, hz, hrenV (hHR'.clean (.g n) x (by rw [hg']; exact List.mem_of_getElem? hx)) hvz⟩
    · rw [hgetN m hm] at hc ⊢
      cases hg' : (g'[ids.length + (m - L)]?).getD .dead with
      | dead => rw [hg'] at hc; exact absurd rfl hc
      | ro cs => rw [hg'] at hc; exact absurd rfl hc
      | own cs =>
        rw [hg'] at hc
        have hgg : (⟨g', []⟩ : Hp).get (.g (ids.length + (m - L))) = .own cs := hg'
        obtain ⟨b, hb, hl, hat⟩ := hHR'.there (.g (ids.length + (m - L))) (by rw [hgg]; intro h0; apply hc; simp only [Blk.ren, Blk.cells] at h0 ⊢; rw [h0]; rfl)
        rw [hgg] at hat
        refine ⟨b, by rw [hμN m hm]; exact hb, hl, fun j y hy => ?_⟩
        simp only [Blk.ren, Blk.cells, rens_map, List.getElem?_map, Option.map_eq_some_iff] at hy
        obtain ⟨x, hx, rfl⟩ := hy
        obtain ⟨z, hz, hvz⟩ := hat j x hx
        exact ⟨z, hz, hrenV (hHR'.clean (.g (ids.length + (m - L))) x (by rw [hgg]; exact List.mem_of_getElem? hx)) hvz⟩
  · rcases hcase i with ⟨hm, hno, e⟩ | ⟨hm, n, cs, ds, hn, hd, hg', e, _, _⟩ | ⟨m, rfl, hm⟩
    · rw [e] at hc ⊢
      have hb' := G2 i b hb hm
      obtain ⟨h1, ⟨c0, t0, h2, h3⟩, h4⟩ := hi.heap.own i hc b hb'
      exact ⟨h1, ⟨c0, t0, (hstay i b hb' (alive_own hc) hno).trans h2, h3⟩, h4⟩
    · rw [e]
      have hb' := G2 i b hb hm
      have hnlt : n < gC.length := by
        rcases Nat.lt_or_ge n gC.length with h | h
        · exact h
        · rw [List.getElem?_eq_none h] at hd; cases hd
      obtain ⟨h1, h2, h4⟩ := hHR'.own (.g n) (by rw [hg']; rfl) b (by rw [hsame n hnlt, F1 n i hn]; exact hb')
      refine ⟨h1, h2, ?_⟩
      rw [hg'] at h4
      simpa [Blk.cells, rens_length] using h4
    · rw [hμN m hm] at hb
      rw [hgetN m hm] at hc ⊢
      cases hg' : (g'[ids.length + (m - L)]?).getD .dead with
      | dead => rw [hg'] at hc; cases hc
      | ro cs => rw [hg'] at hc; cases hc
      | own cs =>
        have hgg : (⟨g', []⟩ : Hp).get (.g (ids.length + (m - L))) = .own cs := hg'
        obtain ⟨h1, h2, h4⟩ := hHR'.own (.g (ids.length + (m - L))) (by rw [hgg]; rfl) b hb
        refine ⟨h1, h2, ?_⟩
        rw [hgg] at h4
        simpa [Blk.ren, Blk.cells, rens_length] using h4
  · rcases hsplit i with hmi | ⟨m, rfl, hmi⟩
    · rcases hsplit j with hmj | ⟨m', rfl, hmj⟩
      · exact hi.heap.apart i j hij (holdO i hmi hc) (hold j hmj hd) b d (G2 i b hb hmi) (G2 j d hd' hmj)
      · have h1 := hi.heap.old i b (G2 i b hb hmi)
        have h2 := hnewG m' hmj d hd hd'
        omega
    · rcases hsplit j with hmj | ⟨m', rfl, hmj⟩
      · have h1 := hi.heap.old j d (G2 j d hd' hmj)
        have h2 := hnewG m hmi b (alive_own hc) hb
        omega
      · rw [hμN m hmi] at hb
        rw [hμN m' hmj] at hd'
        rw [hgetN m hmi] at hc
        rw [hgetN m' hmj] at hd
        have hne : m ≠ m' := fun e => hij (by rw [e])
        refine hHR'.apart (.g (ids.length + (m - L))) (.g (ids.length + (m' - L))) (fun e => hne (by injection e with e; omega)) ?_ ?_ b d hb hd'
        · show ((g'[ids.length + (m - L)]?).getD .dead).isOwn = true
          cases hx : (g'[ids.length + (m - L)]?).getD .dead <;> rw [hx] at hc <;> first | rfl | cases hc
        · show ((g'[ids.length + (m' - L)]?).getD .dead).alive = true
          cases hx : (g'[ids.length + (m' - L)]?).getD .dead <;> rw [hx] at hd <;> first | rfl | cases hd
  · rcases hcase i with ⟨hm, hno, e⟩ | ⟨hm, n, cs, ds, hn, hd, hg', e, _, _⟩ | ⟨m, rfl, hm⟩
    · rw [e] at hx; exact hi.heap.clean i x hx
    · rw [e] at hx
      simp only [Blk.cells, rens_map, List.mem_map] at hx
      obtain ⟨y, hy, rfl⟩ := hx
      refine hclean n y ?_
      have hgg : (g'[n]?).getD .dead = .own cs := hg'
      rw [hgg]; exact hy
    · rw [hgetN m hm] at hx
      cases hg' : (g'[ids.length + (m - L)]?).getD .dead with
      | dead => rw [hg'] at hx; cases hx
      | ro cs => rw [hg'] at hx; cases hx
      | own cs =>
        rw [hg'] at hx
        simp only [Blk.ren, Blk.cells, rens_map, List.mem_map] at hx
        obtain ⟨y, hy, rfl⟩ := hx
        exact hclean (ids.length + (m - L)) y (by rw [hg']; exact hy)
  · rcases hsplit i with hmi | ⟨m, rfl, hmi⟩
    · have := hi.heap.old i b (G2 i b hb hmi); omega
    · rw [hμN m hmi] at hb
      exact hHR'.old _ b hb
  · rw [hlen2] at hn
    rw [hμN n (by omega)]
    exact hF' _ (show g'.length ≤ _ by omega)
  · have h1 := hi.len
    show (if n < L then μ (.g n) else _) = _
    rw [if_pos (by omega)]
    exact hi.same n hn
  · refine hi.kept.trans' hkept ?_
    rintro k hk ⟨n, d, hn, hd, rfl⟩
    obtain ⟨i, hi', hdi⟩ := F0 n d hd
    rcases hlend.get n i hi' with e | ⟨cs, e, _⟩ | ⟨ds, e, hcs, _, hlets⟩
    · rw [gM, e] at hn; cases hn
    · rw [gM, e] at hn; cases hn
    · rcases hi.lets (by rw [hcs]; rfl) hlets hdi with h | h
      · omega
      · exact h
  · rcases hsplit i with hmi | ⟨m, rfl, hmi⟩
    · exact hi.new i (hold i hmi hc) hne b (G2 i b hb hmi)
    · have h1 := hnewG m hmi b hc hb
      have h2 := hi.kept.size
      omega
  · have := hi.len
    rw [hlen2]
    omega
theorem evs {μ : Id → Option Pl} {a : Act} {w : World} (hi : INV base E μ σ a w) : ∀ l : List Operand, VRs μ (l.map σ.ev) (l.map a.eval)
  | [] => .nil
  | x :: xs => .cons (hi.ev x) (evs hi xs)
/-- The same as an operation of a region. -/
theorem OX.call {f : FuncId} {fn : Func} {args : List Operand} {tys : Array TypeId} {R : AV → St → Prop} (ids : List Id) (argsC : List AV) (gC : List Blk) {RC : AV → List Blk → Prop} (ho : o.op = .call ⟨.value (.func f), args.toArray, tys⟩) (hf : P.funcs[f]? = some fn) (hname : (fn.name == "runtime.NumGoroutine") = false) {cc : Code} (hbody : fn.body = some cc)
    (hft : FT P f argsC gC RC) (hargs : args.map σ.ev = AV.rens (named ids σ.H.g.length) argsC) (hnl : AV.noLs argsC = true) (hlend : Lend E σ.H (named ids σ.H.g.length) ids gC)
    (hapart : ∀ (n m : Nat) (i : Id), n ≠ m → ids[n]? = some i → ids[m]? = some i → ((gC[n]?).getD .dead).isOwn = true → ((gC[m]?).getD .dead).alive = false) (hkeep : ∀ r g', RC r g' → ∀ n, gM gC n → gM g' n)
    (hcl : (∀ n, ∃ m, named ids σ.H.g.length n = .g m) ∨ ∀ r g', RC r g' → ∀ n : Nat, ∀ x ∈ ((g'[n]?).getD Blk.dead).cells, (x.ren (named ids σ.H.g.length)).noL = true)
    (hkp : ∀ j, kp j = true → (σ.H.get j).alive = true ∧ ∀ n : Nat, ids[n]? = some j → ((gC[n]?).getD .dead).isOwn = false)
    (hR : ∀ r g', RC r g' → R (r.ren (named ids σ.H.g.length)) (back σ ids gC g')) : OX P base E kp o σ R := fun μ a w hi K Q hK => by
  have hvs : VRs μ (AV.rens (named ids σ.H.g.length) argsC) (args.map a.eval) := by
    rw [← hargs]
    exact evs hi args
  have hcall := hi.call (kp := kp) hft hlend hvs hnl hapart hkeep hcl hkp
  have hrun : (execOp a.eval o).run P w = .ok (.enter f (args.map a.eval).toArray) w := by
    have h1 : ¬ fn.name = "runtime.NumGoroutine" := by simpa using hname
    simp [execOp, ho, resolve, invoke, callFunc, Deferred.ofValue, Act.eval, program, hf, hbody, Sem.run, h1]
  simp only [Oper.wp, hrun, Oper.upon]
  refine Calls.mono hcall ?_
  rintro e w' ⟨c, r, g', μ2, rfl, hRC, hv, hi', hs⟩
  exact hK _ _ _ _ _ (hR r g' hRC) hv hi' hs
end
end Go.AH
