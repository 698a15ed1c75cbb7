/- The author's own words; nothing here is trusted. -/
import Derived.Test.YtponfomfcmlfmaaB9
import Derived.Laws.StructEq
import Derived.Laws.OwnMore
/- The picture by value, 10: a call within a call. -/
set_option linter.unusedVariables false
set_option linter.unusedSimpArgs false
namespace Go.BH
open Go.RowKit
mutual
theorem VR.ren {f : Nm → Nm} {μ ν : Mu} (h : ∀ i a, μ.pl i = some a → ν.pl (f i) = some a) (hr : ∀ b cs, μ.fz b = some cs → ν.fz b = some cs) : ∀ {x : AV} {c : Value}, x.nl = true → VR μ x c → VR ν (x.ren f) c
  | _, _, _, .any c => .any c
  | _, _, _, .v x => .v x
  | _, _, _, .ptr k => .ptr (h _ _ k)
  | _, _, _, .sl k hc he => .sl (h _ _ k) hc he
  | _, _, _, .sl0 A => .sl0 A
  | _, _, _, .e0 A => .e0 A
  | _, _, _, .ifs t x => .ifs t x
  | .fz l s n xs, _, hn, .fz k hl hc m => by
    simp only [AV.nl, Bool.and_eq_true, Bool.not_eq_true'] at hn
    obtain ⟨rfl, hn⟩ := hn
    exact .fz (l := false) (hr _ _ k) (by rw [rens_length]; exact hl) hc (VRs.ren h hr hn m)
  | _, _, _, .fz0 A c => .fz0 A c
  | .pfz l xs, _, hn, .pfz k m => by
    simp only [AV.nl, Bool.and_eq_true, Bool.not_eq_true'] at hn
    obtain ⟨rfl, hn⟩ := hn
    refine .pfz (l := false) (hr _ _ k) ?_
    rw [rens_length]
    exact VRs.ren h hr hn m
  | _, _, hn, .agg k => .agg (VRs.ren h hr (by simpa [AV.nl] using hn) k)
  | _, _, hn, .tup k => .tup (VRs.ren h hr (by simpa [AV.nl] using hn) k)
  | _, _, hn, .fn m => .fn (VRs.ren h hr (by simpa [AV.nl] using hn) m)
theorem VRs.ren {f : Nm → Nm} {μ ν : Mu} (h : ∀ i a, μ.pl i = some a → ν.pl (f i) = some a) (hr : ∀ b cs, μ.fz b = some cs → ν.fz b = some cs) : ∀ {x : List AV} {c : List Value}, AV.nls x = true → VRs μ x c → VRs ν (AV.rens f x) c
  | _, _, _, .nil => .nil
  | _, _, hn, .cons k m => by
    simp only [AV.nls, Bool.and_eq_true] at hn
    exact .cons (VR.ren h hr hn.1 k) (VRs.ren h hr hn.2 m)
end
mutual
/-- What the caller holds, as the callee is told of it: by name what it may write, else by value (lent for the call alone, if b). -/
inductive Lnd (H : Hp) (ids : Nm → Option Nm) (ok : Nm → Bool) (b : Bool) : AV → AV → Prop where
  | any (x : AV) : Lnd H ids ok b x .any
  | v (x : Value) : Lnd H ids ok b (.v x) (.v x)
  | e0 : Lnd H ids ok b .e0 .e0
  | ptr {i n : Nm} {o : Nat} (h : ids n = some i) : Lnd H ids ok b (.ptr i o) (.ptr n o)
  | slN {i n : Nm} {o m s : Nat} (h : ids n = some i) : Lnd H ids ok b (.sl i o m s) (.sl n o m s)
  | fz {l l' : Bool} {s n : Nat} {xs ys : List AV} (h : l' = l ∨ (b = true ∧ l' = true)) (k : Lnds H ids ok b xs ys) : Lnd H ids ok b (.fz l s n xs) (.fz l' s n ys)
  | pfz {l l' : Bool} {xs ys : List AV} (h : l' = l ∨ (b = true ∧ l' = true)) (k : Lnds H ids ok b xs ys) : Lnd H ids ok b (.pfz l xs) (.pfz l' ys)
  | sl {i : Nm} {o n s : Nat} {cs ys : List AV} (hb : b = true) (hi : ok i = true) (hg : hget H i = some cs) (he : o + n * s ≤ cs.length) (k : Lnds H ids ok b ((cs.drop o).take (n * s)) ys) : Lnd H ids ok b (.sl i o n s) (.fz true s n ys)
  | ptrF {i : Nm} {o : Nat} {cs ys : List AV} (hb : b = true) (hi : ok i = true) (hg : hget H i = some cs) (k : Lnds H ids ok b (cs.drop o) ys) : Lnd H ids ok b (.ptr i o) (.pfz true ys)
  | nilF {l : Bool} {s : Nat} : Lnd H ids ok b (.v (.slice none 0 0)) (.fz l s 0 [])
  | e0F {l : Bool} {s : Nat} : Lnd H ids ok b .e0 (.fz l s 0 [])
  | agg {xs ys : List AV} (k : Lnds H ids ok b xs ys) : Lnd H ids ok b (.agg xs) (.agg ys)
  | tup {xs ys : List AV} (k : Lnds H ids ok b xs ys) : Lnd H ids ok b (.tup xs) (.tup ys)
  | fn {f : Fn} {xs ys : List AV} (k : Lnds H ids ok b xs ys) : Lnd H ids ok b (.fn f xs) (.fn f ys)
inductive Lnds (H : Hp) (ids : Nm → Option Nm) (ok : Nm → Bool) (b : Bool) : List AV → List AV → Prop where
  | nil : Lnds H ids ok b [] []
  | cons {x y : AV} {xs ys : List AV} (h : Lnd H ids ok b x y) (k : Lnds H ids ok b xs ys) : Lnds H ids ok b (x :: xs) (y :: ys)
end
theorem Lnds.length {H : Hp} {ids : Nm → Option Nm} {ok : Nm → Bool} {b : Bool} : ∀ {x y : List AV}, Lnds H ids ok b x y → y.length = x.length
  | _, _, .nil => rfl
  | _, _, .cons _ k => by simp [Lnds.length k]
theorem Lnds.get {H : Hp} {ids : Nm → Option Nm} {ok : Nm → Bool} {b : Bool} : ∀ {x y : List AV}, Lnds H ids ok b x y → ∀ (j : Nat) (v : AV), y[j]? = some v → ∃ u, x[j]? = some u ∧ Lnd H ids ok b u v
  | _, _, .nil, j, v, h => by simp at h
  | _, _, .cons h k, 0, v, hj => by simp at hj; subst hj; exact ⟨_, rfl, h⟩
  | _, _, .cons h k, j + 1, v, hj => by
    obtain ⟨u, h1, h2⟩ := Lnds.get k j v (by simpa using hj)
    exact ⟨u, by simpa using h1, h2⟩
/-- What two pictures have to do with each other, if what the one holds is told to the other. -/
structure Tells (μ ν : Mu) (H : Hp) (ids : Nm → Option Nm) (ok : Nm → Bool) : Prop where
  nm : ∀ n i, ids n = some i → ∀ a, μ.pl i = some a → ν.pl n = some a
  fz : ∀ b cs, μ.fz b = some cs → ν.fz b = some cs
  ln : ∀ l b cs, μ.rd l b = some cs → ν.ln b = some cs
  own : ∀ i cs a, ok i = true → hget H i = some cs → μ.pl i = some a → ∃ l, ν.ln a.block = some l ∧ VRs μ cs ((l.drop a.base).take cs.length)
mutual
theorem VR.told {μ ν : Mu} {H : Hp} {ids : Nm → Option Nm} {ok : Nm → Bool} (T : Tells μ ν H ids ok) {b : Bool} : ∀ {x y : AV} {c : Value}, Lnd H ids ok b x y → VR μ x c → VR ν y c
  | _, _, _, .any _, _ => .any _
  | _, _, _, .v _, h => by cases h; exact .v _
  | _, _, _, .e0, h => by cases h; exact .e0 _
  | _, _, _, .ptr h, k => by
    cases k with
    | ptr k => exact .ptr (T.nm _ _ h _ k)
  | _, _, _, .slN h, k => by
    cases k with
    | sl k hc he => exact .sl (T.nm _ _ h _ k) hc he
    | sl0 A => exact .sl0 A
  | _, _, _, .fz h k, m => by
    have hl := k.length
    cases m with
    | @fz _ _ _ _ _ bb _ _ m1 m2 m3 m4 =>
      refine .fz (b := bb) ?_ (by omega) m3 (VRs.told T k m4)
      rcases h with rfl | ⟨_, rfl⟩
      · rename_i l _ _ _ _ _ _ _
        cases l with
        | false => exact T.fz _ _ m1
        | true => exact T.ln true _ _ m1
      · exact T.ln _ _ _ m1
    | fz0 A c =>
      cases k
      exact .fz0 A c
  | _, _, _, .pfz h k, m => by
    have hl := k.length
    cases m with
    | @pfz _ _ bb _ _ m1 m4 =>
      refine .pfz (b := bb) ?_ (by rw [hl]; exact VRs.told T k m4)
      rcases h with rfl | ⟨_, rfl⟩
      · rename_i l _ _ _ _
        cases l with
        | false => exact T.fz _ _ m1
        | true => exact T.ln true _ _ m1
      · exact T.ln _ _ _ m1
  | _, _, _, @Lnd.sl _ _ _ _ i o n s cs ys hb' hi hg he k, m => by
    have hl := k.length
    cases m with
    | @sl _ _ _ _ _ a m1 m2 m3 =>
      obtain ⟨l, h1, h2⟩ := T.own _ _ _ hi hg m1
      have h3 := h2.seg o (n * s)
      rw [take_drop_take _ _ _ _ he, List.drop_drop] at h3
      exact .fz (l := true) h1 (by rw [hl]; simp; omega) m2 (VRs.told T k h3)
    | sl0 A =>
      simp only [Nat.zero_mul, List.take_zero] at k
      cases k
      exact .fz0 A 0
  | _, _, _, @Lnd.ptrF _ _ _ _ i o cs ys hb' hi hg k, m => by
    have hl := k.length
    cases m with
    | @ptr _ _ a m1 =>
      obtain ⟨l, h1, h2⟩ := T.own _ _ _ hi hg m1
      have h3 := h2.drop o
      rw [List.drop_take, List.drop_drop] at h3
      refine .pfz (l := true) h1 ?_
      rw [hl, List.length_drop]
      exact VRs.told T k h3
  | _, _, _, .nilF, m => by cases m; exact .fz0 _ _
  | _, _, _, .e0F, m => by cases m; exact .fz0 _ _
  | _, _, _, .agg k, m => by
    cases m with
    | agg m => exact .agg (VRs.told T k m)
  | _, _, _, .tup k, m => by
    cases m with
    | tup m => exact .tup (VRs.told T k m)
  | _, _, _, .fn k, m => by
    cases m with
    | fn m => exact .fn (VRs.told T k m)
theorem VRs.told {μ ν : Mu} {H : Hp} {ids : Nm → Option Nm} {ok : Nm → Bool} (T : Tells μ ν H ids ok) {b : Bool} : ∀ {x y : List AV} {c : List Value}, Lnds H ids ok b x y → VRs μ x c → VRs ν y c
  | _, _, _, .nil, h => by cases h; exact .nil
  | _, _, _, .cons h k, m => by
    cases m with
    | cons m1 m2 => exact .cons (VR.told T h m1) (VRs.told T k m2)
end
/-- The blocks, by other names. -/
def renH (g : Nm → Nm) : Hp → Hp
  | [] => []
  | (n, cs) :: r => (g n, AV.rens g cs) :: renH g r
/-- The blocks whose names p does not hold. -/
def hrem (p : Nm → Bool) : Hp → Hp
  | [] => []
  | (k, cs) :: r => if p k = true then hrem p r else (k, cs) :: hrem p r
theorem hget_hrem (p : Nm → Bool) : ∀ (H : Hp) (j : Nm), hget (hrem p H) j = if p j = true then none else hget H j
  | [], j => by simp [hrem, hget]
  | (k, cs) :: r, j => by
    simp only [hrem]
    by_cases e : k = j
    · subst e
      by_cases hp : p k = true
      · rw [if_pos hp, hget_hrem p r k, if_pos hp, if_pos hp]
      · rw [if_neg hp, if_neg hp]
        simp [hget]
    · by_cases hp : p k = true
      · rw [if_pos hp, hget_hrem p r j]
        simp only [hget, beq_ne e, Bool.false_eq_true, if_false]
      · rw [if_neg hp]
        simp only [hget, beq_ne e, Bool.false_eq_true, if_false]
        exact hget_hrem p r j
theorem hget_hrem_of {p : Nm → Bool} {H : Hp} {j : Nm} {cs : List AV} (h : hget (hrem p H) j = some cs) : p j = false ∧ hget H j = some cs := by
  rw [hget_hrem] at h
  split at h
  · cases h
  · rename_i hp
    exact ⟨by simpa using hp, h⟩
theorem hget_append : ∀ {H K : Hp} {j : Nm} {cs : List AV}, hget (H ++ K) j = some cs → hget H j = some cs ∨ hget K j = some cs
  | [], K, j, cs, h => .inr h
  | (k, es) :: r, K, j, cs, h => by
    simp only [List.cons_append, hget] at h ⊢
    split at h
    · rename_i e; rw [if_pos e]; exact .inl h
    · rename_i e; rw [if_neg e]; exact hget_append h
theorem hget_renH {g : Nm → Nm} : ∀ {H : Hp} {j : Nm} {cs : List AV}, hget (renH g H) j = some cs → ∃ n ds, g n = j ∧ hget H n = some ds ∧ cs = AV.rens g ds
  | [], j, cs, h => by cases h
  | (k, es) :: r, j, cs, h => by
    simp only [renH, hget] at h
    split at h
    · rename_i e
      refine ⟨k, es, nbeq_eq e, by simp [hget], (Option.some.inj h).symm⟩
    · rename_i e
      obtain ⟨n, ds, h1, h2, h3⟩ := hget_renH h
      refine ⟨n, ds, h1, ?_, h3⟩
      have : k ≠ n := fun g => e (by rw [g, h1]; simp)
      simp [hget, beq_ne this, h2]
/-- The blocks that are handed over, as the callee has them. -/
def Hand (H : Hp) (ids : Nm → Option Nm) (ok : Nm → Bool) (HC : Hp) : Prop := ∀ n ds, hget HC n = some ds → ∃ i cs, ids n = some i ∧ hget H i = some cs ∧ Lnds H ids ok false cs ds
def evs (σ : St) (l : List Operand) : List AV := l.map σ.ev
section
variable {P : Program} {E : En} {σ : St} {o : Oper} {kp : Nat → Bool}
theorem INV.evs {μ : Mu} {a : Act} {w : World} (hi : INV E μ σ a w) : ∀ l : List Operand, VRs μ (evs σ l) (l.map a.eval)
  | [] => .nil
  | x :: xs => .cons (hi.ev x) (INV.evs hi xs)
/-- A call. -/
theorem INV.call {μ : Mu} {a : Act} {w : World} {f : FuncId} {ids : Nm → Option Nm} {cl : Nat} {g : Nm → Nm} {dl ok : Nm → Bool} {args argsC : List AV} {HC : Hp} {RC : AV → Hp → Nat → Prop} {vs : List Value} (hi : INV E μ σ a w) (hft : FT P f argsC HC cl RC) (hargs : Lnds σ.H ids ok true args argsC) (hvs : VRs μ args vs) (hhand : Hand σ.H ids ok HC) (hlow : ∀ n ds, hget HC n = some ds → n.1 < cl)
    (hids : ∀ (n i : Nm), ids n = some i → (hget σ.H i).isSome = true) (hidl : ∀ (n i : Nm), ids n = some i → n.1 < cl) (hdl : ∀ (n i : Nm), ids n = some i → dl i = true) (hnd : ∀ (n m i : Nm), ids n = some i → ids m = some i → n = m) (hok : ∀ (i n : Nm), ok i = true → ids n = some i → False)
    (hg1 : ∀ n i, ids n = some i → g n = i) (hg2 : ∀ n : Nm, cl ≤ n.1 → g n = (σ.nx + (n.1 - cl), n.2))
    (hkp : ∀ j : Nat, kp j = true → (hget σ.H j).isSome = true ∧ ∀ n, ids n ≠ some (j, 0)) :
    Calls P f vs.toArray w (fun e w' => ∃ c r H' nx' μ'', e = .returned c ∧ RC r H' nx' ∧ (∀ n ds, hget H' n = some ds → n.1 < cl → (ids n).isSome = true) ∧ VR μ'' (r.ren (g)) c ∧ INV E μ'' ⟨σ.T, hrem dl σ.H ++ renH g H', σ.nx + (nx' - cl)⟩ a w' ∧ SMk kp μ μ'' w w' ∧ ∀ i : Nm, i.1 < σ.nx → μ''.pl i = μ.pl i) := by
  have halive : ∀ (n i : Nm), ids n = some i → ∃ cs, hget σ.H i = some cs := fun n i h => Option.isSome_iff_exists.1 (hids n i h)
  let inout : Nat → Prop := fun b => ∃ (n i : Nm) (p : Pl), ids n = some i ∧ μ.pl i = some p ∧ p.block = b
  let lnC : Nat → Option (List Value) := fun b => open Classical in if inout b then none else match w.heap[b]? with
    | some (.cells c _ _) => some c.toList
    | _ => none
  let μc : Mu := ⟨fun n => (ids n).bind μ.pl, μ.fz, lnC⟩
  have lnOut : ∀ b, inout b → lnC b = none := fun b h => if_pos h
  have lnIn : ∀ b (c : Array Value) (t : TypeId) (r : Nat × Nat), ¬ inout b → w.heap[b]? = some (.cells c t r) → lnC b = some c.toList := fun b c t r h hc => by
    simp only [lnC]
    rw [if_neg h, hc]
  have lnSome : ∀ b cs, lnC b = some cs → ¬ inout b ∧ ∃ (c : Array Value) (t : TypeId) (r : Nat × Nat), w.heap[b]? = some (.cells c t r) ∧ c.toList = cs := fun b cs h => by
    by_cases hb : inout b
    · rw [lnOut b hb] at h; cases h
    · refine ⟨hb, ?_⟩
      simp only [lnC] at h
      rw [if_neg hb] at h
      split at h
      · rename_i c t r e; exact ⟨c, t, r, e, Option.some.inj h⟩
      · cases h
  have rdNot : ∀ l b cs, μ.rd l b = some cs → ¬ inout b := fun l b cs h ⟨n, i, p, h1, h2, h3⟩ => by
    obtain ⟨ds, hds⟩ := halive n i h1
    subst h3
    rw [hi.heap.far i ds p hds h2 l] at h
    cases h
  have hplC : ∀ (n : Nm) (a : Pl), μc.pl n = some a → ∃ i : Nm, ids n = some i ∧ μ.pl i = some a := fun n a h => by
    have h' : (ids n).bind μ.pl = some a := h
    cases e : ids n with
    | none => rw [e] at h'; cases h'
    | some i => rw [e] at h'; exact ⟨i, rfl, h'⟩
  have hplC' : ∀ (n i : Nm), ids n = some i → μc.pl n = μ.pl i := fun n i h => by
    show (ids n).bind μ.pl = _
    rw [h]; rfl
  have hT : Tells μ μc σ.H ids ok := by
    refine ⟨fun n i h a ha => by rw [hplC' n i h]; exact ha, fun b cs h => h, fun l b cs h => ?_, fun i cs a hi' hg ha => ?_⟩
    · obtain ⟨c, t, r, h1, h2⟩ := hi.heap.rd l b cs h
      exact (lnIn b c t r (rdNot l b cs h) h1).trans (congrArg some h2)
    · obtain ⟨c, t, g1, g2, g3, g4⟩ := hi.heap.own i cs hg a ha
      refine ⟨c.toList, lnIn _ c t _ (fun ⟨n, j, q, h1, h2, h3⟩ => ?_) g1, rel_cells g4 (by omega)⟩
      obtain ⟨ds, hds⟩ := halive n j h1
      exact hi.heap.apart j i ds cs (fun e => hok i n hi' (by rw [← e]; exact h1)) hds hg q a h2 ha h3
  have hHRC : HR μc HC w := by
    refine ⟨fun n ds hn a ha => ?_, fun n ds hn hne => ?_, fun n m ds es hnm hn hm a b ha hb => ?_, fun l b cs hl => ?_, fun n ds a hn ha l => ?_⟩
    · obtain ⟨i, cs, h1, h2, h3⟩ := hhand n ds hn
      rw [hplC' n i h1] at ha
      obtain ⟨c, t, g1, g2, g3, g4⟩ := hi.heap.own i cs h2 a ha
      refine ⟨c, t, g1, g2, by rw [h3.length]; exact g3, fun j x hj => ?_⟩
      obtain ⟨u, hu, hlu⟩ := h3.get j x hj
      obtain ⟨y, hy, hv⟩ := g4 j u hu
      exact ⟨y, hy, VR.told hT hlu hv⟩
    · obtain ⟨i, cs, h1, h2, h3⟩ := hhand n ds hn
      rw [hplC' n i h1]
      refine hi.heap.there i cs h2 (fun e => hne ?_)
      subst e
      exact List.eq_nil_of_length_eq_zero (by rw [h3.length]; rfl)
    · obtain ⟨i, cs, h1, h2, h3⟩ := hhand n ds hn
      obtain ⟨j, cs', h4, h5, h6⟩ := hhand m es hm
      rw [hplC' n i h1] at ha
      rw [hplC' m j h4] at hb
      exact hi.heap.apart i j cs cs' (fun e => hnm (hnd n m i h1 (by rw [e]; exact h4))) h2 h5 a b ha hb
    · cases l with
      | false => exact hi.heap.rd false b cs hl
      | true => exact (lnSome b cs hl).2
    · obtain ⟨i, cs, h1, h2, h3⟩ := hhand n ds hn
      rw [hplC' n i h1] at ha
      cases l with
      | false => exact hi.heap.far i cs a h2 ha false
      | true => exact lnOut _ ⟨n, i, a, h1, ha, rfl⟩
  have hidn : ∀ n : Nm, cl ≤ n.1 → ids n = none := fun n hn => by
    cases e : ids n with
    | none => rfl
    | some i => have := hidl n i e; omega
  have hfrC : ∀ n : Nm, cl ≤ n.1 → μc.pl n = none := fun n hn => by
    show (ids n).bind μ.pl = none
    rw [hidn n hn]; rfl
  refine Calls.mono (hft μc w vs hHRC hfrC hlow (VRs.told hT hargs hvs) (E.gk.mono (fun b cs h => hT.ln true b cs (by rw [show μ.rd true = μ.ln from rfl, hi.lno.1]; exact h)))) ?_
  rintro e w' ⟨c, r, H', nx', μ', rfl, hR, hrn, hHn, hv, hHR', hfr', hlow', hkept, hmay', hfzn, hfzo, hsame, hle, hold'⟩
  have hback : ∀ n ds, hget H' n = some ds → n.1 < cl → (ids n).isSome = true := fun n ds h1 h2 => by
    obtain ⟨es, hes⟩ := Option.isSome_iff_exists.1 (hold' n ds h1 h2)
    obtain ⟨i, cs, h3, _⟩ := hhand n es hes
    rw [h3]; rfl
  have hmayC : ∀ b, mayH μc HC b → inout b := fun b ⟨n, ds, p, h1, h2, h3⟩ => by
    obtain ⟨i, hi', hp⟩ := hplC n p h2
    exact ⟨n, i, p, hi', hp, h3⟩
  have hinE : ∀ b, inout b → E.w.heap.size ≤ b ∨ E.may b := fun b ⟨n, i, p, h1, h2, h3⟩ => by
    obtain ⟨ds, hds⟩ := halive n i h1
    subst h3
    exact hi.may i ds p hds h2
  let nx2 := σ.nx + (nx' - cl)
  let μ2 : Mu := ⟨fun i => if i.1 < σ.nx then μ.pl i else μ'.pl (cl + (i.1 - σ.nx), i.2), μ'.fz, μ.ln⟩
  have hltnx : ∀ i a, μ.pl i = some a → i.1 < σ.nx := fun i a h => by
    rcases Nat.lt_or_ge i.1 σ.nx with g | g
    · exact g
    · rw [hi.fresh i g] at h; cases h
  have hsub : Sub μ μ2 := by
    refine ⟨fun i a h => ?_, fun l b cs h => ?_⟩
    · show (if i.1 < σ.nx then _ else _) = _
      rw [if_pos (hltnx i a h)]; exact h
    · cases l with
      | false => exact hfzo b cs h
      | true => exact h
  have hnew : ∀ n : Nm, cl ≤ n.1 → μ2.pl (g n) = μ'.pl n := fun n hn => by
    rw [hg2 n hn]
    show (if σ.nx + (n.1 - cl) < σ.nx then _ else _) = _
    rw [if_neg (by omega), show ((cl + (σ.nx + (n.1 - cl) - σ.nx), n.2) : Nm) = n from Prod.ext (by simp only; omega) rfl]
  have hpl2 : ∀ n a, μ'.pl n = some a → μ2.pl (g n) = some a := fun n a h => by
    rcases Nat.lt_or_ge n.1 cl with hn | hn
    · rw [hsame n hn] at h
      obtain ⟨i, e, h⟩ := hplC n a h
      rw [hg1 n i e]
      exact hsub.pl _ _ h
    · rw [hnew n hn]; exact h
  have hpl2' : ∀ n ds, hget H' n = some ds → μ2.pl (g n) = μ'.pl n := fun n ds hn' => by
    rcases Nat.lt_or_ge n.1 cl with hn | hn
    · obtain ⟨i, e⟩ := Option.isSome_iff_exists.1 (hback n ds hn' hn)
      have h1 : g n = i := hg1 n i e
      obtain ⟨cs, hcs⟩ := halive n _ e
      rw [hsame n hn, hplC' n _ e, h1]
      show (if i.1 < σ.nx then _ else _) = _
      rw [if_pos (hi.low _ cs hcs).1]
    · exact hnew n hn
  have hkeep : ∀ b, b < w.heap.size → ¬ inout b → w'.heap[b]? = w.heap[b]? := fun b hb hn => hkept.block b hb (fun g => hn (hmayC b g))
  have hold : ∀ i cs a, hget (hrem dl σ.H) i = some cs → μ.pl i = some a → hget σ.H i = some cs ∧ a.block < w.heap.size ∧ ¬ inout a.block := fun i cs a hg ha => by
    obtain ⟨h1, h2⟩ := hget_hrem_of hg
    obtain ⟨c, t, g1, _⟩ := hi.heap.own i cs h2 a ha
    refine ⟨h2, lt_of_heap g1, fun ⟨n, j, q, k1, k2, k3⟩ => ?_⟩
    obtain ⟨ds, hds⟩ := halive n j k1
    exact hi.heap.apart j i ds cs (fun e => by rw [← e, hdl n j k1] at h1; cases h1) hds h2 q a k2 ha k3
  have hold2 : ∀ i cs a, hget (hrem dl σ.H) i = some cs → μ2.pl i = some a → μ.pl i = some a := fun i cs a hg ha => by
    have := (hi.low i cs (hget_hrem_of hg).2).1
    have h' : (if i.1 < σ.nx then μ.pl i else _) = some a := ha
    rwa [if_pos this] at h'
  have hnew2 : ∀ i cs a, hget (renH g H') i = some cs → μ2.pl i = some a → ∃ n ds, g n = i ∧ hget H' n = some ds ∧ cs = AV.rens (g) ds ∧ μ'.pl n = some a := fun i cs a hg ha => by
    obtain ⟨n, ds, h1, h2, h3⟩ := hget_renH hg
    refine ⟨n, ds, h1, h2, h3, ?_⟩
    rw [← hpl2' n ds h2, h1]; exact ha
  have hnewb : ∀ n ds a, hget H' n = some ds → μ'.pl n = some a → w.heap.size ≤ a.block ∨ inout a.block := fun n ds a h1 h2 => (hmay' n ds a h1 h2).imp id (hmayC _)
  have hHR2 : HR μ2 (hrem dl σ.H ++ renH g H') w' := by
    refine ⟨fun i cs hg a ha => ?_, fun i cs hg hne => ?_, fun i j cs ds hij hg hg' a b ha hb => ?_, fun l b cs hl => ?_, fun i cs a hg ha l => ?_⟩
    · rcases hget_append hg with hg | hg
      · have ha' := hold2 i cs a hg ha
        obtain ⟨h1, h2, h3⟩ := hold i cs a hg ha'
        obtain ⟨c, t, g1, g2, g3, g4⟩ := hi.heap.own i cs h1 a ha'
        exact ⟨c, t, (hkeep _ h2 h3).trans g1, g2, g3, fun j x hj => by
          obtain ⟨y, hy, hv⟩ := g4 j x hj
          exact ⟨y, hy, hv.mono hsub⟩⟩
      · obtain ⟨n, ds, h1, h2, rfl, h4⟩ := hnew2 i cs a hg ha
        obtain ⟨c, t, g1, g2, g3, g4⟩ := hHR'.own n ds h2 a h4
        refine ⟨c, t, g1, g2, by rw [rens_length]; exact g3, fun j x hj => ?_⟩
        rw [rens_map, List.getElem?_map] at hj
        obtain ⟨u, hu, rfl⟩ := Option.map_eq_some_iff.1 hj
        obtain ⟨y, hy, hv⟩ := g4 j u hu
        exact ⟨y, hy, VR.ren hpl2 (fun b cs h => h) (nls_iff.1 (hHn n ds h2) u (List.mem_of_getElem? hu)) hv⟩
    · rcases hget_append hg with hg | hg
      · obtain ⟨a, ha⟩ := hi.heap.there i cs (hget_hrem_of hg).2 hne
        exact ⟨a, hsub.pl _ _ ha⟩
      · obtain ⟨n, ds, h1, h2, rfl⟩ := hget_renH hg
        obtain ⟨a, ha⟩ := hHR'.there n ds h2 (fun e => hne (by rw [e]; rfl))
        exact ⟨a, by rw [← h1]; exact hpl2 n a ha⟩
    · rcases hget_append hg with hg | hg
      · have ha' := hold2 i cs a hg ha
        obtain ⟨h1, h2, h3⟩ := hold i cs a hg ha'
        rcases hget_append hg' with hg' | hg'
        · have hb' := hold2 j ds b hg' hb
          exact hi.heap.apart i j cs ds hij h1 (hold j ds b hg' hb').1 a b ha' hb'
        · obtain ⟨n, es, k1, k2, rfl, k4⟩ := hnew2 j ds b hg' hb
          rcases hnewb n es b k2 k4 with g | g
          · omega
          · exact fun e => h3 (by rw [e]; exact g)
      · obtain ⟨n, es, k1, k2, rfl, k4⟩ := hnew2 i cs a hg ha
        rcases hget_append hg' with hg' | hg'
        · have hb' := hold2 j ds b hg' hb
          obtain ⟨h1, h2, h3⟩ := hold j ds b hg' hb'
          rcases hnewb n es a k2 k4 with g | g
          · omega
          · exact fun e => h3 (by rw [← e]; exact g)
        · obtain ⟨m, fs, l1, l2, rfl, l4⟩ := hnew2 j ds b hg' hb
          exact hHR'.apart n m es fs (fun e => hij (by rw [← k1, ← l1, e])) k2 l2 a b k4 l4
    · cases l with
      | false => exact hHR'.rd false b cs hl
      | true =>
        obtain ⟨c, t, r, g1, g2⟩ := hi.heap.rd true b cs hl
        exact ⟨c, t, r, (hkeep b (lt_of_heap g1) (rdNot true b cs hl)).trans g1, g2⟩
    · rcases hget_append hg with hg | hg
      · have ha' := hold2 i cs a hg ha
        obtain ⟨h1, h2, h3⟩ := hold i cs a hg ha'
        cases l with
        | true => exact hi.heap.far i cs a h1 ha' true
        | false =>
          cases e : μ2.rd false a.block with
          | none => rfl
          | some ds =>
            rcases hfzn a.block ds e with k | k | k
            · have := hi.heap.far i cs a h1 ha' false
              rw [show μ.rd false a.block = μ.fz a.block from rfl, show μ.fz a.block = some ds from k] at this
              cases this
            · omega
            · exact absurd (hmayC _ k) h3
      · obtain ⟨n, es, k1, k2, rfl, k4⟩ := hnew2 i cs a hg ha
        cases l with
        | false => exact hHR'.far n es a k2 k4 false
        | true =>
          cases e : μ2.rd true a.block with
          | none => rfl
          | some ds =>
            exfalso
            have e' : μ.rd true a.block = some ds := e
            rcases hnewb n es a k2 k4 with g | g
            · obtain ⟨c, t, r, g1, g2⟩ := hi.heap.rd true _ ds e'
              have := lt_of_heap g1
              omega
            · exact rdNot true _ ds e' g
  refine ⟨c, r, H', nx', μ2, rfl, hR, hback, VR.ren hpl2 (fun b cs h => h) hrn hv, ⟨fun t => (hi.tmps t).mono hsub, hi.size, hi.defers, hHR2, fun i hi' => ?_, fun i cs hg => ?_, ?_, fun i cs p hg hp => ?_, fun b cs h => ?_, fun b cs h => hfzo b cs (hi.fzo b cs h), hi.lno.1, fun i hi' => ?_, ?_⟩, ⟨hsub, fun i hk p hp => ?_, fun l b cs hl => ?_⟩, fun i hi' => if_pos hi'⟩
  · simp only at hi'
    show (if i.1 < σ.nx then _ else _) = none
    rw [if_neg (by omega)]
    exact hfr' _ (by simp only; omega)
  · rcases hget_append hg with hg | hg
    · obtain ⟨h3, h4⟩ := hi.low i cs (hget_hrem_of hg).2
      exact ⟨by simp only; omega, h4⟩
    · obtain ⟨n, ds, h1, h2, rfl⟩ := hget_renH hg
      have h3 := hlow' n ds h2
      simp only
      rw [← h1]
      rcases Nat.lt_or_ge n.1 cl with hn | hn
      · obtain ⟨i', e⟩ := Option.isSome_iff_exists.1 (hback n ds h2 hn)
        obtain ⟨ds', hds⟩ := halive n _ e
        obtain ⟨h4, h5⟩ := hi.low _ ds' hds
        rw [hg1 n i' e]
        exact ⟨by omega, h5⟩
      · rw [hg2 n hn]
        exact ⟨by simp only; omega, fun hm => absurd hm (by have := hi.lno.2.2; simp only; omega)⟩
  · refine hi.kept.trans' hkept (fun b hb hm => ?_)
    rcases hinE b (hmayC b hm) with g | g
    · omega
    · exact g
  · rcases hget_append hg with hg | hg
    · exact hi.may i cs p (hget_hrem_of hg).2 (hold2 i cs p hg hp)
    · obtain ⟨n, es, k1, k2, rfl, k4⟩ := hnew2 i cs p hg hp
      rcases hnewb n es p k2 k4 with g | g
      · have := hi.kept.size
        exact .inl (by omega)
      · exact hinE _ g
  · rcases hfzn b cs h with k | k | k
    · exact hi.fzn b cs k
    · have := hi.kept.size
      exact .inr (.inl (by omega))
    · exact .inr (hinE b (hmayC b k))
  · have := hi.lno.2.2
    show (if i.1 < σ.nx then _ else _) = _
    rw [if_pos (by omega)]
    exact hi.lno.2.1 i hi'
  · have := hi.lno.2.2
    simp only; omega
  · obtain ⟨h1, h2⟩ := hkp i hk
    obtain ⟨ds, hds⟩ := Option.isSome_iff_exists.1 h1
    obtain ⟨c0, t0, g1, _⟩ := hi.heap.own i ds hds p hp
    refine hkeep _ (lt_of_heap g1) (fun ⟨n, j, q, k1, k2, k3⟩ => ?_)
    obtain ⟨es, hes⟩ := halive n j k1
    exact hi.heap.apart j i es ds (fun e => h2 n (by rw [← e]; exact k1)) hes hds q p k2 hp k3
  · obtain ⟨c0, t0, r0, g1, _⟩ := hi.heap.rd l b cs hl
    exact hkeep b (lt_of_heap g1) (rdNot l b cs hl)
/-- The same as an operation of a region. -/
theorem OXp.call {f : FuncId} {fn : Func} {x : Operand} {args : List Operand} {tys : Array TypeId} {caps : List AV} {R : AV → St → Prop} {ids : Nm → Option Nm} {cl : Nat} {g : Nm → Nm} {dl ok : Nm → Bool} {argsC : List AV} {HC : Hp} {RC : AV → Hp → Nat → Prop} (ho : o.op = .call ⟨.value x, args.toArray, tys⟩) (hx : σ.ev x = .fn (.func f) caps) (hf : P.funcs[f]? = some fn) (hname : (fn.name == "runtime.NumGoroutine") = false) {cc : Code} (hbody : fn.body = some cc)
    (hft : FT P f argsC HC cl RC) (hargs : Lnds σ.H ids ok true (evs σ args ++ caps) argsC) (hhand : Hand σ.H ids ok HC) (hlow : ∀ n ds, hget HC n = some ds → n.1 < cl)
    (hids : ∀ (n i : Nm), ids n = some i → (hget σ.H i).isSome = true) (hidl : ∀ (n i : Nm), ids n = some i → n.1 < cl) (hdl : ∀ (n i : Nm), ids n = some i → dl i = true) (hnd : ∀ (n m i : Nm), ids n = some i → ids m = some i → n = m) (hok : ∀ (i n : Nm), ok i = true → ids n = some i → False)
    (hg1 : ∀ n i, ids n = some i → g n = i) (hg2 : ∀ n : Nm, cl ≤ n.1 → g n = (σ.nx + (n.1 - cl), n.2))
    (hkp : ∀ j : Nat, kp j = true → (hget σ.H j).isSome = true ∧ ∀ n, ids n ≠ some (j, 0))
    (hR : ∀ r H' nx', RC r H' nx' → (∀ n ds, hget H' n = some ds → n.1 < cl → (ids n).isSome = true) → R (r.ren (g)) ⟨σ.T, hrem dl σ.H ++ renH g H', σ.nx + (nx' - cl)⟩) : OXp P E kp o σ R := fun μ a w hi K Q hK => by
  have hv := hi.ev x
  rw [hx] at hv
  generalize hc : a.eval x = c at hv
  cases hv with
  | @fn _ _ m k =>
    have hvs : VRs μ (evs σ args ++ caps) (args.map a.eval ++ m) := (hi.evs args).append k
    have hcall := hi.call (kp := kp) hft hargs hvs hhand hlow hids hidl hdl hnd hok hg1 hg2 hkp
    have hrun : (execOp a.eval o).run P w = .ok (.enter f (args.map a.eval ++ m).toArray) w := by
      have h1 : ¬ fn.name = "runtime.NumGoroutine" := by simpa using hname
      simp [execOp, ho, resolve, invoke, callFunc, Deferred.ofValue, hc, program, hf, hbody, Sem.run, h1]
    simp only [Oper.wp, hrun, Oper.upon]
    refine Calls.mono hcall ?_
    rintro e w' ⟨c, r, H', nx', μ2, rfl, hRC, hbk, hv, hi', hs, hp⟩
    exact hK _ _ _ _ _ (hR r H' nx' hRC hbk) hv hi' hs hp
theorem OX.gh {R : AV → St → Prop} {σ' : St} (k : Gh E σ σ') (h : OX P E kp o σ' R) : OX P E kp o σ R := fun μ a w hi K Q hK => by
  obtain ⟨μ', hi', hs⟩ := k μ a w hi
  refine h μ' a w hi' K Q (fun v τ c μ2 w' hr hv hi2 hk => hK v τ c μ2 w' hr hv hi2 ⟨hs.trans hk.sub, ⟨fun i hi p hp => hk.sm.own i hi p (hs.pl i p hp), fun l b cs hl => hk.sm.rd l b cs (hs.rd l b cs hl)⟩⟩)
end
end Go.BH

/- Data, and how it lies in memory; the plain operations on data. -/
set_option linter.unusedVariables false
set_option linter.unusedSimpArgs false
namespace Go.BH
open Go.RowKit
/-- Data: a whole number, a truth, a text, a list (of elements, or of a struct's cells). -/
inductive D where
  | i (n : Int)
  | b (x : Bool)
  | s (x : ByteArray)
  | l (xs : List D)
  deriving Inhabited
/-- What a cell holds; a slice by what an element's cells hold. -/
inductive CK where
  | int (k : IntKind)
  | bool
  | str
  | sl (e : List CK)
  deriving Inhabited
def D.items : D → List D
  | .l xs => xs
  | _ => []
def D.int : D → Int
  | .i n => n
  | _ => 0
def D.nat (d : D) : Nat := d.int.toNat
def D.tr : D → Bool
  | .b x => x
  | _ => false
def D.st : D → ByteArray
  | .s x => x
  | _ => .empty
/-- An element's cells: an element of one cell is that cell. -/
def row (e : List CK) (d : D) : List D :=
  match e with
  | [_] => [d]
  | _ => d.items
def unrow (e : List CK) (ds : List D) : D :=
  match e, ds with
  | [_], [d] => d
  | _, ds => .l ds
mutual
def okC : CK → D → Bool
  | .int _, .i _ => true
  | .bool, .b _ => true
  | .str, .s _ => true
  | .sl e, .l xs => xs.all fun d => okZ e (row e d)
  | _, _ => false
def okZ : List CK → List D → Bool
  | [], [] => true
  | k :: ks, d :: ds => okC k d && okZ ks ds
  | _, _ => false
end
/-- Is d an element of a slice whose elements' cells hold e? -/
def okE (e : List CK) (d : D) : Bool := okZ e (row e d)
mutual
def encC : CK → D → AV
  | .int k, .i n => .v (.int k n)
  | .bool, .b x => .v (.bool x)
  | .str, .s x => .v (.string x)
  | .sl e, .l xs => .fz false e.length xs.length (xs.flatMap fun d => encZ e (row e d))
  | _, _ => .any
def encZ : List CK → List D → List AV
  | [], _ => []
  | k :: ks, [] => .any :: encZ ks []
  | k :: ks, d :: ds => encC k d :: encZ ks ds
end
theorem encZ_length : ∀ (e : List CK) (ds : List D), (encZ e ds).length = e.length
  | [], _ => by simp [encZ]
  | k :: ks, [] => by simp [encZ, encZ_length ks]
  | k :: ks, d :: ds => by simp [encZ, encZ_length ks]
/-- A list of elements, cell by cell. -/
def encR (e : List CK) (xs : List D) : List AV := xs.flatMap fun d => encZ e (row e d)
theorem encR_length (e : List CK) (xs : List D) : (encR e xs).length = xs.length * e.length := by
  induction xs with
  | nil => simp [encR]
  | cons d ds ih => simp only [encR, List.flatMap_cons, List.length_append, encZ_length, List.length_cons] at ih ⊢; rw [ih, Nat.add_mul]; omega
theorem encR_append (e : List CK) (xs ys : List D) : encR e (xs ++ ys) = encR e xs ++ encR e ys := by simp [encR]
theorem encR_drop (e : List CK) : ∀ (n : Nat) (xs : List D), (encR e xs).drop (n * e.length) = encR e (xs.drop n)
  | 0, xs => by simp
  | n + 1, [] => by simp [encR]
  | n + 1, d :: ds => by
    have := encR_drop e n ds
    simp only [encR, List.flatMap_cons, List.drop_succ_cons] at this ⊢
    rw [List.drop_append, encZ_length, Nat.add_mul, Nat.one_mul, List.drop_eq_nil_of_le (by rw [encZ_length]; omega), List.nil_append, Nat.add_sub_cancel]
    exact this
theorem encR_take (e : List CK) : ∀ (n : Nat) (xs : List D), (encR e xs).take (n * e.length) = encR e (xs.take n)
  | 0, xs => by simp [encR]
  | n + 1, [] => by simp [encR]
  | n + 1, d :: ds => by
    have := encR_take e n ds
    simp only [encR, List.flatMap_cons, List.take_succ_cons] at this ⊢
    rw [List.take_append, encZ_length, Nat.add_mul, Nat.one_mul, List.take_of_length_le (by rw [encZ_length]; omega), Nat.add_sub_cancel, this]
theorem encZ_drop : ∀ (n : Nat) (e : List CK) (ds : List D), (encZ e ds).drop n = encZ (e.drop n) (ds.drop n)
  | 0, e, ds => by simp
  | n + 1, [], ds => by simp [encZ]
  | n + 1, k :: ks, [] => by simp only [encZ, List.drop_succ_cons, List.drop_nil]; rw [encZ_drop n ks []]; simp
  | n + 1, k :: ks, d :: ds => by simp only [encZ, List.drop_succ_cons]; exact encZ_drop n ks ds
theorem okZ_length : ∀ {e : List CK} {ds : List D}, okZ e ds = true → ds.length = e.length
  | [], [], _ => rfl
  | [], _ :: _, h => by simp [okZ] at h
  | _ :: _, [], h => by simp [okZ] at h
  | k :: ks, d :: ds, h => by
    simp only [okZ, Bool.and_eq_true] at h
    simp [okZ_length h.2]
theorem okZ_get : ∀ {e : List CK} {ds : List D}, okZ e ds = true → ∀ (j : Nat) (k : CK), e[j]? = some k → ∃ d, ds[j]? = some d ∧ okC k d = true
  | [], ds, _, j, k, h => by simp at h
  | _ :: _, [], h, _, _, _ => by simp [okZ] at h
  | k :: ks, d :: ds, h, 0, k', hk => by
    simp only [okZ, Bool.and_eq_true] at h
    simp at hk
    subst hk
    exact ⟨d, rfl, h.1⟩
  | k :: ks, d :: ds, h, j + 1, k', hk => by
    simp only [okZ, Bool.and_eq_true] at h
    simpa using okZ_get h.2 j k' (by simpa using hk)
theorem okZ_of : ∀ {e : List CK} {ds : List D}, ds.length = e.length → (∀ (j : Nat) (k : CK) (d : D), e[j]? = some k → ds[j]? = some d → okC k d = true) → okZ e ds = true
  | [], [], _, _ => rfl
  | [], _ :: _, h, _ => by simp at h
  | _ :: _, [], h, _ => by simp at h
  | k :: ks, d :: ds, h, hk => by
    simp only [okZ, Bool.and_eq_true]
    exact ⟨hk 0 k d rfl rfl, okZ_of (by simpa using h) (fun j k' d' h1 h2 => hk (j + 1) k' d' (by simpa using h1) (by simpa using h2))⟩
theorem okC_sl {e : List CK} {d : D} (h : okC (.sl e) d = true) : ∃ xs, d = .l xs ∧ ∀ x ∈ xs, okE e x = true := by
  cases d with
  | l xs => exact ⟨xs, rfl, by simpa [okC, okE] using h⟩
  | _ => simp [okC] at h
theorem okC_mk {e : List CK} {xs : List D} (h : ∀ x ∈ xs, okE e x = true) : okC (.sl e) (.l xs) = true := by simpa [okC, okE] using h
theorem okC_int {k : IntKind} {d : D} (h : okC (.int k) d = true) : ∃ n, d = .i n := by
  cases d <;> simp [okC] at h
  exact ⟨_, rfl⟩
theorem okC_bool {d : D} (h : okC .bool d = true) : ∃ n, d = .b n := by
  cases d <;> simp [okC] at h
  exact ⟨_, rfl⟩
theorem okC_str {d : D} (h : okC .str d = true) : ∃ n, d = .s n := by
  cases d <;> simp [okC] at h
  exact ⟨_, rfl⟩
theorem row_unrow {e : List CK} {ds : List D} (h : ds.length = e.length) : row e (unrow e ds) = ds := by
  match e, ds, h with
  | [], [], _ => rfl
  | [k], [d], _ => rfl
  | _ :: _ :: _, ds, _ => rfl
theorem okE_unrow {e : List CK} {ds : List D} (h : okZ e ds = true) : okE e (unrow e ds) = true := by
  unfold okE
  rw [row_unrow (okZ_length h)]
  exact h
theorem encC_one {k : CK} {d : D} (h : okC k d = true) : (encC k d).one = true := by
  cases k <;> cases d <;> simp_all [okC, encC, AV.one, Value.oneCell']
theorem encC_cells (k : CK) (d : D) : (encC k d).cells = [encC k d] := by
  cases k <;> cases d <;> simp [encC, AV.cells]
theorem encZ_ones : ∀ {e : List CK} {ds : List D}, okZ e ds = true → ones (encZ e ds) = true
  | [], [], _ => rfl
  | [], _ :: _, h => by simp [okZ] at h
  | _ :: _, [], h => by simp [okZ] at h
  | k :: ks, d :: ds, h => by
    simp only [okZ, Bool.and_eq_true] at h
    have := encZ_ones h.2
    simp only [ones, encZ, List.all_cons, Bool.and_eq_true] at this ⊢
    exact ⟨encC_one h.1, this⟩
theorem encR_ones {e : List CK} {xs : List D} (h : ∀ x ∈ xs, okE e x = true) : ones (encR e xs) = true := by
  rw [ones_iff]
  intro y hy
  simp only [encR, List.mem_flatMap] at hy
  obtain ⟨d, hd, hy⟩ := hy
  exact ones_iff.1 (encZ_ones (h d hd)) y hy
theorem encR_get {e : List CK} {xs : List D} {i j : Nat} {d : D} (hi : xs[i]? = some d) (hj : j < e.length) : (encR e xs)[i * e.length + j]? = (encZ e (row e d))[j]? := by
  have h1 := encR_drop e i xs
  have h2 : xs.drop i = d :: xs.drop (i + 1) := by
    have hlt : i < xs.length := by
      rcases Nat.lt_or_ge i xs.length with g | g
      · exact g
      · rw [List.getElem?_eq_none g] at hi; cases hi
    rw [List.drop_eq_getElem_cons hlt]
    rw [List.getElem?_eq_getElem hlt] at hi
    rw [Option.some.inj hi]
  rw [h2] at h1
  have h3 := congrArg (fun l => l[j]?) h1
  simp only [List.getElem?_drop] at h3
  rw [h3]
  simp only [encR, List.flatMap_cons]
  rw [List.getElem?_append_left (by rw [encZ_length]; exact hj)]
theorem encZ_get : ∀ {e : List CK} {ds : List D} (j : Nat) {k : CK} {d : D}, e[j]? = some k → ds[j]? = some d → (encZ e ds)[j]? = some (encC k d)
  | [], ds, j, k, d, h, _ => by simp at h
  | _ :: _, [], j, k, d, _, h => by simp at h
  | k :: ks, d :: ds, 0, k', d', h1, h2 => by simp at h1 h2; subst h1; subst h2; rfl
  | k :: ks, d :: ds, j + 1, k', d', h1, h2 => by
    simp only [encZ, List.getElem?_cons_succ]
    exact encZ_get j (by simpa using h1) (by simpa using h2)
mutual
theorem encC_nl : ∀ (k : CK) (d : D), (encC k d).nl = true
  | .int k, .i n => rfl
  | .bool, .b x => rfl
  | .str, .s x => rfl
  | .sl e, .l xs => by
    simp only [encC, AV.nl, Bool.not_false, Bool.true_and]
    exact nls_iff.2 (fun y hy => by
      simp only [List.mem_flatMap] at hy
      obtain ⟨d, hd, hy⟩ := hy
      exact encZ_nl e _ y hy)
  | .int _, .b _ => rfl
  | .int _, .s _ => rfl
  | .int _, .l _ => rfl
  | .bool, .i _ => rfl
  | .bool, .s _ => rfl
  | .bool, .l _ => rfl
  | .str, .i _ => rfl
  | .str, .b _ => rfl
  | .str, .l _ => rfl
  | .sl _, .i _ => rfl
  | .sl _, .b _ => rfl
  | .sl _, .s _ => rfl
theorem encZ_nl : ∀ (e : List CK) (ds : List D), ∀ y ∈ encZ e ds, y.nl = true
  | [], _, y, h => by simp [encZ] at h
  | k :: ks, [], y, h => by
    simp only [encZ, List.mem_cons] at h
    rcases h with rfl | h
    · rfl
    · exact encZ_nl ks [] y h
  | k :: ks, d :: ds, y, h => by
    simp only [encZ, List.mem_cons] at h
    rcases h with rfl | h
    · exact encC_nl k d
    · exact encZ_nl ks ds y h
end
mutual
theorem encC_ren (f : Nm → Nm) : ∀ (k : CK) (d : D), (encC k d).ren f = encC k d
  | .int k, .i n => rfl
  | .bool, .b x => rfl
  | .str, .s x => rfl
  | .sl e, .l xs => by
    simp only [encC, AV.ren]
    congr 1
    rw [rens_map, List.map_flatMap]
    congr 1
    funext d
    exact encZ_ren f e _
  | .int _, .b _ => rfl
  | .int _, .s _ => rfl
  | .int _, .l _ => rfl
  | .bool, .i _ => rfl
  | .bool, .s _ => rfl
  | .bool, .l _ => rfl
  | .str, .i _ => rfl
  | .str, .b _ => rfl
  | .str, .l _ => rfl
  | .sl _, .i _ => rfl
  | .sl _, .b _ => rfl
  | .sl _, .s _ => rfl
theorem encZ_ren (f : Nm → Nm) : ∀ (e : List CK) (ds : List D), (encZ e ds).map (AV.ren f) = encZ e ds
  | [], _ => by simp [encZ]
  | k :: ks, [] => by simp [encZ, encZ_ren f ks, AV.ren]
  | k :: ks, d :: ds => by simp [encZ, encZ_ren f ks, encC_ren f k]
end
theorem encR_ren (f : Nm → Nm) (e : List CK) (xs : List D) : AV.rens f (encR e xs) = encR e xs := by
  rw [rens_map, encR, List.map_flatMap]
  congr 1
  funext d
  exact encZ_ren f e _
theorem encR_nl (e : List CK) (xs : List D) : AV.nls (encR e xs) = true := nls_iff.2 (fun y hy => by
  simp only [encR, List.mem_flatMap] at hy
  obtain ⟨d, hd, hy⟩ := hy
  exact encZ_nl e _ y hy)
end Go.BH

/- The plain operations on data. -/
set_option linter.unusedVariables false
set_option linter.unusedSimpArgs false
namespace Go.BH
open Go.RowKit
inductive Pr where
  | bin (o : BinOp) (k : IntKind)
  | sh (o : BinOp) (k yk : IntKind)
  | cmp (o : BinOp) (k : IntKind)
  | cmpS (o : BinOp)
  | cat
  | not
  | and
  | or
  | eqb
  | nat (k : IntKind)
  | neg (k : IntKind)
  | com (k : IntKind)
  | conv (k k' : IntKind)
  | mx (k : IntKind)
  | mn (k : IntKind)
  | len (e : List CK)
  | lenS
  | get (e : List CK) (j : Nat)
  | ixc (k : IntKind)
  | cut (e : List CK) (k k' : IntKind)
  | cutS (k k' : IntKind)
  | rng (k k' : IntKind)
  | plus
  | idxS (k : IntKind)
  | app (e : List CK) (bytes : Nat)
  | mk (e : List CK) (n : Nat)
  | mkz (e : List CK) (k : IntKind) (bytes : Nat) (z : List D)
  | set (e : List CK) (j : Nat)
  | bstr
  | ite (k : CK)
  deriving Inhabited
def binI (o : BinOp) (k : IntKind) (x y : Int) : Option Int :=
  match o with
  | .add => some (k.wrap (x + y))
  | .sub => some (k.wrap (x - y))
  | .mul => some (k.wrap (x * y))
  | .quo => if y = 0 then none else some (k.wrap (x.tdiv y))
  | .rem => if y = 0 then none else some (x.tmod y)
  | .and => some (k.wrap (BitVec.ofInt k.bits x &&& BitVec.ofInt k.bits y).toNat)
  | .or => some (k.wrap (BitVec.ofInt k.bits x ||| BitVec.ofInt k.bits y).toNat)
  | .xor => some (k.wrap (BitVec.ofInt k.bits x ^^^ BitVec.ofInt k.bits y).toNat)
  | .andNot => some (k.wrap (BitVec.ofInt k.bits x &&& ~~~ BitVec.ofInt k.bits y).toNat)
  | _ => none
def shI (o : BinOp) (k : IntKind) (x y : Int) : Option Int :=
  if y < 0 then none else
  match o with
  | .shl => some (k.wrap (x * 2 ^ (min y.toNat k.bits)))
  | .shr => some (x.fdiv (2 ^ (min y.toNat k.bits)))
  | _ => none
def cmpI (o : BinOp) (x y : Int) : Option Bool :=
  match o with
  | .eql => some (x == y)
  | .neq => some (x != y)
  | .lss => some (decide (x < y))
  | .leq => some (decide (x ≤ y))
  | .gtr => some (decide (x > y))
  | .geq => some (decide (x ≥ y))
  | _ => none
def cmpT (o : BinOp) (x y : ByteArray) : Option Bool :=
  match o with
  | .eql => some (x.toList == y.toList)
  | .neq => some (!(x.toList == y.toList))
  | .lss => some (Op.bytesLess x.toList y.toList)
  | .leq => some (Op.bytesLess x.toList y.toList || x.toList == y.toList)
  | .gtr => some (!(Op.bytesLess x.toList y.toList || x.toList == y.toList))
  | .geq => some (!(Op.bytesLess x.toList y.toList))
  | _ => none
/-- n elements of |e| cells each. -/
def rowsOf (e : List CK) : Nat → List D → List D
  | 0, _ => []
  | n + 1, ds => unrow e (ds.take e.length) :: rowsOf e n (ds.drop e.length)
def setRow (e : List CK) (j : Nat) (x d : D) : D := unrow e ((row e d).set j x)
def bytesOf (xs : List D) : ByteArray := xs.foldl (fun r d => r.push (UInt8.ofNat d.nat)) ByteArray.empty
def Pr.eval : Pr → List D → Option D
  | .bin o k, [.i x, .i y] => (binI o k x y).map .i
  | .sh o k _, [.i x, .i y] => (shI o k x y).map .i
  | .cmp o _, [.i x, .i y] => (cmpI o x y).map .b
  | .cmpS o, [.s x, .s y] => (cmpT o x y).map .b
  | .cat, [.s x, .s y] => if ((x.size + y.size : Nat) : Int) > 9223372036854775807 then none else some (.s (x ++ y))
  | .not, [.b x] => some (.b (!x))
  | .and, [.b x, .b y] => some (.b (x && y))
  | .or, [.b x, .b y] => some (.b (x || y))
  | .eqb, [.b x, .b y] => some (.b (x == y))
  | .nat _, [.i x] => if 0 ≤ x then some (.i x) else none
  | .neg k, [.i x] => some (.i (k.wrap (0 - x)))
  | .com k, [.i x] => some (.i (k.wrap (BitVec.ofInt k.bits (if k.signed then -1 else k.max) ^^^ BitVec.ofInt k.bits x).toNat))
  | .conv _ k', [.i x] => some (.i (k'.wrap x))
  | .mx _, [.i x, .i y] => some (.i (if y > x then y else x))
  | .mn _, [.i x, .i y] => some (.i (if y < x then y else x))
  | .len _, [.l xs] => some (.i xs.length)
  | .lenS, [.s x] => some (.i x.size)
  | .get e j, [.l xs, .i i] => if i < 0 then none else (xs[i.toNat]?).bind fun d => (row e d)[j]?
  | .ixc _, [.i i, .i n] => if 0 ≤ i ∧ i < n then some (.i i) else none
  | .cut _ _ _, [.l xs, .i l, .i h] => if 0 ≤ l ∧ l ≤ h ∧ h ≤ xs.length then some (.l ((xs.drop l.toNat).take (h.toNat - l.toNat))) else none
  | .cutS _ _, [.s x, .i l, .i h] => if 0 ≤ l ∧ l ≤ h ∧ h ≤ x.size then some (.s (x.extract l.toNat h.toNat)) else none
  | .rng _ _, [.i l, .i h, .i n] => if 0 ≤ l ∧ l ≤ h ∧ h ≤ n then some (.i (h - l)) else none
  | .plus, [.i x, .i y] => if 0 ≤ x ∧ 0 ≤ y then some (.i (x + y)) else none
  | .idxS _, [.s x, .i i] => if i < 0 then none else (x[i.toNat]?).map fun b => .i b.toNat
  | .app _ bytes, [.l xs, .l ys] => if (xs.length + ys.length) * bytes ≤ 140737488355328 ∧ xs.length + ys.length < 9223372036854775808 then some (.l (xs ++ ys)) else none
  | .mk e n, ds => some (.l (rowsOf e n ds))
  | .mkz e _ bytes z, [.i n] => if 0 ≤ n ∧ bytes * n.toNat ≤ 281474976710656 ∧ n < 9223372036854775808 then some (.l (List.replicate n.toNat (unrow e z))) else none
  | .set e j, [.l xs, .i i, x] => if 0 ≤ i ∧ i < xs.length then some (.l (xs.modify i.toNat (setRow e j x))) else none
  | .bstr, [.l xs] => some (.s (bytesOf xs))
  | .ite _, [.b c, x, y] => some (if c then x else y)
  | _, _ => none
def Pr.args : Pr → List CK
  | .bin _ k => [.int k, .int k]
  | .sh _ k yk => [.int k, .int yk]
  | .cmp _ k => [.int k, .int k]
  | .cmpS _ => [.str, .str]
  | .cat => [.str, .str]
  | .not => [.bool]
  | .and => [.bool, .bool]
  | .or => [.bool, .bool]
  | .eqb => [.bool, .bool]
  | .nat k => [.int k]
  | .neg k => [.int k]
  | .com k => [.int k]
  | .conv k _ => [.int k]
  | .mx k => [.int k, .int k]
  | .mn k => [.int k, .int k]
  | .len e => [.sl e]
  | .lenS => [.str]
  | .get e _ => [.sl e, .int .i64]
  | .ixc k => [.int k, .int .i64]
  | .cut e k k' => [.sl e, .int k, .int k']
  | .cutS k k' => [.str, .int k, .int k']
  | .rng k k' => [.int k, .int k', .int .i64]
  | .plus => [.int .i64, .int .i64]
  | .idxS k => [.str, .int k]
  | .app e _ => [.sl e, .sl e]
  | .mk e n => (List.replicate n e).flatten
  | .mkz _ k _ _ => [.int k]
  | .set e j => [.sl e, .int .i64, e.getD j .bool]
  | .bstr => [.sl [.int .u8]]
  | .ite k => [.bool, k, k]
def Pr.ty : Pr → CK
  | .bin _ k => .int k
  | .sh _ k _ => .int k
  | .cmp _ _ => .bool
  | .cmpS _ => .bool
  | .cat => .str
  | .not => .bool
  | .and => .bool
  | .or => .bool
  | .eqb => .bool
  | .nat _ => .int .i64
  | .neg k => .int k
  | .com k => .int k
  | .conv _ k => .int k
  | .mx k => .int k
  | .mn k => .int k
  | .len _ => .int .i64
  | .lenS => .int .i64
  | .get e j => e.getD j .bool
  | .ixc _ => .int .i64
  | .cut e _ _ => .sl e
  | .cutS _ _ => .str
  | .rng _ _ => .int .i64
  | .plus => .int .i64
  | .idxS _ => .int .u8
  | .app e _ => .sl e
  | .mk e _ => .sl e
  | .mkz e _ _ _ => .sl e
  | .set e _ => .sl e
  | .bstr => .str
  | .ite k => k
/-- What is asked of an operation itself. -/
def Pr.wf : Pr → Bool
  | .get e j => Nat.blt j e.length
  | .set e j => Nat.blt j e.length
  | .mkz e _ _ z => okZ e z
  | _ => true
theorem okZ_append : ∀ {a b : List CK} {ds : List D}, okZ (a ++ b) ds = true → okZ a (ds.take a.length) = true ∧ okZ b (ds.drop a.length) = true
  | [], b, ds, h => by simpa [okZ] using h
  | k :: ks, b, [], h => by simp [okZ] at h
  | k :: ks, b, d :: ds, h => by
    simp only [List.cons_append, okZ, Bool.and_eq_true] at h
    obtain ⟨h1, h2⟩ := okZ_append h.2
    simp only [List.length_cons, List.take_succ_cons, List.drop_succ_cons, okZ, Bool.and_eq_true]
    exact ⟨⟨h.1, h1⟩, h2⟩
theorem rowsOf_ok {e : List CK} : ∀ (n : Nat) (ds : List D), okZ (List.replicate n e).flatten ds = true → ∀ x ∈ rowsOf e n ds, okE e x = true
  | 0, ds, _, x, hx => by simp [rowsOf] at hx
  | n + 1, ds, h, x, hx => by
    simp only [List.replicate_succ, List.flatten_cons] at h
    obtain ⟨h1, h2⟩ := okZ_append h
    simp only [rowsOf, List.mem_cons] at hx
    rcases hx with rfl | hx
    · exact okE_unrow h1
    · exact rowsOf_ok n _ h2 x hx
theorem okZ_set : ∀ {e : List CK} {ds : List D} (j : Nat) {x : D}, okZ e ds = true → okC (e.getD j .bool) x = true → okZ e (ds.set j x) = true
  | [], [], _, _, _, _ => rfl
  | [], _ :: _, _, _, h, _ => by simp [okZ] at h
  | _ :: _, [], _, _, h, _ => by simp [okZ] at h
  | k :: ks, d :: ds, 0, x, h, hx => by
    simp only [okZ, Bool.and_eq_true] at h
    simp only [List.set_cons_zero, okZ, Bool.and_eq_true]
    exact ⟨by simpa using hx, h.2⟩
  | k :: ks, d :: ds, j + 1, x, h, hx => by
    simp only [okZ, Bool.and_eq_true] at h
    simp only [List.set_cons_succ, okZ, Bool.and_eq_true]
    exact ⟨h.1, okZ_set j h.2 (by simpa using hx)⟩
theorem setRow_ok {e : List CK} {j : Nat} {x d : D} (h : okE e d = true) (hx : okC (e.getD j .bool) x = true) : okE e (setRow e j x d) = true :=
  okE_unrow (okZ_set j h hx)
theorem mem_modify {α : Type} {f : α → α} : ∀ {l : List α} {i : Nat} {x : α}, x ∈ l.modify i f → x ∈ l ∨ ∃ y ∈ l, x = f y
  | [], i, x, h => by simp at h
  | y :: ys, 0, x, h => by
    simp at h
    rcases h with rfl | h
    · exact .inr ⟨y, List.mem_cons_self, rfl⟩
    · exact .inl (List.mem_cons_of_mem _ h)
  | y :: ys, i + 1, x, h => by
    simp at h
    rcases h with rfl | h
    · exact .inl List.mem_cons_self
    · rcases mem_modify h with h | ⟨z, hz, h⟩
      · exact .inl (List.mem_cons_of_mem _ h)
      · exact .inr ⟨z, List.mem_cons_of_mem _ hz, h⟩
/-- What an operation leaves is of its kind. -/
theorem Pr.ok {p : Pr} {ds : List D} {d : D} (hw : p.wf = true) (h : okZ p.args ds = true) (he : p.eval ds = some d) : okC p.ty d = true := by
  unfold Pr.eval at he
  split at he <;> simp only [Pr.args, Pr.ty, Pr.wf, okZ, Bool.and_eq_true, Bool.and_true] at h hw ⊢
  all_goals first
    | (simp only [Option.map_eq_some_iff] at he; obtain ⟨a, _, rfl⟩ := he; rfl)
    | (obtain rfl := Option.some.inj he; rfl)
    | (split at he <;> first | (cases he; done) | (obtain rfl := Option.some.inj he; rfl))
    | skip
  · -- get
    rename_i e j xs i
    split at he
    · cases he
    · cases hx : xs[i.toNat]? with
      | none => rw [hx] at he; cases he
      | some x =>
        rw [hx] at he
        simp only [Option.bind_some] at he
        obtain ⟨ys, e1, h2⟩ := okC_sl h.1
        cases e1
        have hx' := h2 x (List.mem_of_getElem? hx)
        have hj : j < e.length := by simpa using hw
        obtain ⟨d', h3, h4⟩ := okZ_get hx' j _ (List.getElem?_eq_getElem hj)
        rw [h3] at he
        obtain rfl := Option.some.inj he
        simpa [List.getD, hj] using h4
  · -- cut
    rename_i e k k' xs l hh
    split at he
    · obtain rfl := Option.some.inj he
      obtain ⟨ys, e1, h2⟩ := okC_sl h.1
      cases e1
      exact okC_mk (fun x hx => h2 x (List.mem_of_mem_drop (List.mem_of_mem_take hx)))
    · cases he
  · -- idxS
    split at he
    · cases he
    · simp only [Option.map_eq_some_iff] at he
      obtain ⟨a, _, rfl⟩ := he
      rfl
  · -- app
    split at he
    · obtain rfl := Option.some.inj he
      obtain ⟨xs, e1, h2⟩ := okC_sl h.1
      obtain ⟨ys, e2, h3⟩ := okC_sl h.2
      cases e1
      cases e2
      exact okC_mk (fun x hx => by
        rcases List.mem_append.1 hx with g | g
        · exact h2 x g
        · exact h3 x g)
    · cases he
  · -- mk
    obtain rfl := Option.some.inj he
    exact okC_mk (rowsOf_ok _ _ h)
  · -- mkz
    split at he
    · obtain rfl := Option.some.inj he
      exact okC_mk (fun x hx => by
        rw [(List.mem_replicate.1 hx).2]
        exact okE_unrow hw)
    · cases he
  · -- set
    split at he
    · obtain rfl := Option.some.inj he
      obtain ⟨xs, e1, h2⟩ := okC_sl h.1
      cases e1
      refine okC_mk (fun x hx => ?_)
      rcases mem_modify hx with g | ⟨y, g, rfl⟩
      · exact h2 x g
      · exact setRow_ok (h2 y g) h.2.2
    · cases he
  · -- ite
    obtain rfl := Option.some.inj he
    split
    · exact h.2.1
    · exact h.2.2
  · cases he
end Go.BH

/- What is known of a call's state, in letters: values over the data named so far. -/
set_option linter.unusedVariables false
set_option linter.unusedSimpArgs false
namespace Go.BH
open Go.RowKit
inductive TyK where
  | slice (e : TypeId)
  | struct (fs : List (TypeId × Nat))
  | array (n : Nat) (e : TypeId)
  | str
  | int (k : IntKind)
  | bool
  | iface
  | other
/-- What is needed of a type. (row: what the cells hold: a hint alone.) -/
structure Ty where
  size : Nat
  bytes : Nat
  agg : Bool
  kind : TyK
  zero : List Value
  row : List CK
  eqi : Bool
def kindD : TypeDesc → TyK
  | .slice e => .slice e
  | .struct fs => .struct (fs.toList.map fun f => (f.type, f.offset))
  | .array n e => .array n e
  | .string => .str
  | .int k => .int k
  | .bool => .bool
  | .interface _ => .iface
  | _ => .other
def intF (P : Program) (f : Field) : Bool := match P.underlying f.type with
  | some (.int _) => f.name != "_"
  | _ => false
/-- A struct of n whole numbers. -/
def eqIntsB (P : Program) (t : TypeId) (n : Nat) : Bool :=
  !P.eqGuardType P.depth t && !P.stoodInHeld t && (match P.underlying t with
    | some (.struct fs) => fs.toList.map (·.offset) == List.range' 0 n && fs.toList.all (intF P)
    | _ => false)
def TyOk (P : Program) (t : TypeId) (T : Ty) : Prop := ∃ d i z, P.underlying t = some d ∧ P.info? t = some i ∧ i.zero = some z ∧ T.size = i.size ∧ T.bytes = i.bytes ∧ T.agg = aggD d ∧ T.kind = kindD d ∧ T.zero = z.cells.toList ∧ (T.eqi = true → eqIntsB P t T.size = true)
abbrev TyTab := List (TypeId × Ty)
def tyGet : TyTab → TypeId → Option Ty
  | [], _ => none
  | (u, T) :: r, t => if Nat.beq u t = true then some T else tyGet r t
def TabOk (P : Program) (tab : TyTab) : Prop := ∀ p ∈ tab, TyOk P p.1 p.2
theorem tyGet_ok {P : Program} : ∀ {tab : TyTab} {t : TypeId} {T : Ty}, TabOk P tab → tyGet tab t = some T → TyOk P t T
  | [], t, T, _, h => by cases h
  | (u, U) :: r, t, T, hk, h => by
    simp only [tyGet] at h
    split at h
    · rename_i e
      obtain rfl := Option.some.inj h
      have := hk (u, U) List.mem_cons_self
      rwa [Nat.eq_of_beq_eq_true e] at this
    · exact tyGet_ok (fun p hp => hk p (List.mem_cons_of_mem _ hp)) h
/-- A datum by its letter, or written out. -/
inductive At where
  | v (i : Nat)
  | k (d : D)
  deriving Inhabited
def At.den (env : List D) : At → D
  | .v i => (env[i]?).getD (.l [])
  | .k d => d
/-- A list by value: for good; its cells for this call alone; all of it for this call alone. -/
inductive Lv where
  | good | lent | deep
  deriving DecidableEq, Inhabited
def Lv.b : Lv → Bool
  | .good => false
  | _ => true
def Lv.q : Lv → Bool
  | .deep => true
  | _ => false
mutual
/-- For this call alone. -/
def AV.lnt : AV → AV
  | .fz _ s n xs => .fz true s n (AV.lnts xs)
  | .pfz _ xs => .pfz true (AV.lnts xs)
  | .any => .any
  | .v x => .v x
  | .ptr i o => .ptr i o
  | .sl i o n s => .sl i o n s
  | .e0 => .e0
  | .ifs => .ifs
  | .agg cs => .agg cs
  | .tup cs => .tup cs
  | .fn g cs => .fn g cs
def AV.lnts : List AV → List AV
  | [] => []
  | x :: xs => AV.lnt x :: AV.lnts xs
end
theorem lnts_map (l : List AV) : AV.lnts l = l.map AV.lnt := by
  induction l with
  | nil => rfl
  | cons x xs ih => simp [AV.lnts, ih]
def lq (q : Bool) (l : List AV) : List AV := match q with
  | true => AV.lnts l
  | false => l
theorem lq_map (q : Bool) (l : List AV) : lq q l = l.map (match q with
  | true => AV.lnt
  | false => id) := by
  cases q
  · simp [lq]
  · exact lnts_map l
theorem lq_length (q : Bool) (l : List AV) : (lq q l).length = l.length := by rw [lq_map, List.length_map]
theorem lq_drop (q : Bool) (l : List AV) (n : Nat) : (lq q l).drop n = lq q (l.drop n) := by rw [lq_map, lq_map, List.map_drop]
theorem lq_take (q : Bool) (l : List AV) (n : Nat) : (lq q l).take n = lq q (l.take n) := by rw [lq_map, lq_map, List.map_take]
theorem lq_nil (q : Bool) : lq q [] = [] := by cases q <;> rfl
inductive SV where
  | any
  | dat (k : CK) (a : At)
  | lz (q : Bool) (e : List CK) (a : At)
  | K (v : Value)
  | nilS
  | e0
  | ifc (a : At)
  | ptr (i o : Nat)
  | ptrE (i : Nat) (ix : At) (s off : Nat)
  | sl (i : Nat) (lo n : At) (s : Nat)
  | slD (i : Nat) (e : List CK) (a ix : At) (c : Nat)
  | pfz (l : Lv) (e : List CK) (a ix : At) (off : Nat)
  | agg (xs : List SV)
  | tup (xs : List SV)
  | fn (f : Nat) (xs : List SV)
  deriving Inhabited
/-- nil, or an interface value that is not. -/
def ifcA : D → AV
  | .b true => .v .nilIface
  | _ => .ifs
/-- What the elements of column c hold. -/
def colE (e : List CK) (c : Nat) : List CK := match e[c]? with
  | some (.sl e') => e'
  | _ => []
/-- The list in column c of row r. -/
def atRC (e : List CK) (c : Nat) (d : D) (r : Nat) : List D := match d.items[r]? with
  | some x => (match (row e x)[c]? with
    | some y => y.items
    | none => [])
  | none => []
mutual
def SV.den (env : List D) : SV → AV
  | .any => .any
  | .dat k a => encC k (a.den env)
  | .lz q e a => .fz true e.length (a.den env).items.length (lq q (encR e (a.den env).items))
  | .K v => .v v
  | .nilS => .v (.slice none 0 0)
  | .e0 => .e0
  | .ifc a => ifcA (a.den env)
  | .ptr i o => .ptr i o
  | .ptrE i ix s off => .ptr i ((ix.den env).nat * s + off)
  | .sl i lo n s => .sl i ((lo.den env).nat * s) (n.den env).nat s
  | .slD i e a ix c => .sl (i, (ix.den env).nat * e.length + c + 1) 0 (atRC e c (a.den env) (ix.den env).nat).length (colE e c).length
  | .pfz l e a ix off => .pfz l.b ((lq l.q (encR e (a.den env).items)).drop ((ix.den env).nat * e.length + off))
  | .agg xs => .agg (SV.dens env xs)
  | .tup xs => .tup (SV.dens env xs)
  | .fn f xs => .fn (.func f) (SV.dens env xs)
def SV.dens (env : List D) : List SV → List AV
  | [] => []
  | x :: xs => SV.den env x :: SV.dens env xs
end
theorem dens_map (env : List D) (l : List SV) : SV.dens env l = l.map (SV.den env) := by
  induction l with
  | nil => rfl
  | cons x xs ih => simp [SV.dens, ih]
/-- Whose are the slices in a list of rows? Frozen (pl); or each a block that the list owns (ow), but for those columns of one row that are taken out. -/
inductive Ow where
  | pl
  | ow (h : Option (At × List Nat))
  deriving Inhabited
/-- A block: its cells; or a list of elements, and how many. -/
inductive SB where
  | cells (xs : List SV)
  | arr (w : Ow) (e : List CK) (a n : At)
  deriving Inhabited
/-- Cell p of block i, where slices are owned. -/
def encF (i p : Nat) : CK → D → AV
  | .sl e, .l xs => .sl (i, p + 1) 0 xs.length e.length
  | k, d => encC k d
def famZ (i : Nat) : Nat → List CK → List D → List AV
  | _, [], _ => []
  | p, k :: ks, [] => .any :: famZ i (p + 1) ks []
  | p, k :: ks, d :: ds => encF i p k d :: famZ i (p + 1) ks ds
def famR (i : Nat) (e : List CK) : Nat → List D → List AV
  | _, [] => []
  | p, d :: ds => famZ i p e (row e d) ++ famR i e (p + e.length) ds
/-- The blocks that a row's cells own; h: those that are taken out. -/
def blkZ (i : Nat) (h : Nat → Bool) : Nat → List CK → List D → Hp
  | _, [], _ => []
  | _, _ :: _, [] => []
  | p, k :: ks, d :: ds => (match k, d with
    | .sl e, .l xs => if h p = true then [] else [((i, p + 1), encR e xs)]
    | _, _ => []) ++ blkZ i h (p + 1) ks ds
def blkR (i : Nat) (h : Nat → Bool) (e : List CK) : Nat → List D → Hp
  | _, [] => []
  | p, d :: ds => blkZ i h p e (row e d) ++ blkR i h e (p + e.length) ds
def memC : Nat → List Nat → Bool
  | _, [] => false
  | c, j :: r => Nat.beq j c || memC c r
def holeB (env : List D) (e : List CK) : Option (At × List Nat) → Nat → Bool
  | none, _ => false
  | some (ix, cs), p => cs.any fun c => Nat.beq ((ix.den env).nat * e.length + c) p
def SB.den (env : List D) (i : Nat) : SB → List AV
  | .cells xs => SV.dens env xs
  | .arr .pl e a _ => encR e (a.den env).items
  | .arr (.ow _) e a _ => famR i e 0 (a.den env).items
def SB.more (env : List D) (i : Nat) : SB → Hp
  | .cells _ => []
  | .arr .pl _ _ _ => []
  | .arr (.ow h) e a _ => blkR i (holeB env e h) e 0 (a.den env).items
structure SS where
  T : List (Nat × SV)
  H : List (Nat × SB)
  nx : Nat
  deriving Inhabited
def denT (env : List D) : List (Nat × SV) → List (Nat × AV)
  | [] => []
  | (t, x) :: r => (t, x.den env) :: denT env r
/-- The blocks whose names p does not hold. -/
def denH (env : List D) : List (Nat × SB) → Hp
  | [] => []
  | (i, b) :: r => ((i, 0), b.den env i) :: (b.more env i ++ hrem (fun n => Nat.beq n.1 i) (denH env r))
def SS.den (env : List D) (σ : SS) : St := ⟨denT env σ.T, denH env σ.H, σ.nx⟩
def tkS : List (Nat × SV) → Nat → SV
  | [], _ => .any
  | (d, v) :: r, t => if Nat.beq d t = true then v else tkS r t
theorem tk_denT (env : List D) (t : Nat) : ∀ T : List (Nat × SV), tk (denT env T) t = (tkS T t).den env
  | [] => rfl
  | (d, x) :: r => by
    simp only [denT, tk, tkS]
    split
    · rfl
    · exact tk_denT env t r
def hgetS : List (Nat × SB) → Nat → Option SB
  | [], _ => none
  | (k, b) :: r, n => if Nat.beq k n = true then some b else hgetS r n
theorem hget_app (H K : Hp) (j : Nm) : hget (H ++ K) j = match hget H j with
    | some cs => some cs
    | none => hget K j := by
  induction H with
  | nil => rfl
  | cons p r ih =>
    obtain ⟨k, cs⟩ := p
    simp only [List.cons_append, hget]
    split
    · rfl
    · exact ih
theorem blkZ_name {i : Nat} {h : Nat → Bool} : ∀ {e : List CK} {ds : List D} {p : Nat} {j : Nm} {cs : List AV}, hget (blkZ i h p e ds) j = some cs → j.1 = i ∧ p + 1 ≤ j.2 ∧ j.2 < p + 1 + e.length
  | [], ds, p, j, cs, g => by simp [blkZ, hget] at g
  | _ :: _, [], p, j, cs, g => by simp [blkZ, hget] at g
  | k :: ks, d :: ds, p, j, cs, g => by
    simp only [blkZ, hget_app] at g
    split at g
    · rename_i cs' g1
      have : j = (i, p + 1) := by
        split at g1
        · split at g1
          · simp [hget] at g1
          · simp only [hget] at g1
            split at g1
            · rename_i e'; exact (nbeq_eq e').symm
            · cases g1
        · simp [hget] at g1
      subst this
      simp
    · obtain ⟨h1, h2, h3⟩ := blkZ_name g
      simp only [List.length_cons]
      exact ⟨h1, by omega, by omega⟩
theorem blkR_name {i : Nat} {h : Nat → Bool} {e : List CK} : ∀ {ds : List D} {p : Nat} {j : Nm} {cs : List AV}, hget (blkR i h e p ds) j = some cs → j.1 = i ∧ p + 1 ≤ j.2
  | [], p, j, cs, g => by simp [blkR, hget] at g
  | d :: ds, p, j, cs, g => by
    simp only [blkR, hget_app] at g
    split at g
    · rename_i g1
      obtain ⟨h1, h2, _⟩ := blkZ_name g1
      exact ⟨h1, h2⟩
    · obtain ⟨h1, h2⟩ := blkR_name g
      exact ⟨h1, by omega⟩
theorem more_name {env : List D} {i : Nat} {b : SB} {j : Nm} {cs : List AV} (h : hget (b.more env i) j = some cs) : j.1 = i ∧ 1 ≤ j.2 := by
  cases b with
  | cells xs => simp [SB.more, hget] at h
  | arr w e a n =>
    cases w with
    | pl => simp [SB.more, hget] at h
    | ow hh =>
      obtain ⟨h1, h2⟩ := blkR_name (show hget (blkR i _ e 0 _) j = some cs from h)
      exact ⟨h1, by omega⟩
theorem natNe {a b : Nat} (h : a ≠ b) : Nat.beq a b = false := by
  cases e : Nat.beq a b with
  | false => rfl
  | true => exact absurd (Nat.eq_of_beq_eq_true e) h
theorem nbeq_ne0 {a b : Nm} (h : nbeq a b = false) : a ≠ b := fun e => by rw [e, nbeq_refl] at h; cases h
theorem hget_denH (env : List D) (t : Nat) : ∀ H : List (Nat × SB), hget (denH env H) t = (hgetS H t).map (SB.den env t)
  | [] => rfl
  | (d, x) :: r => by
    simp only [denH, hget, hgetS, nbeq, Nat.beq_refl, Bool.and_true]
    by_cases e : d = t
    · subst e
      simp
    · have : Nat.beq d t = false := natNe e
      rw [this]
      simp only [Bool.false_eq_true, if_false]
      rw [hget_app]
      split
      · rename_i g
        exact absurd (more_name g).1.symm e
      · rw [hget_hrem]
        have h2 : Nat.beq t d = false := natNe (Ne.symm e)
        simp only [h2, Bool.false_eq_true, if_false]
        exact hget_denH env t r
theorem hget_denH1 (env : List D) (t p : Nat) : ∀ H : List (Nat × SB), hget (denH env H) (t, p + 1) = (hgetS H t).bind fun b => hget (b.more env t) (t, p + 1)
  | [] => rfl
  | (d, x) :: r => by
    simp only [denH, hget, hgetS]
    rw [show nbeq (d, 0) (t, p + 1) = false from beq_ne (fun e => by have := congrArg Prod.snd e; simp at this)]
    simp only [Bool.false_eq_true, if_false]
    rw [hget_app]
    by_cases e : d = t
    · subst e
      simp only [Nat.beq_refl, if_true, Option.bind_some]
      split
      · rename_i g; exact g.symm
      · rename_i g
        rw [g, hget_hrem]
        simp
    · have h1 : Nat.beq d t = false := natNe e
      have h2 : Nat.beq t d = false := natNe (Ne.symm e)
      rw [h1]
      simp only [Bool.false_eq_true, if_false]
      split
      · rename_i g
        exact absurd (more_name g).1.symm e
      · rw [hget_hrem]
        simp only [h2, Bool.false_eq_true, if_false]
        exact hget_denH1 env t p r
def hputS : List (Nat × SB) → Nat → SB → List (Nat × SB)
  | [], _, _ => []
  | (k, d) :: r, n, b => if Nat.beq k n = true then (n, b) :: r else (k, d) :: hputS r n b
def hdelS : List (Nat × SB) → Nat → List (Nat × SB)
  | [], _ => []
  | (k, d) :: r, n => if Nat.beq k n = true then hdelS r n else (k, d) :: hdelS r n
/-- A value of the model's, in letters. -/
def zSV : Value → SV
  | .int k z => .dat (.int k) (.k (.i z))
  | .bool b => .dat .bool (.k (.b b))
  | .string s => .dat .str (.k (.s s))
  | .slice none 0 0 => .nilS
  | v => .K v
theorem zSV_den (env : List D) (v : Value) : (zSV v).den env = .v v := by
  unfold zSV
  split <;> simp [SV.den, encC, At.den]
def SS.ev (σ : SS) : Operand → SV
  | .tmp t => tkS σ.T t
  | .const v => zSV v
  | .global _ => .any
  | .func f => .fn f []
theorem SS.ev_den (env : List D) (σ : SS) (x : Operand) : (σ.den env).ev x = (σ.ev x).den env := by
  cases x with
  | tmp t => exact tk_denT env t σ.T
  | const v => exact (zSV_den env v).symm
  | global g => rfl
  | func f => rfl
def SS.put (σ : SS) (d : Option Tmp) (v : SV) : SS :=
  match d with
  | some t => ⟨(t, v) :: σ.T, σ.H, σ.nx⟩
  | none => σ
theorem SS.put_den (env : List D) (σ : SS) (d : Option Tmp) (v : SV) : (σ.put d v).den env = (σ.den env).put d (v.den env) := by
  cases d <;> rfl
/-! ### kinds -/
mutual
def CK.beq : CK → CK → Bool
  | .int k, .int k' => decide (k = k')
  | .bool, .bool => true
  | .str, .str => true
  | .sl e, .sl e' => CK.beqs e e'
  | _, _ => false
def CK.beqs : List CK → List CK → Bool
  | [], [] => true
  | x :: xs, y :: ys => CK.beq x y && CK.beqs xs ys
  | _, _ => false
end
mutual
theorem CK.beq_eq : ∀ {a b : CK}, CK.beq a b = true → a = b
  | .int k, .int k', h => by simp [CK.beq] at h; rw [h]
  | .bool, .bool, _ => rfl
  | .str, .str, _ => rfl
  | .sl e, .sl e', h => by
    simp only [CK.beq] at h
    rw [CK.beqs_eq h]
  | .int _, .bool, h => by simp [CK.beq] at h
  | .int _, .str, h => by simp [CK.beq] at h
  | .int _, .sl _, h => by simp [CK.beq] at h
  | .bool, .int _, h => by simp [CK.beq] at h
  | .bool, .str, h => by simp [CK.beq] at h
  | .bool, .sl _, h => by simp [CK.beq] at h
  | .str, .int _, h => by simp [CK.beq] at h
  | .str, .bool, h => by simp [CK.beq] at h
  | .str, .sl _, h => by simp [CK.beq] at h
  | .sl _, .int _, h => by simp [CK.beq] at h
  | .sl _, .bool, h => by simp [CK.beq] at h
  | .sl _, .str, h => by simp [CK.beq] at h
theorem CK.beqs_eq : ∀ {a b : List CK}, CK.beqs a b = true → a = b
  | [], [], _ => rfl
  | [], _ :: _, h => by simp [CK.beqs] at h
  | _ :: _, [], h => by simp [CK.beqs] at h
  | x :: xs, y :: ys, h => by
    simp only [CK.beqs, Bool.and_eq_true] at h
    rw [CK.beq_eq h.1, CK.beqs_eq h.2]
end
/-- Is the datum of this kind, by the kinds G of those named so far? -/
def tyA (G : List CK) : At → CK → Bool
  | .v i, k => match G[i]? with
    | some k' => CK.beq k' k
    | none => false
  | .k d, k => okC k d
def tyAs (G : List CK) : List At → List CK → Bool
  | [], [] => true
  | a :: as, k :: ks => tyA G a k && tyAs G as ks
  | _, _ => false
theorem tyA_ok {G : List CK} {env : List D} (h : okZ G env = true) {a : At} {k : CK} (ha : tyA G a k = true) : okC k (a.den env) = true := by
  cases a with
  | v i =>
    simp only [tyA] at ha
    split at ha
    · rename_i k' e
      obtain ⟨d, h1, h2⟩ := okZ_get h i k' e
      rw [CK.beq_eq ha] at h2
      simp [At.den, h1, h2]
    · cases ha
  | k d => exact ha
theorem tyA_ext {G : List CK} {env : List D} (h : okZ G env = true) {a : At} {k : CK} (ha : tyA G a k = true) (ds : List D) : a.den (env ++ ds) = a.den env := by
  cases a with
  | v i =>
    simp only [tyA] at ha
    split at ha
    · rename_i k' e
      obtain ⟨d, h1, h2⟩ := okZ_get h i k' e
      simp [At.den, h1, List.getElem?_append_left (show i < env.length by
        rcases Nat.lt_or_ge i env.length with g | g
        · exact g
        · rw [List.getElem?_eq_none g] at h1; cases h1)]
    · cases ha
  | k d => rfl
theorem tyAs_ok {G : List CK} {env : List D} (h : okZ G env = true) : ∀ {as : List At} {ks : List CK}, tyAs G as ks = true → okZ ks (as.map (At.den env)) = true
  | [], [], _ => rfl
  | [], _ :: _, h => by simp [tyAs] at h
  | _ :: _, [], h => by simp [tyAs] at h
  | a :: as, k :: ks, h' => by
    simp only [tyAs, Bool.and_eq_true] at h'
    simp only [List.map_cons, okZ, Bool.and_eq_true]
    exact ⟨tyA_ok h h'.1, tyAs_ok h h'.2⟩
theorem okZ_snoc : ∀ {G : List CK} {env : List D} {k : CK} {d : D}, okZ G env = true → okC k d = true → okZ (G ++ [k]) (env ++ [d]) = true
  | [], [], k, d, _, h => by simp [okZ, h]
  | [], _ :: _, _, _, h, _ => by simp [okZ] at h
  | _ :: _, [], _, _, h, _ => by simp [okZ] at h
  | g :: gs, x :: xs, k, d, h, hk => by
    simp only [okZ, Bool.and_eq_true, List.cons_append] at h ⊢
    exact ⟨h.1, okZ_snoc h.2 hk⟩
theorem okZ_app : ∀ {G K : List CK} {env ds : List D}, okZ G env = true → okZ K ds = true → okZ (G ++ K) (env ++ ds) = true
  | [], K, [], ds, _, h => by simpa using h
  | [], _, _ :: _, _, h, _ => by simp [okZ] at h
  | _ :: _, _, [], _, h, _ => by simp [okZ] at h
  | g :: gs, K, x :: xs, ds, h, hk => by
    simp only [okZ, Bool.and_eq_true, List.cons_append] at h ⊢
    exact ⟨h.1, okZ_app h.2 hk⟩
/-! ### letters in use -/
mutual
/-- All data named in it are named already, and of the kinds said. -/
def SV.wt (G : List CK) : SV → Bool
  | .dat k a => tyA G a k
  | .lz q e a => tyA G a (.sl e)
  | .ifc a => tyA G a .bool
  | .ptrE _ ix _ _ => tyA G ix (.int .i64)
  | .sl _ lo m _ => tyA G lo (.int .i64) && tyA G m (.int .i64)
  | .slD _ e a ix _ => tyA G a (.sl e) && tyA G ix (.int .i64)
  | .pfz _ e a ix _ => tyA G a (.sl e) && tyA G ix (.int .i64)
  | .agg xs => SV.wts G xs
  | .tup xs => SV.wts G xs
  | .fn _ xs => SV.wts G xs
  | _ => true
def SV.wts (G : List CK) : List SV → Bool
  | [] => true
  | x :: xs => SV.wt G x && SV.wts G xs
end
mutual
/-- The data are of the kinds said. -/
def SV.good (env : List D) : SV → Bool
  | .dat k a => okC k (a.den env)
  | .lz q e a => okC (.sl e) (a.den env)
  | .ifc a => okC .bool (a.den env)
  | .ptrE _ ix _ _ => okC (.int .i64) (ix.den env)
  | .sl _ lo m _ => okC (.int .i64) (lo.den env) && okC (.int .i64) (m.den env)
  | .slD _ e a ix _ => okC (.sl e) (a.den env) && okC (.int .i64) (ix.den env)
  | .pfz _ e a ix _ => okC (.sl e) (a.den env) && okC (.int .i64) (ix.den env)
  | .agg xs => SV.goods env xs
  | .tup xs => SV.goods env xs
  | .fn _ xs => SV.goods env xs
  | _ => true
def SV.goods (env : List D) : List SV → Bool
  | [] => true
  | x :: xs => SV.good env x && SV.goods env xs
end
theorem goods_iff {env : List D} {l : List SV} : SV.goods env l = true ↔ ∀ x ∈ l, x.good env = true := by
  induction l with
  | nil => simp [SV.goods]
  | cons x xs ih => simp [SV.goods, ih]
mutual
theorem SV.wt_good {G : List CK} {env : List D} (h : okZ G env = true) : ∀ {x : SV}, x.wt G = true → x.good env = true
  | .any, _ => rfl
  | .dat k a, k' => by simp only [SV.wt] at k'; simp only [SV.good]; exact tyA_ok h k'
  | .lz q e a, k' => by simp only [SV.wt] at k'; simp only [SV.good]; exact tyA_ok h k'
  | .K v, _ => rfl
  | .nilS, _ => rfl
  | .e0, _ => rfl
  | .ifc a, k' => by simp only [SV.wt] at k'; simp only [SV.good]; exact tyA_ok h k'
  | .ptr i o, _ => rfl
  | .ptrE i ix s off, k' => by simp only [SV.wt] at k'; simp only [SV.good]; exact tyA_ok h k'
  | .sl i lo m s, k' => by
    simp only [SV.wt, Bool.and_eq_true] at k'
    simp only [SV.good, Bool.and_eq_true]
    exact ⟨tyA_ok h k'.1, tyA_ok h k'.2⟩
  | .slD i e a ix c, k' => by
    simp only [SV.wt, Bool.and_eq_true] at k'
    simp only [SV.good, Bool.and_eq_true]
    exact ⟨tyA_ok h k'.1, tyA_ok h k'.2⟩
  | .pfz l e a ix off, k' => by
    simp only [SV.wt, Bool.and_eq_true] at k'
    simp only [SV.good, Bool.and_eq_true]
    exact ⟨tyA_ok h k'.1, tyA_ok h k'.2⟩
  | .agg xs, k' => SV.wts_good h k'
  | .tup xs, k' => SV.wts_good h k'
  | .fn f xs, k' => SV.wts_good h k'
theorem SV.wts_good {G : List CK} {env : List D} (h : okZ G env = true) : ∀ {xs : List SV}, SV.wts G xs = true → SV.goods env xs = true
  | [], _ => rfl
  | x :: xs, k' => by
    simp only [SV.wts, Bool.and_eq_true] at k'
    simp only [SV.goods, Bool.and_eq_true]
    exact ⟨SV.wt_good h k'.1, SV.wts_good h k'.2⟩
end
mutual
theorem SV.wt_ext {G : List CK} {env : List D} (h : okZ G env = true) (ds : List D) : ∀ {x : SV}, x.wt G = true → x.den (env ++ ds) = x.den env
  | .any, _ => rfl
  | .dat k a, k' => by simp only [SV.wt] at k'; simp only [SV.den]; rw [tyA_ext h k']
  | .lz q e a, k' => by simp only [SV.wt] at k'; simp only [SV.den]; rw [tyA_ext h k']
  | .K v, _ => rfl
  | .nilS, _ => rfl
  | .e0, _ => rfl
  | .ifc a, k' => by simp only [SV.wt] at k'; simp only [SV.den]; rw [tyA_ext h k']
  | .ptr i o, _ => rfl
  | .ptrE i ix s off, k' => by simp only [SV.wt] at k'; simp only [SV.den]; rw [tyA_ext h k']
  | .sl i lo m s, k' => by
    simp only [SV.wt, Bool.and_eq_true] at k'
    simp only [SV.den]
    rw [tyA_ext h k'.1, tyA_ext h k'.2]
  | .slD i e a ix c, k' => by
    simp only [SV.wt, Bool.and_eq_true] at k'
    simp only [SV.den]
    rw [tyA_ext h k'.1, tyA_ext h k'.2]
  | .pfz l e a ix off, k' => by
    simp only [SV.wt, Bool.and_eq_true] at k'
    simp only [SV.den]
    rw [tyA_ext h k'.1, tyA_ext h k'.2]
  | .agg xs, k' => by simp only [SV.wt] at k'; simp only [SV.den]; rw [SV.wts_ext h ds k']
  | .tup xs, k' => by simp only [SV.wt] at k'; simp only [SV.den]; rw [SV.wts_ext h ds k']
  | .fn f xs, k' => by simp only [SV.wt] at k'; simp only [SV.den]; rw [SV.wts_ext h ds k']
theorem SV.wts_ext {G : List CK} {env : List D} (h : okZ G env = true) (ds : List D) : ∀ {xs : List SV}, SV.wts G xs = true → SV.dens (env ++ ds) xs = SV.dens env xs
  | [], _ => rfl
  | x :: xs, k' => by
    simp only [SV.wts, Bool.and_eq_true] at k'
    simp only [SV.dens]
    rw [SV.wt_ext h ds k'.1, SV.wts_ext h ds k'.2]
end
mutual
theorem SV.good_ext {G : List CK} {env : List D} (h : okZ G env = true) (ds : List D) : ∀ {x : SV}, x.wt G = true → x.good (env ++ ds) = true
  | .any, _ => rfl
  | .dat k a, k' => by simp only [SV.wt] at k'; simp only [SV.good]; rw [tyA_ext h k']; exact tyA_ok h k'
  | .lz q e a, k' => by simp only [SV.wt] at k'; simp only [SV.good]; rw [tyA_ext h k']; exact tyA_ok h k'
  | .K v, _ => rfl
  | .nilS, _ => rfl
  | .e0, _ => rfl
  | .ifc a, k' => by simp only [SV.wt] at k'; simp only [SV.good]; rw [tyA_ext h k']; exact tyA_ok h k'
  | .ptr i o, _ => rfl
  | .ptrE i ix s off, k' => by simp only [SV.wt] at k'; simp only [SV.good]; rw [tyA_ext h k']; exact tyA_ok h k'
  | .sl i lo m s, k' => by
    simp only [SV.wt, Bool.and_eq_true] at k'
    simp only [SV.good, Bool.and_eq_true]
    rw [tyA_ext h k'.1, tyA_ext h k'.2]
    exact ⟨tyA_ok h k'.1, tyA_ok h k'.2⟩
  | .slD i e a ix c, k' => by
    simp only [SV.wt, Bool.and_eq_true] at k'
    simp only [SV.good, Bool.and_eq_true]
    rw [tyA_ext h k'.1, tyA_ext h k'.2]
    exact ⟨tyA_ok h k'.1, tyA_ok h k'.2⟩
  | .pfz l e a ix off, k' => by
    simp only [SV.wt, Bool.and_eq_true] at k'
    simp only [SV.good, Bool.and_eq_true]
    rw [tyA_ext h k'.1, tyA_ext h k'.2]
    exact ⟨tyA_ok h k'.1, tyA_ok h k'.2⟩
  | .agg xs, k' => SV.goods_ext h ds k'
  | .tup xs, k' => SV.goods_ext h ds k'
  | .fn f xs, k' => SV.goods_ext h ds k'
theorem SV.goods_ext {G : List CK} {env : List D} (h : okZ G env = true) (ds : List D) : ∀ {xs : List SV}, SV.wts G xs = true → SV.goods (env ++ ds) xs = true
  | [], _ => rfl
  | x :: xs, k' => by
    simp only [SV.wts, Bool.and_eq_true] at k'
    simp only [SV.goods, Bool.and_eq_true]
    exact ⟨SV.good_ext h ds k'.1, SV.goods_ext h ds k'.2⟩
end
def SB.wt (G : List CK) : SB → Bool
  | .cells xs => SV.wts G xs
  | .arr w e a m => tyA G a (.sl e) && tyA G m (.int .i64) && (match w with
    | .ow (some (ix, _)) => tyA G ix (.int .i64)
    | _ => true)
def wtT (G : List CK) : List (Nat × SV) → Bool
  | [] => true
  | (_, x) :: r => x.wt G && wtT G r
def wtH (G : List CK) : List (Nat × SB) → Bool
  | [] => true
  | (_, b) :: r => b.wt G && wtH G r
def SS.wt (G : List CK) (σ : SS) : Bool := wtT G σ.T && wtH G σ.H
/-- The state is of the kinds said. -/
structure SS.Good (env : List D) (σ : SS) : Prop where
  T : ∀ t, (tkS σ.T t).good env = true
  C : ∀ i xs, hgetS σ.H i = some (.cells xs) → SV.goods env xs = true
  A : ∀ i w e a n, hgetS σ.H i = some (.arr w e a n) → okC (.sl e) (a.den env) = true ∧ n.den env = .i (a.den env).items.length
/-- How many elements a block has, as said. -/
def SInv (env : List D) (σ : SS) : Prop := ∀ i w e a n, hgetS σ.H i = some (.arr w e a n) → n.den env = .i (a.den env).items.length
theorem wtT_get {G : List CK} : ∀ {T : List (Nat × SV)}, wtT G T = true → ∀ t, (tkS T t).wt G = true
  | [], _, t => rfl
  | (d, x) :: r, h, t => by
    simp only [wtT, Bool.and_eq_true] at h
    simp only [tkS]
    split
    · exact h.1
    · exact wtT_get h.2 t
theorem wtH_get {G : List CK} : ∀ {H : List (Nat × SB)}, wtH G H = true → ∀ i b, hgetS H i = some b → b.wt G = true
  | [], _, i, b, hb => by cases hb
  | (d, x) :: r, h, i, b, hb => by
    simp only [wtH, Bool.and_eq_true] at h
    simp only [hgetS] at hb
    split at hb
    · obtain rfl := Option.some.inj hb; exact h.1
    · exact wtH_get h.2 i b hb
theorem SS.wt_good {G : List CK} {env : List D} (h : okZ G env = true) {σ : SS} (hw : σ.wt G = true) (hi : SInv env σ) (ds : List D) : σ.den (env ++ ds) = σ.den env ∧ σ.Good (env ++ ds) := by
  simp only [SS.wt, Bool.and_eq_true] at hw
  have h1 : ∀ T, wtT G T = true → denT (env ++ ds) T = denT env T := by
    intro T
    induction T with
    | nil => intro _; rfl
    | cons p r ih =>
      obtain ⟨t, x⟩ := p
      intro h'
      simp only [wtT, Bool.and_eq_true] at h'
      simp only [denT]
      rw [SV.wt_ext h ds h'.1, ih h'.2]
  have h2 : ∀ H, wtH G H = true → denH (env ++ ds) H = denH env H := by
    intro H
    induction H with
    | nil => intro _; rfl
    | cons p r ih =>
      obtain ⟨t, x⟩ := p
      intro h'
      simp only [wtH, Bool.and_eq_true] at h'
      simp only [denH]
      rw [ih h'.2]
      have hx : x.den (env ++ ds) t = x.den env t ∧ x.more (env ++ ds) t = x.more env t := by
        cases x with
        | cells xs => exact ⟨SV.wts_ext h ds h'.1, rfl⟩
        | arr w e a n =>
          have h'' := h'.1
          simp only [SB.wt, Bool.and_eq_true] at h''
          cases w with
          | pl =>
            exact ⟨by simp only [SB.den]; rw [tyA_ext h h''.1.1], rfl⟩
          | ow hh =>
            simp only [SB.den, SB.more]
            rw [tyA_ext h h''.1.1]
            refine ⟨rfl, ?_⟩
            cases hh with
            | none => rfl
            | some q =>
              obtain ⟨ix, cs⟩ := q
              congr 1
              funext p
              simp only [holeB]
              rw [tyA_ext h (by simpa using h''.2)]
      rw [hx.1, hx.2]
  refine ⟨by simp only [SS.den]; rw [h1 _ hw.1, h2 _ hw.2], fun t => SV.good_ext h ds (wtT_get hw.1 t), fun i xs hx => SV.goods_ext h ds (wtH_get hw.2 i _ hx), fun i w e a n hx => ?_⟩
  have h' := wtH_get hw.2 i _ hx
  simp only [SB.wt, Bool.and_eq_true] at h'
  rw [tyA_ext h h'.1.1, tyA_ext h h'.1.2]
  exact ⟨tyA_ok h h'.1.1, hi i w e a n hx⟩
theorem okZ_len {G : List CK} {env : List D} (h : okZ G env = true) : G.length = env.length := (okZ_length h).symm
end Go.BH

/- Operations on whole numbers, truths, texts and structs of whole numbers, one by one. -/
set_option linter.unusedVariables false
set_option linter.unusedSimpArgs false
namespace Go.BH
open Go.RowKit
section
variable {P : Program} {E : En} {σ : St} {o : Oper} {kp : Nat → Bool}
theorem eqGuard_int {op : BinOp} {t : TypeId} {x y : Operand} {k k' : IntKind} {a b : Int} (w : World) : (eqGuard op t x y (.int k a) (.int k' b)).run P w = .ok () w := by
  unfold eqGuard
  split <;> rfl
theorem eqGuard_bool {op : BinOp} {t : TypeId} {x y : Operand} {a b : Bool} (w : World) : (eqGuard op t x y (.bool a) (.bool b)).run P w = .ok () w := by
  unfold eqGuard
  split <;> rfl
theorem eqGuard_str {op : BinOp} {t : TypeId} {x y : Operand} {a b : ByteArray} (w : World) : (eqGuard op t x y (.string a) (.string b)).run P w = .ok () w := by
  unfold eqGuard
  split <;> rfl
theorem OP.int {op : BinOp} {t t' : TypeId} {x y : Operand} {k : IntKind} {a b r : Int} (ho : o.op = .binOp op t x y t') (hx : σ.ev x = .v (.int k a)) (hy : σ.ev y = .v (.int k b)) (h : binI op k a b = some r) : OP P E kp o σ (.v (.int k r)) :=
  .bin ho hx hy (fun w => by
    simp only [Sem.run_bind, eqGuard_int, Result.andThen_ok]
    unfold binI at h
    split at h
    all_goals first
      | (obtain rfl := Option.some.inj h; simp [binOp, Op.intArith, Op.intBits]; done)
      | (split at h
         · cases h
         · rename_i hb
           obtain rfl := Option.some.inj h
           simp [binOp, Op.intDiv, hb])
      | cases h)
theorem OP.cmp {op : BinOp} {t t' : TypeId} {x y : Operand} {k : IntKind} {a b : Int} {r : Bool} (ho : o.op = .binOp op t x y t') (hx : σ.ev x = .v (.int k a)) (hy : σ.ev y = .v (.int k b)) (h : cmpI op a b = some r) : OP P E kp o σ (.v (.bool r)) :=
  .bin ho hx hy (fun w => by
    simp only [Sem.run_bind, eqGuard_int, Result.andThen_ok]
    unfold cmpI at h
    split at h
    all_goals first
      | (obtain rfl := Option.some.inj h; simp [binOp, Op.intCmp]; done)
      | cases h)
theorem OP.sh {op : BinOp} {t t' : TypeId} {x y : Operand} {k k' : IntKind} {a b r : Int} (ho : o.op = .binOp op t x y t') (hx : σ.ev x = .v (.int k a)) (hy : σ.ev y = .v (.int k' b)) (h : shI op k a b = some r) : OP P E kp o σ (.v (.int k r)) :=
  .bin ho hx hy (fun w => by
    simp only [Sem.run_bind, eqGuard_int, Result.andThen_ok]
    unfold shI at h
    split at h
    · cases h
    · rename_i hb
      split at h
      all_goals first
        | (obtain rfl := Option.some.inj h; simp [binOp, Op.shift, hb]; done)
        | cases h)
theorem OP.str {op : BinOp} {t t' : TypeId} {x y : Operand} {a b : ByteArray} {r : Bool} (ho : o.op = .binOp op t x y t') (hx : σ.ev x = .v (.string a)) (hy : σ.ev y = .v (.string b)) (h : cmpT op a b = some r) : OP P E kp o σ (.v (.bool r)) :=
  .bin ho hx hy (fun w => by
    simp only [Sem.run_bind, eqGuard_str, Result.andThen_ok]
    unfold cmpT at h
    split at h
    all_goals first
      | (obtain rfl := Option.some.inj h; simp [binOp, Op.stringOp]; done)
      | cases h)
theorem OP.cat {t t' : TypeId} {x y : Operand} {a b : ByteArray} (ho : o.op = .binOp .add t x y t') (hx : σ.ev x = .v (.string a)) (hy : σ.ev y = .v (.string b)) (h : ¬ ((a.size + b.size : Nat) : Int) > 9223372036854775807) : OP P E kp o σ (.v (.string (a ++ b))) :=
  .bin ho hx hy (fun w => by
    simp only [Sem.run_bind, eqGuard_str, Result.andThen_ok]
    have h' : ¬ ((a.size + b.size : Nat) : Int) > IntKind.i64.max := h
    simp only [binOp, Op.stringOp, if_neg h', Sem.run_pure])
theorem equalIn_bool {t : TypeId} {a b : Bool} (w : World) (d : Nat) (ht : P.underlying t = some .bool) : (Op.equalIn (d + 1) t (.bool a) (.bool b)).run P w = .ok (a == b) w := by
  unfold Op.equalIn
  simp only [Sem.run_bind, run_underlying ht, Result.andThen_ok, Sem.run_pure]
theorem OP.eqb {op : BinOp} {t t' : TypeId} {x y : Operand} {a b r : Bool} (ho : o.op = .binOp op t x y t') (ht : P.underlying t = some .bool) (hx : σ.ev x = .v (.bool a)) (hy : σ.ev y = .v (.bool b)) (h : (op = .eql ∧ r = (a == b)) ∨ (op = .neq ∧ r = !(a == b))) : OP P E kp o σ (.v (.bool r)) :=
  .bin ho hx hy (fun w => by
    simp only [Sem.run_bind, eqGuard_bool, Result.andThen_ok]
    have he : (Op.equal t (.bool a) (.bool b)).run P w = .ok (a == b) w := equalIn_bool w 9999 ht
    rcases h with ⟨rfl, rfl⟩ | ⟨rfl, rfl⟩ <;> simp only [binOp, Sem.run_bind, he, Result.andThen_ok, Sem.run_pure])
theorem OP.convI {s d : TypeId} {x : Operand} {k k' : IntKind} {a : Int} {u : TypeDesc} (ho : o.op = .convert s d x) (hs : P.underlying s = some u) (hd : P.underlying d = some (.int k')) (hx : σ.ev x = .v (.int k a)) : OP P E kp o σ (.v (.int k' (k'.wrap a))) :=
  .conv ho hx (fun w => by
    simp [convert, run_underlying hs, run_underlying hd, Conv.intToInt])
/-! ### structs of whole numbers, compared -/
def fstP (ps : List (IntKind × Int × Int)) : List Value := ps.map fun p => .int p.1 p.2.1
def sndP (ps : List (IntKind × Int × Int)) : List Value := ps.map fun p => .int p.1 p.2.2
def allEq : List (IntKind × Int × Int) → Bool
  | [] => true
  | p :: r => (p.2.1 == p.2.2) && allEq r
theorem eqFields_run (w : World) (d : Nat) (all : List (IntKind × Int × Int)) : ∀ (fs : List Field) (m : Nat), fs.map (·.offset) = List.range' m fs.length → fs.all (intF P) = true → m + fs.length = all.length →
    (Op.eqFields (d + 1) (fstP all).toArray (sndP all).toArray fs).run P w = .ok (allEq (all.drop m)) w
  | [], m, _, _, h => by
    simp only [List.length_nil, Nat.add_zero] at h
    subst h
    simp [Op.eqFields, allEq]
  | f :: fs, m, ho, hi, h => by
    simp only [List.map_cons, List.length_cons, List.range'_succ, List.cons.injEq] at ho
    simp only [List.all_cons, Bool.and_eq_true] at hi
    simp only [List.length_cons] at h
    obtain ⟨ho1, ho2⟩ := ho
    have hm : m < all.length := by omega
    have hd : all.drop m = all[m] :: all.drop (m + 1) := List.drop_eq_getElem_cons hm
    have hx : (fstP all).toArray[m]? = some (.int all[m].1 all[m].2.1) := by simp [fstP, hm]
    have hy : (sndP all).toArray[m]? = some (.int all[m].1 all[m].2.2) := by simp [sndP, hm]
    have ih := eqFields_run w d all fs (m + 1) ho2 hi.2 (by omega)
    have hf := hi.1
    unfold intF at hf
    split at hf
    · rename_i k hu
      have p1 : (part f.type (fstP all).toArray f.offset).run P w = .ok (.int all[m].1 all[m].2.1) w := by
        simp [part, isAgg, run_underlying hu, ho1, hx]
      have p2 : (part f.type (sndP all).toArray f.offset).run P w = .ok (.int all[m].1 all[m].2.2) w := by
        simp [part, isAgg, run_underlying hu, ho1, hy]
      have hn : f.name ≠ "_" := by simpa using hf
      simp only [Op.eqFields, hn, ne_eq, not_false_eq_true, if_true, Sem.run_bind, p1, p2, Result.andThen_ok, run_equalIn_int w d f.type _ k _ _ hu, Sem.run_ite, ih, hd, allEq]
      cases e : (all[m].2.1 == all[m].2.2) <;> simp
    · cases hf
theorem eqInts_run {t : TypeId} {ps : List (IntKind × Int × Int)} (h : eqIntsB P t ps.length = true) (x y : Operand) (w : World) :
    (∀ o, (eqGuard o t x y (.agg (fstP ps).toArray) (.agg (sndP ps).toArray)).run P w = .ok () w) ∧ (binOp .eql t (.agg (fstP ps).toArray) (.agg (sndP ps).toArray)).run P w = .ok (.bool (allEq ps)) w ∧ (binOp .neq t (.agg (fstP ps).toArray) (.agg (sndP ps).toArray)).run P w = .ok (.bool (!allEq ps)) w := by
  unfold eqIntsB at h
  simp only [Bool.and_eq_true, Bool.not_eq_true'] at h
  obtain ⟨⟨h1, h2⟩, h3⟩ := h
  split at h3
  · rename_i fs hu
    simp only [Bool.and_eq_true, beq_iff_eq] at h3
    have hfo : P.fieldsOf t = fs := by simp [Program.fieldsOf, hu]
    have hlen : fs.toList.length = ps.length := by
      have := congrArg List.length h3.1
      simpa using this
    have hr : (Op.equalIn 10000 t (.agg (fstP ps).toArray) (.agg (sndP ps).toArray)).run P w = .ok (allEq ps) w := by
      rw [run_equalIn_agg w 9999 t _ _ (by rw [hfo]; exact hu) h2, hfo]
      simpa using eqFields_run w 9998 ps fs.toList 0 (by rw [hlen]; exact h3.1) h3.2 (by omega)
    refine ⟨fun o => run_eqGuard_agg w o t x y _ _ h1, ?_, ?_⟩
    · rw [run_eql_struct, hr]; rfl
    · rw [run_neq_struct, hr]; rfl
  · cases h3
theorem VR.vals_agg {μ : Mu} {l : List Value} {c : Value} (h : VR μ (.agg (vals l)) c) : c = .agg l.toArray := by
  cases h with
  | agg h =>
    rename_i cs
    have : ∀ (l cs : List Value), VRs μ (vals l) cs → cs = l := by
      intro l
      induction l with
      | nil => intro cs h; cases h; rfl
      | cons x xs ih => intro cs h; cases h with | cons a b => rw [a.val, ih _ b]
    rw [this _ _ h]
theorem OP.binAgg {op : BinOp} {t t' : TypeId} {x y : Operand} {ps : List (IntKind × Int × Int)} {r : Bool} (ho : o.op = .binOp op t x y t') (hx : σ.ev x = .agg (vals (fstP ps))) (hy : σ.ev y = .agg (vals (sndP ps))) (h : eqIntsB P t ps.length = true) (hop : (op = .eql ∧ r = allEq ps) ∨ (op = .neq ∧ r = !allEq ps)) : OP P E kp o σ (.v (.bool r)) := fun μ a w hi => by
  have h1 := hi.ev x
  have h2 := hi.ev y
  rw [hx] at h1
  rw [hy] at h2
  refine ⟨_, .v _, fun w' _ => ?_⟩
  obtain ⟨e1, e2, e3⟩ := eqInts_run h x y w'
  rcases hop with ⟨rfl, rfl⟩ | ⟨rfl, rfl⟩
  · simp only [execOp, ho, h1.vals_agg, h2.vals_agg, Sem.run_bind, e1, e2, Result.andThen_ok, Sem.run_pure]
  · simp only [execOp, ho, h1.vals_agg, h2.vals_agg, Sem.run_bind, e1, e3, Result.andThen_ok, Sem.run_pure]
/-- An interface value compared with nil. -/
theorem VR.ifc {μ : Mu} {b : Bool} {c : Value} (h : VR μ (ifcA (.b b)) c) : (b = true ∧ c = .nilIface) ∨ (b = false ∧ ∃ t x, c = .iface t x) := by
  cases b with
  | true => exact .inl ⟨rfl, VR.val h⟩
  | false =>
    have h' : VR μ .ifs c := h
    cases h' with
    | ifs t x => exact .inr ⟨rfl, t, x, rfl⟩
theorem OP.ifcNil {op : BinOp} {t t' : TypeId} {x : Operand} {b r : Bool} {ms : Array (String × TypeId)} (ho : o.op = .binOp op t x (.const .nilIface) t') (ht : P.underlying t = some (.interface ms)) (hx : σ.ev x = ifcA (.b b)) (h : (op = .eql ∧ r = b) ∨ (op = .neq ∧ r = !b)) : OP P E kp o σ (.v (.bool r)) := fun μ a w hi => by
  have hv := hi.ev x
  rw [hx] at hv
  have hm : P.underlying t = some (.interface (P.methodsAt t)) := by simp [Program.methodsAt, ht]
  have hy : a.eval (.const .nilIface) = .nilIface := rfl
  refine ⟨.bool r, .v _, fun w' _ => ?_⟩
  rcases hv.ifc with ⟨rfl, hc⟩ | ⟨rfl, u, z, hc⟩
  · rcases h with ⟨rfl, rfl⟩ | ⟨rfl, rfl⟩
    · simp only [execOp, ho, hc, hy, eqGuard_nil_constR, Sem.run_bind, Sem.run_pure, Result.andThen_ok, run_eql_nil_nil w' t hm]
    · simp only [execOp, ho, hc, hy, eqGuard_nil_constR, Sem.run_bind, Sem.run_pure, Result.andThen_ok, run_neq_nil_nil w' t hm, Bool.not_true]
  · rcases h with ⟨rfl, rfl⟩ | ⟨rfl, rfl⟩
    · simp only [execOp, ho, hc, hy, eqGuard_at_iface, Sem.run_bind, Sem.run_pure, Result.andThen_ok, run_eql_held_nil w' t u z hm]
    · simp only [execOp, ho, hc, hy, eqGuard_at_iface, Sem.run_bind, Sem.run_pure, Result.andThen_ok, run_neq_held_nil w' t u z hm, Bool.not_false]
/-! ### nil checks, function values -/
theorem OP.nilPtr {x : Operand} {i k : Nat} (ho : o.op = .nilCheck x) (hx : σ.ev x = .ptr i k) : OP P E kp o σ (.ptr i k) := fun μ a w hi => by
  have h := hi.ev x
  rw [hx] at h
  generalize hc : a.eval x = c at h
  cases h with
  | ptr hm => exact ⟨_, .ptr hm, fun w' _ => by simp [execOp, ho, hc]⟩
theorem OP.nilPfz {x : Operand} {l : Bool} {xs : List AV} (ho : o.op = .nilCheck x) (hx : σ.ev x = .pfz l xs) : OP P E kp o σ (.pfz l xs) := fun μ a w hi => by
  have h := hi.ev x
  rw [hx] at h
  generalize hc : a.eval x = c at h
  cases h with
  | pfz hm hk => exact ⟨_, .pfz hm hk, fun w' _ => by simp [execOp, ho, hc]⟩
theorem OP.nilFn {x : Operand} {f : FuncId} {xs : List AV} (ho : o.op = .nilCheck x) (hx : σ.ev x = .fn (.func f) xs) : OP P E kp o σ (.fn (.func f) xs) := fun μ a w hi => by
  have h := hi.ev x
  rw [hx] at h
  generalize hc : a.eval x = c at h
  cases h with
  | fn hm => exact ⟨_, .fn hm, fun w' _ => by simp [execOp, ho, hc]⟩
theorem OP.makeFunc {f : FuncId} {caps : List Operand} (ho : o.op = .makeFunc (.func f) #[] caps.toArray) : OP P E kp o σ (.fn (.func f) (evs σ caps)) := fun μ a w hi =>
  ⟨.func (.func f) #[] (caps.map a.eval).toArray, .fn (hi.evs caps), fun w' _ => by simp [execOp, ho, Instr.makeFunc]⟩
/-- Text of bytes. -/
theorem OP.bstr {s d e : TypeId} {x : Operand} {ns : List Int} {news : List AV} {m : Nat} (ho : o.op = .convert s d x) (hs : P.underlying s = some (.slice e)) (he : P.underlying e = some (.int .u8)) (hd : P.underlying d = some .string) (hy : Src σ 1 (σ.ev x) m news) (hn : news = vals (ns.map (Value.int .u8)))
    (hst : ∀ i k n s', σ.ev x = .sl i k n s' → i.2 = 0 ∧ kp i.1 = true) : OP P E kp o σ (.v (.string (ns.foldl (fun r n => r.push (UInt8.ofNat n.toNat)) ByteArray.empty))) := fun μ a w hi => by
  have hv := hi.ev x
  have hvals : ∀ {l : List Value} {cs : List Value}, VRs μ (vals l) cs → cs = l := by
    intro l
    induction l with
    | nil => intro cs h; cases h; rfl
    | cons x xs ih => intro cs h; cases h with | cons a b => rw [a.val, ih b]
  refine ⟨_, .v _, fun w' hw' => ?_⟩
  have key : ∃ b n l, a.eval x = .slice b m n ∧ l.length = m ∧ VRs μ news l ∧ (0 < m → ∃ p, b = some p ∧ ∀ (j : Nat) (v : Value), l[j]? = some v → w'.cell? (p.add j) = some v) := by
    cases hy' : σ.ev x with
    | sl i k n s' =>
      obtain ⟨h20, hk⟩ := hst i k n s' hy'
      obtain ⟨i, r0⟩ := i
      obtain rfl : r0 = 0 := h20
      rw [hy'] at hy hv
      cases hy with
      | @sl _ _ _ cs hg hle =>
        rcases Nat.eq_zero_or_pos m with e0 | e0
        · subst e0
          generalize a.eval x = c at hv ⊢
          cases hv with
          | sl hm hc he' => exact ⟨_, _, [], rfl, rfl, by simp; exact .nil, by omega⟩
          | sl0 A => exact ⟨_, _, [], rfl, rfl, by simp; exact .nil, by omega⟩
        · obtain ⟨b, hb⟩ := hi.heap.there i cs hg (fun h0 => by rw [h0] at hle; simp at hle; omega)
          obtain ⟨c0, t0, g1, g2, g3, g4⟩ := hi.heap.own i cs hg b hb
          have hrel := (rel_cells g4 (by omega)).seg k (m * 1)
          rw [take_drop_take _ _ _ _ hle, List.drop_drop] at hrel
          obtain ⟨hll, hcell⟩ := seg_cells (w := w) (k := b.base + k) (n := m * 1) g1 (by omega)
          generalize a.eval x = c at hv ⊢
          cases hv with
          | sl hm hcap he' =>
            rename_i d'
            obtain rfl : b = d' := Option.some.inj (hb.symm.trans hm)
            refine ⟨_, _, _, rfl, by rw [hll]; omega, hrel, fun _ => ⟨_, rfl, fun j v hj => ?_⟩⟩
            rw [addr_add, ← cell_block (hw'.own i hk b hb)]
            exact hcell j v hj
          | sl0 => omega
    | fz l s' n xs =>
      rw [hy'] at hy hv
      cases hy with
      | fz hl =>
        generalize a.eval x = c at hv ⊢
        cases hv with
        | @fz _ _ _ cap off b cs _ hr hl' hcap hk =>
          obtain ⟨c0, t0, r0, g1, g2⟩ := hi.heap.rd _ _ _ hr
          subst g2
          have hlen := hk.length
          refine ⟨_, _, _, rfl, by rw [hlen, hl]; omega, hk, fun _ => ⟨_, rfl, fun j v hj => ?_⟩⟩
          obtain ⟨h1, h2⟩ := take_get hj
          rw [addr_add, ← cell_block (hw'.rd _ _ _ hr)]
          exact cell_of g1 (by simpa using h1)
        | fz0 A c => exact ⟨_, _, [], rfl, rfl, .nil, by omega⟩
    | v y =>
      rw [hy'] at hy hv
      cases hy
      rw [hv.val]
      exact ⟨_, _, [], rfl, rfl, .nil, by omega⟩
    | e0 =>
      rw [hy'] at hy hv
      cases hy
      generalize a.eval x = c at hv ⊢
      cases hv
      exact ⟨_, _, [], rfl, rfl, .nil, by omega⟩
    | any => rw [hy'] at hy; cases hy
    | ptr => rw [hy'] at hy; cases hy
    | pfz => rw [hy'] at hy; cases hy
    | agg => rw [hy'] at hy; cases hy
    | tup => rw [hy'] at hy; cases hy
    | fn => rw [hy'] at hy; cases hy
    | ifs => rw [hy'] at hy; cases hy
  obtain ⟨b, n, l, hc, hl, hr, hp⟩ := key
  subst hn
  obtain rfl := hvals hr
  rw [List.length_map] at hl
  simp only [execOp, ho, Sem.run_bind, hc, run_convert_bytes_string w' s d e b m n hs he hd]
  rcases Nat.eq_zero_or_pos m with e0 | e0
  · have : ns = [] := List.eq_nil_of_length_eq_zero (by omega)
    subst this
    subst e0
    cases b with
    | none => simp [Conv.bytesToString]
    | some p =>
      rw [run_bytesToString w' p 0 n [] (by simp [loadCells, loadCellsFrom])]
      simp
  · obtain ⟨p, rfl, hcells⟩ := hp e0
    have hld := run_loadCells_list (P := P) w' p (ns.map (Value.int .u8)) hcells
    rw [List.length_map, hl] at hld
    rw [run_bytesToString w' p m n ns hld]
    simp
end
end Go.BH

/- Pure operations in letters. -/
set_option linter.unusedVariables false
set_option linter.unusedSimpArgs false
namespace Go.BH
open Go.RowKit
/-- One step of what a function computes: an operation on data, or a call. -/
inductive Nd where
  | pr (p : Pr) (xs : List At)
  | call (f : Nat) (xs : List At) (ps tys : List CK)
  deriving Inhabited
def Nd.tys : Nd → List CK
  | .pr p _ => [p.ty]
  | .call _ _ _ tys => tys
def tysOf : List Nd → List CK
  | [] => []
  | n :: r => n.tys ++ tysOf r
abbrev Fns := Nat → List D → Option (List D)
def runNd (G : Fns) : Nd → List D → Option (List D)
  | .pr p xs, env => match p.eval (xs.map (At.den env)) with
    | some d => some [d]
    | none => none
  | .call f xs _ _, env => G f (xs.map (At.den env))
def runNds (G : Fns) : List Nd → List D → Option (List D)
  | [], env => some env
  | n :: r, env => match runNd G n env with
    | some ds => runNds G r (env ++ ds)
    | none => none
def Fact (env : List D) (m : Nat) (p : Pr) (xs : List At) : Prop := p.eval (xs.map (At.den env)) = some ((At.v m).den env) ∧ okZ p.args (xs.map (At.den env)) = true
def Facts (Φ : Fns) (env : List D) : Nat → List Nd → Prop
  | _, [] => True
  | m, .pr p xs :: r => Fact env m p xs ∧ Facts Φ env (m + 1) r
  | m, .call f xs ps tys :: r => (okZ ps (xs.map (At.den env)) = true ∧ ∃ rs, Φ f (xs.map (At.den env)) = some rs ∧ okZ tys rs = true ∧ ∀ (j : Nat) (d : D), rs[j]? = some d → (At.v (m + j)).den env = d) ∧ Facts Φ env (m + tys.length) r
/-- What kinds a function takes and gives. -/
abbrev Kinds := Nat → Option (List CK × List CK)
def chkN (S : Kinds) (G : List CK) : List Nd → Bool
  | [] => true
  | .pr p xs :: r => p.wf && tyAs G xs p.args && chkN S (G ++ [p.ty]) r
  | .call f xs ps tys :: r => (match S f with
    | some (ps', rs) => tyAs G xs ps && CK.beqs ps' ps && CK.beqs rs tys
    | none => false) && chkN S (G ++ tys) r
def FnsOk (S : Kinds) (F : Fns) : Prop := ∀ f ps rs, S f = some (ps, rs) → ∀ vs ws, okZ ps vs = true → F f vs = some ws → okZ rs ws = true
theorem map_ext {G : List CK} {env : List D} (h : okZ G env = true) (ds : List D) : ∀ {as : List At} {ks : List CK}, tyAs G as ks = true → as.map (At.den (env ++ ds)) = as.map (At.den env)
  | [], _, _ => rfl
  | _ :: _, [], h' => by simp [tyAs] at h'
  | a :: as, k :: ks, h' => by
    simp only [tyAs, Bool.and_eq_true] at h'
    simp only [List.map_cons]
    rw [tyA_ext h h'.1, map_ext h ds h'.2]
theorem runNds_facts {Φ : Fns} {S : Kinds} (hF : FnsOk S Φ) : ∀ {nds : List Nd} {G : List CK} {env env' : List D}, chkN S G nds = true → okZ G env = true → runNds Φ nds env = some env' → okZ (G ++ tysOf nds) env' = true ∧ Facts Φ env' G.length nds ∧ ∃ ds, env' = env ++ ds
  | [], G, env, env', _, h, hr => by
    obtain rfl := Option.some.inj hr
    exact ⟨by simpa [tysOf] using h, trivial, [], by simp⟩
  | .call f xs ps0 tys :: r, G, env, env', hc, h, hr => by
    simp only [chkN, Bool.and_eq_true] at hc
    obtain ⟨h1, h3⟩ := hc
    split at h1
    · rename_i ps rs hS
      simp only [Bool.and_eq_true] at h1
      obtain ⟨⟨h1, h2'⟩, h2⟩ := h1
      obtain rfl := CK.beqs_eq h2
      obtain rfl := CK.beqs_eq h2'
      simp only [runNds, runNd] at hr
      have hargs := tyAs_ok h h1
      cases he : Φ f (xs.map (At.den env)) with
      | none => rw [he] at hr; cases hr
      | some ws =>
        rw [he] at hr
        have hws := hF f ps rs hS _ _ hargs he
        obtain ⟨k1, k2, ds, k3⟩ := runNds_facts hF h3 (okZ_app h hws) hr
        refine ⟨by simpa [tysOf, Nd.tys] using k1, ⟨⟨by rw [k3, List.append_assoc, map_ext h _ h1]; exact hargs, ws, ?_, hws, fun j d hj => ?_⟩, by simpa using k2⟩, ws ++ ds, by rw [k3]; simp⟩
        · rw [k3, List.append_assoc, map_ext h _ h1]
          exact he
        · have hlt : j < ws.length := by
            rcases Nat.lt_or_ge j ws.length with g | g
            · exact g
            · rw [List.getElem?_eq_none g] at hj; cases hj
          rw [k3, okZ_len h]
          simp only [At.den]
          rw [List.append_assoc, List.getElem?_append_right (by omega), Nat.add_sub_cancel_left, List.getElem?_append_left hlt, hj]
          rfl
    · cases h1
  | .pr p xs :: r, G, env, env', hc, h, hr => by
    simp only [chkN, Bool.and_eq_true] at hc
    obtain ⟨⟨h1, h2⟩, h3⟩ := hc
    simp only [runNds, runNd] at hr
    have hargs := tyAs_ok h h2
    cases he : p.eval (xs.map (At.den env)) with
    | none => rw [he] at hr; cases hr
    | some d =>
      rw [he] at hr
      have hd := Pr.ok h1 hargs he
      obtain ⟨k1, k2, ds, k3⟩ := runNds_facts hF h3 (okZ_snoc h hd) hr
      refine ⟨by simpa [tysOf, Nd.tys] using k1, ⟨?_, by simpa using k2⟩, d :: ds, by rw [k3]; simp⟩
      have hext : xs.map (At.den env') = xs.map (At.den env) := by
        rw [k3, List.append_assoc]
        exact map_ext h _ h2
      have hm : (At.v G.length).den env' = d := by
        rw [k3, okZ_len h]
        simp [At.den]
      exact ⟨by rw [hext, hm]; exact he, by rw [hext]; exact hargs⟩
/-! ### the operations -/
def whole (σ : SS) (i : Nat) (n : At) : Bool := match hgetS σ.H i with
  | some (.arr _ _ _ n') => (match n, n' with
    | .v a, .v b => Nat.beq a b
    | .k (.i a), .k (.i b) => decide (a = b)
    | _, _ => false)
  | _ => false
def isZ : At → Bool
  | .k (.i 0) => true
  | _ => false
/-- A slice by value. -/
def asSl : SV → Option (Lv × List CK × At)
  | .dat (.sl e) a => some (.good, e, a)
  | .lz true e a => some (.deep, e, a)
  | .lz false e a => some (.lent, e, a)
  | _ => none
def ofSl (l : Lv) (e : List CK) (a : At) : SV := match l with
  | .deep => .lz true e a
  | .lent => .lz false e a
  | .good => .dat (.sl e) a
theorem encC_sl (e : List CK) (xs : List D) : encC (.sl e) (.l xs) = .fz false e.length xs.length (encR e xs) := by rw [encC, encR]
theorem asSl_den {env : List D} {x : SV} {l : Lv} {e : List CK} {a : At} (h : asSl x = some (l, e, a)) (hg : x.good env = true) : ∃ xs, a.den env = .l xs ∧ (∀ y ∈ xs, okE e y = true) ∧ x.den env = .fz l.b e.length xs.length (lq l.q (encR e xs)) := by
  unfold asSl at h
  split at h
  · cases h
    obtain ⟨xs, h1, h2⟩ := okC_sl (show okC (.sl e) (a.den env) = true from hg)
    exact ⟨xs, h1, h2, by rw [SV.den, h1, encC_sl]; rfl⟩
  · cases h
    obtain ⟨xs, h1, h2⟩ := okC_sl (show okC (.sl e) (a.den env) = true from hg)
    exact ⟨xs, h1, h2, by simp only [SV.den, h1, D.items]; rfl⟩
  · cases h
    obtain ⟨xs, h1, h2⟩ := okC_sl (show okC (.sl e) (a.den env) = true from hg)
    exact ⟨xs, h1, h2, by simp only [SV.den, h1, D.items]; rfl⟩
  · cases h
theorem ofSl_den {env : List D} {l : Lv} {e : List CK} {a : At} {xs : List D} (h : a.den env = .l xs) : (ofSl l e a).den env = .fz l.b e.length xs.length (lq l.q (encR e xs)) := by
  cases l
  · rw [ofSl, SV.den, h, encC_sl]; rfl
  · simp only [ofSl, SV.den, h, D.items]; rfl
  · simp only [ofSl, SV.den, h, D.items]; rfl
/-- No slices among the cells. -/
def noSl : List CK → Bool
  | [] => true
  | .sl _ :: _ => false
  | _ :: r => noSl r
theorem encZ_noSl : ∀ {e : List CK} {ds : List D}, noSl e = true → AV.lnts (encZ e ds) = encZ e ds
  | [], ds, _ => by simp [encZ, AV.lnts]
  | k :: ks, [], h => by
    have h' : noSl ks = true := by cases k <;> first | exact h | simp [noSl] at h
    simp only [encZ, AV.lnts]
    rw [encZ_noSl h']
    rfl
  | k :: ks, d :: ds, h => by
    have h' : noSl ks = true := by cases k <;> first | exact h | simp [noSl] at h
    simp only [encZ, AV.lnts]
    rw [encZ_noSl h']
    congr 1
    cases k with
    | sl e => simp [noSl] at h
    | int k => cases d <;> simp [encC, AV.lnt]
    | bool => cases d <;> simp [encC, AV.lnt]
    | str => cases d <;> simp [encC, AV.lnt]
theorem encR_noSl {e : List CK} (h : noSl e = true) (xs : List D) (q : Bool) : lq q (encR e xs) = encR e xs := by
  cases q
  · rfl
  · show AV.lnts _ = _
    rw [lnts_map, encR, List.map_flatMap]
    congr 1
    funext d
    have := encZ_noSl (ds := row e d) h
    rwa [lnts_map] at this
def okLv (l : Lv) (e : List CK) : Bool := match l with
  | .deep => noSl e
  | _ => true
theorem okLv_enc {l : Lv} {e : List CK} (h : okLv l e = true) (xs : List D) : lq l.q (encR e xs) = encR e xs := by
  cases l
  · rfl
  · rfl
  · exact encR_noSl h xs true
theorem whole_inv {env : List D} {σ : SS} (hg : σ.Good env) {i : Nat} {n : At} (h : whole σ i n = true) : ∃ w e a n', hgetS σ.H i = some (.arr w e a n') ∧ n.den env = .i (a.den env).items.length := by
  unfold whole at h
  split at h
  · rename_i w e a n' hh
    refine ⟨w, e, a, n', hh, ?_⟩
    have := (hg.A i w e a n' hh).2
    split at h
    · obtain rfl := Nat.eq_of_beq_eq_true h
      exact this
    · have h' := of_decide_eq_true h
      subst h'
      exact this
    · cases h
  · cases h
def SV.cells : SV → List SV
  | .agg xs => xs
  | x => [x]
theorem SV.cells_den {env : List D} (x : SV) : (x.den env).cells = SV.dens env x.cells := by
  cases x with
  | dat k a =>
    simp only [SV.den, SV.cells, SV.dens]
    exact encC_cells k _
  | ifc a =>
    simp only [SV.den, SV.cells, SV.dens]
    unfold ifcA
    split <;> rfl
  | _ => rfl
/-- One cell's worth, in letters. -/
def SV.one : SV → Bool
  | .any => false
  | .agg _ => false
  | .tup _ => false
  | .K v => v.oneCell'
  | _ => true
theorem SV.one_den {env : List D} {x : SV} (h : x.one = true) (hg : x.good env = true) : (x.den env).one = true := by
  cases x with
  | dat k a => exact encC_one hg
  | K v => exact h
  | any => cases h
  | agg => cases h
  | tup => cases h
  | nilS => rfl
  | ifc a =>
    simp only [SV.den]
    unfold ifcA
    split <;> rfl
  | _ => rfl
def SV.ones : List SV → Bool
  | [] => true
  | x :: xs => x.one && SV.ones xs
theorem SV.ones_den {env : List D} : ∀ {xs : List SV}, SV.ones xs = true → SV.goods env xs = true → BH.ones (SV.dens env xs) = true
  | [], _, _ => rfl
  | x :: xs, h, hg => by
    simp only [SV.ones, Bool.and_eq_true] at h
    simp only [SV.goods, Bool.and_eq_true] at hg
    have := SV.ones_den h.2 hg.2
    simp only [BH.ones, SV.dens, List.all_cons, Bool.and_eq_true] at this ⊢
    exact ⟨SV.one_den h.1 hg.1, this⟩
/-- The cells js of element ix of the list a. -/
def getsN (e : List CK) (a ix : At) : List Nat → List Nd
  | [] => []
  | j :: js => .pr (.get e j) [a, ix] :: getsN e a ix js
def getsV (e : List CK) : Nat → List Nat → List SV
  | _, [] => []
  | m, j :: js => .dat (e.getD j .bool) (.v m) :: getsV e (m + 1) js
/-- .. of a list by value. -/
def valL (q : Bool) (e : List CK) (m j : Nat) : SV := match q, e.getD j .bool with
  | true, .sl e' => .lz true e' (.v m)
  | _, k => .dat k (.v m)
def getsL (q : Bool) (e : List CK) : Nat → List Nat → List SV
  | _, [] => []
  | m, j :: js => valL q e m j :: getsL q e (m + 1) js
theorem valL_den {env : List D} {q : Bool} {e : List CK} {m j : Nat} (hok : okC (e.getD j .bool) ((At.v m).den env) = true) : (valL q e m j).den env = (match q with
    | true => AV.lnt
    | false => id) (encC (e.getD j .bool) ((At.v m).den env)) := by
  unfold valL
  generalize e.getD j .bool = k at hok ⊢
  cases q with
  | false => simp [SV.den]
  | true =>
    cases k with
    | sl e' =>
      obtain ⟨xs, h1, _⟩ := okC_sl hok
      simp only [SV.den, h1, D.items, encC_sl, AV.lnt, lq]
    | int k =>
      obtain ⟨n, h1⟩ := okC_int hok
      simp only [SV.den]
      rw [h1]
      rw [encC]
      rfl
    | bool =>
      obtain ⟨n, h1⟩ := okC_bool hok
      simp only [SV.den]
      rw [h1]
      rw [encC]
      rfl
    | str =>
      obtain ⟨n, h1⟩ := okC_str hok
      simp only [SV.den]
      rw [h1]
      rw [encC]
      rfl
theorem get_ok {env : List D} {m : Nat} {e : List CK} {j : Nat} {a ix : At} (h : Fact env m (.get e j) [a, ix]) (hj : j < e.length) : okC (e.getD j .bool) ((At.v m).den env) = true := Pr.ok (p := .get e j) (by simpa [Pr.wf] using hj) h.2 h.1
theorem getsL_den {Φ : Fns} {env : List D} {q : Bool} {e : List CK} {a ix : At} : ∀ (n : Nat) {m j : Nat}, Facts Φ env m (getsN e a ix (List.range' j n)) → j + n ≤ e.length → SV.dens env (getsL q e m (List.range' j n)) = lq q (SV.dens env (getsV e m (List.range' j n)))
  | 0, m, j, _, _ => by simp [getsL, getsV, SV.dens, lq_nil]
  | n + 1, m, j, h, hle => by
    simp only [List.range'_succ, getsN, Facts] at h
    have ih := getsL_den (q := q) n h.2 (by omega)
    rw [lq_map] at ih
    simp only [List.range'_succ, getsL, getsV, SV.dens]
    rw [ih, valL_den (get_ok h.1 (by omega)), lq_map]
    rfl
theorem get_fact {env : List D} {m : Nat} {e : List CK} {j : Nat} {a ix : At} (h : Fact env m (.get e j) [a, ix]) (hj : j < e.length) : ∃ xs i d, a.den env = .l xs ∧ ix.den env = .i i ∧ 0 ≤ i ∧ xs[i.toNat]? = some d ∧ (row e d)[j]? = some ((At.v m).den env) ∧ (encR e xs)[i.toNat * e.length + j]? = some (encC (e.getD j .bool) ((At.v m).den env)) := by
  obtain ⟨h1, h2⟩ := h
  simp only [List.map_cons, List.map_nil, Pr.args, okZ, Bool.and_eq_true, Bool.and_true] at h1 h2
  obtain ⟨xs, hx, _⟩ := okC_sl h2.1
  obtain ⟨i, hi⟩ := okC_int h2.2
  rw [hx, hi] at h1
  simp only [Pr.eval] at h1
  split at h1
  · cases h1
  · rename_i hneg
    cases hd : xs[i.toNat]? with
    | none => rw [hd] at h1; cases h1
    | some d =>
      rw [hd] at h1
      simp only [Option.bind_some] at h1
      refine ⟨xs, i, d, hx, hi, by omega, hd, h1, ?_⟩
      rw [encR_get hd hj]
      have hk : e[j]? = some (e.getD j .bool) := by simp [List.getD, hj]
      exact encZ_get j hk h1
theorem gets_fact {Φ : Fns} {env : List D} {e : List CK} {a ix : At} : ∀ (n : Nat) {m j : Nat}, Facts Φ env m (getsN e a ix (List.range' j n)) → j + n ≤ e.length → n ≠ 0 → ∃ xs i, a.den env = .l xs ∧ ix.den env = .i i ∧ 0 ≤ i ∧ ((encR e xs).drop (i.toNat * e.length + j)).take n = SV.dens env (getsV e m (List.range' j n))
  | 0, _, _, _, _, h => absurd rfl h
  | n + 1, m, j, h, hle, _ => by
    simp only [List.range'_succ, getsN, Facts] at h
    obtain ⟨xs, i, d, h1, h2, h3, h4, h5, h6⟩ := get_fact h.1 (by omega)
    refine ⟨xs, i, h1, h2, h3, ?_⟩
    simp only [List.range'_succ, getsV, SV.dens, SV.den]
    have hlt : i.toNat * e.length + j < (encR e xs).length := by
      rcases Nat.lt_or_ge (i.toNat * e.length + j) (encR e xs).length with g | g
      · exact g
      · rw [List.getElem?_eq_none g] at h6; cases h6
    rw [List.drop_eq_getElem_cons hlt, List.take_succ_cons]
    rw [List.getElem?_eq_getElem hlt] at h6
    rw [Option.some.inj h6]
    congr 1
    rcases Nat.eq_zero_or_pos n with e0 | e0
    · subst e0; simp [getsV, SV.dens]
    · obtain ⟨xs', i', k1, k2, k3, k4⟩ := gets_fact n h.2 (by omega) (by omega)
      rw [h1] at k1
      cases k1
      rw [h2] at k2
      cases k2
      rw [← k4, Nat.add_assoc]
/-! ### rows that own their slices -/
theorem famZ_length (i : Nat) : ∀ (e : List CK) (ds : List D) (p : Nat), (famZ i p e ds).length = e.length
  | [], _, p => by simp [famZ]
  | k :: ks, [], p => by simp [famZ, famZ_length i ks]
  | k :: ks, d :: ds, p => by simp [famZ, famZ_length i ks]
theorem famR_length (i : Nat) (e : List CK) : ∀ (xs : List D) (p : Nat), (famR i e p xs).length = xs.length * e.length
  | [], p => by simp [famR]
  | d :: ds, p => by simp [famR, famZ_length, famR_length i e ds, Nat.add_mul]; omega
theorem famR_drop (i : Nat) (e : List CK) : ∀ (n : Nat) (xs : List D) (p : Nat), (famR i e p xs).drop (n * e.length) = famR i e (p + n * e.length) (xs.drop n)
  | 0, xs, p => by simp
  | n + 1, [], p => by simp [famR]
  | n + 1, d :: ds, p => by
    simp only [famR, List.drop_succ_cons]
    rw [List.drop_append, famZ_length, Nat.add_mul, Nat.one_mul, List.drop_eq_nil_of_le (by rw [famZ_length]; omega), List.nil_append, Nat.add_sub_cancel, famR_drop i e n ds, show p + e.length + n * e.length = p + (n * e.length + e.length) by omega]
theorem famZ_get {i : Nat} : ∀ {e : List CK} {ds : List D} (j : Nat) {p : Nat} {k : CK} {d : D}, e[j]? = some k → ds[j]? = some d → (famZ i p e ds)[j]? = some (encF i (p + j) k d)
  | [], ds, j, p, k, d, h, _ => by simp at h
  | _ :: _, [], j, p, k, d, _, h => by simp at h
  | k :: ks, d :: ds, 0, p, k', d', h1, h2 => by simp at h1 h2; subst h1; subst h2; rfl
  | k :: ks, d :: ds, j + 1, p, k', d', h1, h2 => by
    simp only [famZ, List.getElem?_cons_succ]
    rw [famZ_get j (p := p + 1) (by simpa using h1) (by simpa using h2), show p + 1 + j = p + (j + 1) by omega]
theorem famR_get {i : Nat} {e : List CK} {xs : List D} {r j : Nat} {d : D} (hi : xs[r]? = some d) (hj : j < e.length) : (famR i e 0 xs)[r * e.length + j]? = (famZ i (r * e.length) e (row e d))[j]? := by
  have h1 := famR_drop i e r xs 0
  have h2 : xs.drop r = d :: xs.drop (r + 1) := by
    have hlt : r < xs.length := by
      rcases Nat.lt_or_ge r xs.length with g | g
      · exact g
      · rw [List.getElem?_eq_none g] at hi; cases hi
    rw [List.drop_eq_getElem_cons hlt]
    rw [List.getElem?_eq_getElem hlt] at hi
    rw [Option.some.inj hi]
  rw [h2] at h1
  have h3 := congrArg (fun l => l[j]?) h1
  simp only [List.getElem?_drop] at h3
  rw [h3]
  simp only [famR, Nat.zero_add]
  rw [List.getElem?_append_left (by rw [famZ_length]; exact hj)]
/-- Cell j of row ix of block i. -/
def valO (i : Nat) (e : List CK) (a ix : At) (m j : Nat) : SV := match e.getD j .bool with
  | .sl _ => .slD i e a ix j
  | k => .dat k (.v m)
def getsO (i : Nat) (e : List CK) (a ix : At) : Nat → List Nat → List SV
  | _, [] => []
  | m, j :: js => valO i e a ix m j :: getsO i e a ix (m + 1) js
theorem valO_den {env : List D} {i m : Nat} {e : List CK} {j : Nat} {a ix : At} {xs : List D} {z : Int} {d x : D} (hj : j < e.length) (ha : a.den env = .l xs) (hz : ix.den env = .i z) (hd : xs[z.toNat]? = some d) (hx : (row e d)[j]? = some x) (hm : (At.v m).den env = x) (hok : okC (e.getD j .bool) x = true) : encF i (z.toNat * e.length + j) (e.getD j .bool) x = (valO i e a ix m j).den env := by
  have hk : e[j]? = some (e.getD j .bool) := by simp [List.getD, hj]
  unfold valO
  generalize hq : e.getD j .bool = q at hok hk
  cases q with
  | sl e' =>
    obtain ⟨ys, rfl, _⟩ := okC_sl hok
    simp only [encF, SV.den, ha, hz, D.nat, D.int, atRC, D.items, hd, hx, colE, hk]
  | int k => simp only [encF, SV.den, hm]
  | bool => simp only [encF, SV.den, hm]
  | str => simp only [encF, SV.den, hm]
theorem getO_fact {env : List D} {m : Nat} {e : List CK} {j i : Nat} {a ix : At} (h : Fact env m (.get e j) [a, ix]) (hj : j < e.length) : ∃ xs z, a.den env = .l xs ∧ ix.den env = .i z ∧ 0 ≤ z ∧ (famR i e 0 xs)[z.toNat * e.length + j]? = some ((valO i e a ix m j).den env) := by
  obtain ⟨xs, z, d, h1, h2, h3, h4, h5, _⟩ := get_fact h hj
  obtain ⟨_, g2⟩ := h
  simp only [List.map_cons, List.map_nil, Pr.args, okZ, Bool.and_eq_true, Bool.and_true] at g2
  obtain ⟨ys, e1, g3⟩ := okC_sl g2.1
  rw [h1] at e1
  cases e1
  have hk : e[j]? = some (e.getD j .bool) := by simp [List.getD, hj]
  obtain ⟨x, k1, k2⟩ := okZ_get (show okZ e (row e d) = true from g3 d (List.mem_of_getElem? h4)) j _ hk
  refine ⟨xs, z, h1, h2, h3, ?_⟩
  rw [famR_get h4 hj, famZ_get j hk k1]
  rw [h5] at k1
  rw [valO_den hj h1 h2 h4 (by rw [h5]; exact k1) (Option.some.inj k1) k2]
theorem getsO_fact {Φ : Fns} {env : List D} {e : List CK} {a ix : At} {i : Nat} : ∀ (n : Nat) {m j : Nat}, Facts Φ env m (getsN e a ix (List.range' j n)) → j + n ≤ e.length → n ≠ 0 → ∃ xs z, a.den env = .l xs ∧ ix.den env = .i z ∧ 0 ≤ z ∧ ((famR i e 0 xs).drop (z.toNat * e.length + j)).take n = SV.dens env (getsO i e a ix m (List.range' j n))
  | 0, _, _, _, _, h => absurd rfl h
  | n + 1, m, j, h, hle, _ => by
    simp only [List.range'_succ, getsN, Facts] at h
    obtain ⟨xs, z, h1, h2, h3, h6⟩ := getO_fact (i := i) h.1 (by omega)
    refine ⟨xs, z, h1, h2, h3, ?_⟩
    simp only [List.range'_succ, getsO, SV.dens]
    have hlt : z.toNat * e.length + j < (famR i e 0 xs).length := by
      rcases Nat.lt_or_ge (z.toNat * e.length + j) (famR i e 0 xs).length with g | g
      · exact g
      · rw [List.getElem?_eq_none g] at h6; cases h6
    rw [List.drop_eq_getElem_cons hlt, List.take_succ_cons]
    rw [List.getElem?_eq_getElem hlt] at h6
    rw [Option.some.inj h6]
    congr 1
    rcases Nat.eq_zero_or_pos n with e0 | e0
    · subst e0; simp [getsO, SV.dens]
    · obtain ⟨xs', i', k1, k2, k3, k4⟩ := getsO_fact (i := i) n h.2 (by omega) (by omega)
      rw [h1] at k1
      cases k1
      rw [h2] at k2
      cases k2
      rw [← k4, Nat.add_assoc]
theorem getsO_len (i : Nat) (e : List CK) (a ix : At) : ∀ (l : List Nat) (m : Nat), (getsO i e a ix m l).length = l.length
  | [], _ => rfl
  | x :: xs, m => by simp [getsO, getsO_len i e a ix xs]
/-- Is column c one of slices? -/
def isSl (e : List CK) (c : Nat) : Bool := match e[c]? with
  | some (.sl _) => true
  | _ => false
theorem isSl_get {e : List CK} {c : Nat} (h : isSl e c = true) : e[c]? = some (.sl (colE e c)) := by
  unfold isSl at h
  split at h
  · rename_i e' g
    simp [colE, g]
  · cases h
theorem atRC_fact {env : List D} {m : Nat} {e : List CK} {c : Nat} {a ix : At} (h : Fact env m (.get e c) [a, ix]) (hc : isSl e c = true) : ∃ ys, (At.v m).den env = .l ys ∧ atRC e c (a.den env) (ix.den env).nat = ys ∧ (∀ y ∈ ys, okE (colE e c) y = true) := by
  have hk := isSl_get hc
  have hlt : c < e.length := by
    rcases Nat.lt_or_ge c e.length with g | g
    · exact g
    · rw [List.getElem?_eq_none g] at hk; cases hk
  obtain ⟨xs, z, d, h1, h2, h3, h4, h5, _⟩ := get_fact h hlt
  obtain ⟨_, g2⟩ := h
  simp only [List.map_cons, List.map_nil, Pr.args, okZ, Bool.and_eq_true, Bool.and_true] at g2
  obtain ⟨ys, e1, g3⟩ := okC_sl g2.1
  rw [h1] at e1
  cases e1
  obtain ⟨x, k1, k2⟩ := okZ_get (show okZ e (row e d) = true from g3 d (List.mem_of_getElem? h4)) c _ hk
  rw [h5] at k1
  obtain ⟨ys, e2, e3⟩ := okC_sl k2
  rw [e2] at k1
  have k1 := Option.some.inj k1
  refine ⟨ys, k1, ?_, e3⟩
  simp only [atRC, h1, h2, D.items, D.nat, D.int, h4, h5, k1]
def okSz (a b n : Nat) : Bool := Nat.ble (a + b) n
def sLoad (tab : TyTab) (kp : Nat → Bool) (σ : SS) (m : Nat) (t : TypeId) (p : SV) : Option (List Nd × SV) :=
  match tyGet tab t with
  | none => none
  | some T => match p with
    | .ptr i o => if kp i = true then match hgetS σ.H i with
        | some (.cells xs) => if T.agg = true then (if (!Nat.beq T.size 0 && okSz o T.size xs.length) = true then some ([], .agg ((xs.drop o).take T.size)) else none) else (match xs[o]? with
          | some v => some ([], v)
          | none => none)
        | _ => none else none
    | .ptrE i ix s off => if kp i = true then match hgetS σ.H i with
        | some (.arr .pl e a n) => if Nat.beq s e.length = true then (if T.agg = true then (if (!Nat.beq T.size 0 && okSz off T.size e.length) = true then some (getsN e a ix (List.range' off T.size), .agg (getsV e m (List.range' off T.size))) else none)
            else if Nat.blt off e.length = true then some ([.pr (.get e off) [a, ix]], .dat (e.getD off .bool) (.v m)) else none) else none
        | some (.arr (.ow _) e a n) => if Nat.beq s e.length = true then (if T.agg = true then (if (!Nat.beq T.size 0 && okSz off T.size e.length) = true then some (getsN e a ix (List.range' off T.size), .agg (getsO i e a ix m (List.range' off T.size))) else none)
            else if Nat.blt off e.length = true then some ([.pr (.get e off) [a, ix]], valO i e a ix m off) else none) else none
        | _ => none else none
    | .pfz l e a ix off => if T.agg = true then (if (!Nat.beq T.size 0 && okSz off T.size e.length) = true then some (getsN e a ix (List.range' off T.size), .agg (getsL l.q e m (List.range' off T.size))) else none)
            else if Nat.blt off e.length = true then some ([.pr (.get e off) [a, ix]], valL l.q e m off) else none
    | _ => none
section
variable {P : Program} {E : En} {σ : SS} {o : Oper} {kp : Nat → Bool} {tab : TyTab} {env : List D} {m : Nat} {nds : List Nd} {v : SV} {Φ : Fns}
theorem dens_drop (xs : List SV) (n : Nat) : (SV.dens env xs).drop n = SV.dens env (xs.drop n) := by simp [dens_map, List.map_drop]
theorem dens_take (xs : List SV) (n : Nat) : (SV.dens env xs).take n = SV.dens env (xs.take n) := by simp [dens_map, List.map_take]
theorem dens_len (xs : List SV) : (SV.dens env xs).length = xs.length := by simp [dens_map]
theorem dens_get (xs : List SV) (n : Nat) : (SV.dens env xs)[n]? = (xs[n]?).map (SV.den env) := by simp [dens_map]
theorem sLoad_ok {t : TypeId} {p : Operand} (htab : TabOk P tab) (ho : o.op = .load t p) (h : sLoad tab kp σ m t (σ.ev p) = some (nds, v)) (hf : Facts Φ env m nds) : OP P E kp o (σ.den env) (v.den env) := by
  unfold sLoad at h
  split at h
  · cases h
  · rename_i T hT
    obtain ⟨d, info, z, hu, hi, hz, t1, t2, t3, t4, t5, t6⟩ := tyGet_ok htab hT
    have hp := SS.ev_den env σ p
    split at h
    · rename_i i oo hv
      rw [hv] at hp
      split at h
      · rename_i hk
        split at h
        · rename_i xs hh
          have hg : hget (σ.den env).H i = some (SV.dens env xs) := by
            show hget (denH env σ.H) i = _
            rw [hget_denH, hh]; rfl
          split at h
          · rename_i ha
            split at h
            · rename_i hb
              simp only [Bool.and_eq_true, Bool.not_eq_true'] at hb
              have h2 := Nat.le_of_ble_eq_true hb.2
              have h0 : info.size ≠ 0 := by
                intro e0
                have := hb.1
                rw [t1, e0] at this
                simp at this
              cases h
              have := OP.loadN (P := P) (E := E) (σ := σ.den env) (kp := kp) ho hu (by rw [← t3]; exact ha) hi hp hg h0 (by rw [dens_len, ← t1]; exact h2) hk
              rw [dens_drop, dens_take, ← t1] at this
              exact this
            · cases h
          · rename_i ha
            split at h
            · rename_i x hx
              cases h
              exact OP.load1 ho hu (by rw [← t3]; simpa using ha) hp hg (by rw [dens_get, hx]; rfl) hk
            · cases h
        · cases h
      · cases h
    · rename_i i ix s off hv
      rw [hv] at hp
      split at h
      · rename_i hk
        split at h
        · rename_i e a n hh
          have hg : hget (σ.den env).H i = some (encR e (a.den env).items) := by
            show hget (denH env σ.H) i = _
            rw [hget_denH, hh]; rfl
          split at h
          · rename_i hs
            obtain rfl := Nat.eq_of_beq_eq_true hs
            split at h
            · rename_i ha
              split at h
              · rename_i hb
                simp only [Bool.and_eq_true, Bool.not_eq_true'] at hb
                have h2 := Nat.le_of_ble_eq_true hb.2
                have h0 : T.size ≠ 0 := by
                  intro e0
                  have := hb.1
                  rw [e0] at this
                  simp at this
                cases h
                obtain ⟨xs, z, k1, k2, k3, k4⟩ := gets_fact T.size hf h2 h0
                simp only [SV.den, k2, D.nat, D.int] at hp
                rw [k1] at hg
                simp only [D.items] at hg
                have hlen := congrArg List.length k4
                rw [dens_len] at hlen
                have hlv : (getsV e m (List.range' off T.size)).length = T.size := by
                  have : ∀ (l : List Nat) m, (getsV e m l).length = l.length := by
                    intro l
                    induction l with
                    | nil => intro m; rfl
                    | cons x xs ih => intro m; simp [getsV, ih]
                  rw [this]; simp
                rw [hlv] at hlen
                simp only [List.length_take, List.length_drop] at hlen
                have := OP.loadN (P := P) (E := E) (σ := σ.den env) (kp := kp) ho hu (by rw [← t3]; exact ha) hi hp hg (by rw [← t1]; exact h0) (by rw [← t1]; omega) hk
                rw [← t1, k4] at this
                exact this
              · cases h
            · rename_i ha
              split at h
              · rename_i hb
                cases h
                obtain ⟨xs, z, dd, k1, k2, k3, k4, k5, k6⟩ := get_fact hf.1 (by simpa using hb)
                simp only [SV.den, k2, D.nat, D.int] at hp
                rw [k1] at hg
                simp only [D.items] at hg
                exact OP.load1 ho hu (by rw [← t3]; simpa using ha) hp hg k6 hk
              · cases h
          · cases h
        · rename_i hw e a n hh
          have hg : hget (σ.den env).H i = some (famR i e 0 (a.den env).items) := by
            show hget (denH env σ.H) i = _
            rw [hget_denH, hh]; rfl
          split at h
          · rename_i hs
            obtain rfl := Nat.eq_of_beq_eq_true hs
            split at h
            · rename_i ha
              split at h
              · rename_i hb
                simp only [Bool.and_eq_true, Bool.not_eq_true'] at hb
                have h2 := Nat.le_of_ble_eq_true hb.2
                have h0 : T.size ≠ 0 := by
                  intro e0
                  have := hb.1
                  rw [e0] at this
                  simp at this
                cases h
                obtain ⟨xs, z, k1, k2, k3, k4⟩ := getsO_fact (i := i) T.size hf h2 h0
                simp only [SV.den, k2, D.nat, D.int] at hp
                rw [k1] at hg
                simp only [D.items] at hg
                have hlen := congrArg List.length k4
                rw [dens_len, getsO_len, List.length_range'] at hlen
                simp only [List.length_take, List.length_drop] at hlen
                have := OP.loadN (P := P) (E := E) (σ := σ.den env) (kp := kp) ho hu (by rw [← t3]; exact ha) hi hp hg (by rw [← t1]; exact h0) (by rw [← t1]; omega) hk
                rw [← t1, k4] at this
                exact this
              · cases h
            · rename_i ha
              split at h
              · rename_i hb
                cases h
                obtain ⟨xs, z, k1, k2, k3, k6⟩ := getO_fact (i := i) hf.1 (by simpa using hb)
                simp only [SV.den, k2, D.nat, D.int] at hp
                rw [k1] at hg
                simp only [D.items] at hg
                exact OP.load1 ho hu (by rw [← t3]; simpa using ha) hp hg k6 hk
              · cases h
          · cases h
        · cases h
      · cases h
    · rename_i l e a ix off hv
      rw [hv] at hp
      split at h
      · rename_i ha
        split at h
        · rename_i hb
          simp only [Bool.and_eq_true, Bool.not_eq_true'] at hb
          have h2 := Nat.le_of_ble_eq_true hb.2
          have h0 : T.size ≠ 0 := by
            intro e0
            have := hb.1
            rw [e0] at this
            simp at this
          cases h
          obtain ⟨xs, z, k1, k2, k3, k4⟩ := gets_fact T.size hf h2 h0
          simp only [SV.den, k1, k2, D.nat, D.int, D.items] at hp
          have k5 := congrArg (lq l.q) k4
          rw [← lq_take, ← lq_drop, ← getsL_den T.size hf h2] at k5
          have hlen := congrArg List.length k4
          rw [dens_len] at hlen
          have hlv : (getsV e m (List.range' off T.size)).length = T.size := by
            have : ∀ (l : List Nat) m, (getsV e m l).length = l.length := by
              intro l
              induction l with
              | nil => intro m; rfl
              | cons x xs ih => intro m; simp [getsV, ih]
            rw [this]; simp
          rw [hlv] at hlen
          simp only [List.length_take] at hlen
          have := OP.loadFN (P := P) (E := E) (σ := σ.den env) (kp := kp) ho hu (by rw [← t3]; exact ha) hi hp (by rw [← t1]; exact h0) (by rw [← t1, List.length_drop, lq_length, ← List.length_drop]; omega)
          rw [← t1, k5] at this
          exact this
        · cases h
      · rename_i ha
        split at h
        · rename_i hb
          cases h
          obtain ⟨xs, z, dd, k1, k2, k3, k4, k5, k6⟩ := get_fact hf.1 (by simpa using hb)
          simp only [SV.den, k1, k2, D.nat, D.int, D.items] at hp
          rw [valL_den (get_ok hf.1 (by simpa using hb))]
          exact OP.loadF1 ho hu (by rw [← t3]; simpa using ha) hp (by rw [List.getElem?_drop, lq_map, List.getElem?_map, Nat.add_zero, k6]; rfl)
        · cases h
    · cases h
end
end Go.BH

/- Pure operations in letters, 2. -/
set_option linter.unusedVariables false
set_option linter.unusedSimpArgs false
namespace Go.BH
open Go.RowKit
/-- Pairs of whole numbers, side by side. -/
def pairS : List SV → List SV → Option (List (IntKind × At × At))
  | [], [] => some []
  | .dat (.int k) a :: xs, .dat (.int k') b :: ys => if decide (k = k') = true then (match pairS xs ys with
    | some r => some ((k, a, b) :: r)
    | none => none) else none
  | _, _ => none
def eqNds : Nat → List (IntKind × At × At) → At → List Nd × At
  | _, [], acc => ([], acc)
  | m, (k, a, b) :: r, acc => match eqNds (m + 2) r (.v (m + 1)) with
    | (nds, x) => (.pr (.cmp .eql k) [a, b] :: .pr .and [acc, .v m] :: nds, x)
def isCmp : BinOp → Bool
  | .eql => true
  | .neq => true
  | .lss => true
  | .leq => true
  | .gtr => true
  | .geq => true
  | _ => false
def isSh : BinOp → Bool
  | .shl => true
  | .shr => true
  | _ => false
def isAdd : BinOp → Bool
  | .add => true
  | _ => false
def isEq : BinOp → Bool
  | .eql => true
  | _ => false
def isNe : BinOp → Bool
  | .neq => true
  | _ => false
theorem facts_app {Φ : Fns} {env : List D} : ∀ {l r : List Nd} {m : Nat}, (∀ x ∈ l, ∃ p xs, x = Nd.pr p xs) → Facts Φ env m (l ++ r) → Facts Φ env m l ∧ Facts Φ env (m + l.length) r
  | [], r, m, _, h => ⟨trivial, by simpa using h⟩
  | .pr p xs :: l, r, m, hp, h => by
    obtain ⟨h1, h2⟩ := facts_app (l := l) (r := r) (m := m + 1) (fun x hx => hp x (List.mem_cons_of_mem _ hx)) h.2
    exact ⟨⟨h.1, h1⟩, by rw [List.length_cons, show m + (l.length + 1) = m + 1 + l.length by omega]; exact h2⟩
  | .call f xs ps tys :: l, r, m, hp, h => by
    obtain ⟨p, xs, e⟩ := hp _ List.mem_cons_self
    cases e
def sBin (tab : TyTab) (m : Nat) (o : BinOp) (t : TypeId) (x y : SV) : Option (List Nd × SV) :=
  match x, y with
  | .dat (.int k) a, .dat (.int k') b =>
    if isSh o = true then some ([.pr (.sh o k k') [a, b]], .dat (.int k) (.v m))
    else if decide (k = k') = true then (if isCmp o = true then some ([.pr (.cmp o k) [a, b]], .dat .bool (.v m)) else some ([.pr (.bin o k) [a, b]], .dat (.int k) (.v m)))
    else none
  | .dat .str a, .dat .str b => if isAdd o = true then some ([.pr .cat [a, b]], .dat .str (.v m)) else some ([.pr (.cmpS o) [a, b]], .dat .bool (.v m))
  | .dat .bool a, .dat .bool b => match tyGet tab t with
    | some T => (match T.kind with
      | .bool => if isEq o = true then some ([.pr .eqb [a, b]], .dat .bool (.v m)) else if isNe o = true then some ([.pr .eqb [a, b], .pr .not [.v m]], .dat .bool (.v (m + 1))) else none
      | _ => none)
    | none => none
  | .agg xs, .agg ys => match tyGet tab t, pairS xs ys with
    | some T, some ps => if (T.eqi && Nat.beq T.size ps.length) = true then
        (match eqNds m ps (.k (.b true)) with
        | (nds, a) => if isEq o = true then some (nds, .dat .bool a) else if isNe o = true then some (nds ++ [.pr .not [a]], .dat .bool (.v (m + nds.length))) else none) else none
    | _, _ => none
  | _, _ => none
section
variable {P : Program} {E : En} {σ : SS} {o : Oper} {kp : Nat → Bool} {tab : TyTab} {env : List D} {m : Nat} {nds : List Nd} {v : SV} {Φ : Fns}
theorem kindD_slice {d : TypeDesc} {e : TypeId} (h : kindD d = .slice e) : d = .slice e := by
  cases d <;> simp_all [kindD]
theorem kindD_str {d : TypeDesc} (h : kindD d = .str) : d = .string := by
  cases d <;> simp_all [kindD]
theorem kindD_int {d : TypeDesc} {k : IntKind} (h : kindD d = .int k) : d = .int k := by
  cases d <;> simp_all [kindD]
theorem kindD_bool {d : TypeDesc} (h : kindD d = .bool) : d = .bool := by
  cases d <;> simp_all [kindD]
theorem kindD_iface {d : TypeDesc} (h : kindD d = .iface) : ∃ ms, d = .interface ms := by
  cases d <;> simp_all [kindD]
theorem kindD_struct {d : TypeDesc} {fs : List (TypeId × Nat)} (h : kindD d = .struct fs) : ∃ gs : Array Field, d = .struct gs ∧ fs = gs.toList.map fun f => (f.type, f.offset) := by
  cases d <;> simp_all [kindD]
theorem encC_int (k : IntKind) (z : Int) : encC (.int k) (.i z) = .v (.int k z) := by rw [encC]
theorem encC_bool (z : Bool) : encC .bool (.b z) = .v (.bool z) := by rw [encC]
theorem encC_str (z : ByteArray) : encC .str (.s z) = .v (.string z) := by rw [encC]
theorem map_int {d r : D} {x : Option Int} (h : x.map D.i = some r) : ∃ z, x = some z ∧ r = .i z := by
  obtain ⟨z, h1, h2⟩ := Option.map_eq_some_iff.1 h
  exact ⟨z, h1, h2.symm⟩
/-- Two whole numbers that an operation has been given. -/
theorem fact2i {p : Pr} {k k' : IntKind} {a b : At} (h : Fact env m p [a, b]) (hp : p.args = [.int k, .int k']) : ∃ x y, a.den env = .i x ∧ b.den env = .i y ∧ p.eval [.i x, .i y] = some ((At.v m).den env) := by
  obtain ⟨h1, h2⟩ := h
  rw [hp] at h2
  simp only [List.map_cons, List.map_nil, okZ, Bool.and_eq_true, Bool.and_true] at h1 h2
  obtain ⟨x, hx⟩ := okC_int h2.1
  obtain ⟨y, hy⟩ := okC_int h2.2
  exact ⟨x, y, hx, hy, by rw [← hx, ← hy]; exact h1⟩
theorem fact2b {p : Pr} {a b : At} (h : Fact env m p [a, b]) (hp : p.args = [.bool, .bool]) : ∃ x y, a.den env = .b x ∧ b.den env = .b y ∧ p.eval [.b x, .b y] = some ((At.v m).den env) := by
  obtain ⟨h1, h2⟩ := h
  rw [hp] at h2
  simp only [List.map_cons, List.map_nil, okZ, Bool.and_eq_true, Bool.and_true] at h1 h2
  obtain ⟨x, hx⟩ := okC_bool h2.1
  obtain ⟨y, hy⟩ := okC_bool h2.2
  exact ⟨x, y, hx, hy, by rw [← hx, ← hy]; exact h1⟩
theorem fact2s {p : Pr} {a b : At} (h : Fact env m p [a, b]) (hp : p.args = [.str, .str]) : ∃ x y, a.den env = .s x ∧ b.den env = .s y ∧ p.eval [.s x, .s y] = some ((At.v m).den env) := by
  obtain ⟨h1, h2⟩ := h
  rw [hp] at h2
  simp only [List.map_cons, List.map_nil, okZ, Bool.and_eq_true, Bool.and_true] at h1 h2
  obtain ⟨x, hx⟩ := okC_str h2.1
  obtain ⟨y, hy⟩ := okC_str h2.2
  exact ⟨x, y, hx, hy, by rw [← hx, ← hy]; exact h1⟩
theorem fact1b {p : Pr} {a : At} (h : Fact env m p [a]) (hp : p.args = [.bool]) : ∃ x, a.den env = .b x ∧ p.eval [.b x] = some ((At.v m).den env) := by
  obtain ⟨h1, h2⟩ := h
  rw [hp] at h2
  simp only [List.map_cons, List.map_nil, okZ, Bool.and_eq_true, Bool.and_true] at h1 h2
  obtain ⟨x, hx⟩ := okC_bool h2
  exact ⟨x, hx, by rw [← hx]; exact h1⟩
theorem fact1i {p : Pr} {k : IntKind} {a : At} (h : Fact env m p [a]) (hp : p.args = [.int k]) : ∃ x, a.den env = .i x ∧ p.eval [.i x] = some ((At.v m).den env) := by
  obtain ⟨h1, h2⟩ := h
  rw [hp] at h2
  simp only [List.map_cons, List.map_nil, okZ, Bool.and_eq_true, Bool.and_true] at h1 h2
  obtain ⟨x, hx⟩ := okC_int h2
  exact ⟨x, hx, by rw [← hx]; exact h1⟩
theorem eqNds_pr : ∀ (ps : List (IntKind × At × At)) (m : Nat) (acc : At), ∀ x ∈ (eqNds m ps acc).1, ∃ p xs, x = Nd.pr p xs
  | [], m, acc, x, hx => by simp [eqNds] at hx
  | (k, a, b) :: r, m, acc, x, hx => by
    simp only [eqNds, List.mem_cons] at hx
    rcases hx with rfl | rfl | hx
    · exact ⟨_, _, rfl⟩
    · exact ⟨_, _, rfl⟩
    · exact eqNds_pr r _ _ x hx
theorem eqNds_ok : ∀ {ps : List (IntKind × At × At)} {m : Nat} {acc : At} {t : Bool}, Facts Φ env m (eqNds m ps acc).1 → acc.den env = .b t → ∃ qs : List (IntKind × Int × Int), ps = ps ∧ qs.length = ps.length ∧ (∀ xs ys, pairS xs ys = some ps → SV.dens env xs = vals (fstP qs) ∧ SV.dens env ys = vals (sndP qs)) ∧ (eqNds m ps acc).2.den env = .b (t && allEq qs)
  | [], m, acc, t, _, h => by
    refine ⟨[], rfl, rfl, fun xs ys hp => ?_, by simp [eqNds, allEq, h]⟩
    unfold pairS at hp
    split at hp
    · exact ⟨rfl, rfl⟩
    · split at hp
      · split at hp
        · cases hp
        · cases hp
      · cases hp
    · cases hp
  | (k, a, b) :: r, m, acc, t, hf, h => by
    simp only [eqNds, Facts] at hf
    obtain ⟨x, y, h1, h2, h3⟩ := fact2i hf.1 rfl
    simp only [Pr.eval, cmpI, Option.map_some, Option.some.injEq] at h3
    obtain ⟨x', y', h4, h5, h6⟩ := fact2b hf.2.1 rfl
    rw [h] at h4
    cases h4
    rw [← h3] at h5
    cases h5
    simp only [Pr.eval, Option.some.injEq] at h6
    obtain ⟨qs, _, k1, k2, k3⟩ := eqNds_ok hf.2.2 h6.symm
    refine ⟨(k, x, y) :: qs, rfl, by simp [k1], fun xs ys hp => ?_, ?_⟩
    · unfold pairS at hp
      split at hp
      · cases hp
      · rename_i kk aa xs' kk' bb ys'
        split at hp
        · rename_i hk
          have hk := of_decide_eq_true hk
          subst hk
          split at hp
          · rename_i r' hr
            cases hp
            obtain ⟨e1, e2⟩ := k2 _ _ hr
            have w1 : (SV.dat (.int k) a).den env = .v (.int k x) := by rw [SV.den, h1, encC_int]
            have w2 : (SV.dat (.int k) b).den env = .v (.int k y) := by rw [SV.den, h2, encC_int]
            simp only [SV.dens, e1, e2, w1, w2]
            exact ⟨rfl, rfl⟩
          · cases hp
        · cases hp
      · cases hp
    · simp only [eqNds, k3, allEq, Bool.and_assoc]
theorem sBin_ok {op : BinOp} {t t' : TypeId} {x y : Operand} (htab : TabOk P tab) (ho : o.op = .binOp op t x y t') (h : sBin tab m op t (σ.ev x) (σ.ev y) = some (nds, v)) (hf : Facts Φ env m nds) : OP P E kp o (σ.den env) (v.den env) := by
  have hx := SS.ev_den env σ x
  have hy := SS.ev_den env σ y
  unfold sBin at h
  split at h
  · rename_i k a k' b h1 h2
    rw [h1] at hx
    rw [h2] at hy
    split at h
    · cases h
      obtain ⟨z1, z2, e1, e2, e3⟩ := fact2i hf.1 rfl
      rw [SV.den, e1, encC_int] at hx
      rw [SV.den, e2, encC_int] at hy
      obtain ⟨z, e4, e5⟩ := map_int (d := default) e3
      rw [SV.den, e5, encC_int]
      exact OP.sh ho hx hy e4
    · split at h
      · rename_i hk
        have hk := of_decide_eq_true hk
        subst hk
        split at h
        · cases h
          obtain ⟨z1, z2, e1, e2, e3⟩ := fact2i hf.1 rfl
          rw [SV.den, e1, encC_int] at hx
          rw [SV.den, e2, encC_int] at hy
          obtain ⟨z, e4, e5⟩ := Option.map_eq_some_iff.1 e3
          rw [SV.den, ← e5, encC_bool]
          exact OP.cmp ho hx hy e4
        · cases h
          obtain ⟨z1, z2, e1, e2, e3⟩ := fact2i hf.1 rfl
          rw [SV.den, e1, encC_int] at hx
          rw [SV.den, e2, encC_int] at hy
          obtain ⟨z, e4, e5⟩ := map_int (d := default) e3
          rw [SV.den, e5, encC_int]
          exact OP.int ho hx hy e4
      · cases h
  · rename_i a b h1 h2
    rw [h1] at hx
    rw [h2] at hy
    split at h
    · rename_i ha
      cases h
      have : op = .add := by cases op <;> simp_all [isAdd]
      subst this
      obtain ⟨z1, z2, e1, e2, e3⟩ := fact2s hf.1 rfl
      rw [SV.den, e1, encC_str] at hx
      rw [SV.den, e2, encC_str] at hy
      simp only [Pr.eval] at e3
      split at e3
      · cases e3
      · rename_i hh
        rw [SV.den, ← Option.some.inj e3, encC_str]
        exact OP.cat ho hx hy hh
    · cases h
      obtain ⟨z1, z2, e1, e2, e3⟩ := fact2s hf.1 rfl
      rw [SV.den, e1, encC_str] at hx
      rw [SV.den, e2, encC_str] at hy
      obtain ⟨z, e4, e5⟩ := Option.map_eq_some_iff.1 e3
      rw [SV.den, ← e5, encC_bool]
      exact OP.str ho hx hy e4
  · rename_i a b h1 h2
    rw [h1] at hx
    rw [h2] at hy
    split at h
    · rename_i T hT
      obtain ⟨d, info, z, hu, hi, hz, t1, t2, t3, t4, t5, t6⟩ := tyGet_ok htab hT
      split at h
      · rename_i hk
        rw [t4] at hk
        rw [kindD_bool hk] at hu
        split at h
        · rename_i he
          have : op = .eql := by cases op <;> simp_all [isEq]
          subst this
          cases h
          obtain ⟨z1, z2, e1, e2, e3⟩ := fact2b hf.1 rfl
          rw [SV.den, e1, encC_bool] at hx
          rw [SV.den, e2, encC_bool] at hy
          rw [SV.den, ← Option.some.inj e3, encC_bool]
          exact OP.eqb ho hu hx hy (.inl ⟨rfl, rfl⟩)
        · split at h
          · rename_i he
            have : op = .neq := by cases op <;> simp_all [isNe]
            subst this
            cases h
            obtain ⟨z1, z2, e1, e2, e3⟩ := fact2b hf.1 rfl
            obtain ⟨z3, e4, e5⟩ := fact1b hf.2.1 rfl
            rw [SV.den, e1, encC_bool] at hx
            rw [SV.den, e2, encC_bool] at hy
            rw [← Option.some.inj e3] at e4
            cases e4
            rw [SV.den, ← Option.some.inj e5, encC_bool]
            exact OP.eqb ho hu hx hy (.inr ⟨rfl, rfl⟩)
          · cases h
      · cases h
    · cases h
  · rename_i xs ys h1 h2
    rw [h1] at hx
    rw [h2] at hy
    split at h
    · rename_i T ps hT hps
      obtain ⟨d, info, z, hu, hi, hz, t1, t2, t3, t4, t5, t6⟩ := tyGet_ok htab hT
      split at h
      · rename_i hb
        simp only [Bool.and_eq_true] at hb
        have hsz := Nat.eq_of_beq_eq_true hb.2
        have hei := t6 hb.1
        generalize hq : eqNds m ps (.k (.b true)) = q at h
        obtain ⟨ns, a⟩ := q
        simp only at h
        split at h
        · rename_i he
          have : op = .eql := by cases op <;> simp_all [isEq]
          subst this
          cases h
          have hf' : Facts Φ env m (eqNds m ps (.k (.b true))).1 := by rw [hq]; exact hf
          obtain ⟨qs, _, k1, k2, k3⟩ := eqNds_ok (t := true) hf' rfl
          obtain ⟨e1, e2⟩ := k2 xs ys hps
          rw [hq] at k3
          rw [SV.den, e1] at hx
          rw [SV.den, e2] at hy
          rw [SV.den, k3, encC_bool, Bool.true_and]
          exact OP.binAgg ho hx hy (by rw [k1, ← hsz]; exact hei) (.inl ⟨rfl, rfl⟩)
        · split at h
          · rename_i he
            have : op = .neq := by cases op <;> simp_all [isNe]
            subst this
            cases h
            have hpr := eqNds_pr ps m (.k (.b true))
            rw [hq] at hpr
            obtain ⟨hf1, hf2⟩ := facts_app hpr hf
            have hf' : Facts Φ env m (eqNds m ps (.k (.b true))).1 := by rw [hq]; exact hf1
            obtain ⟨qs, _, k1, k2, k3⟩ := eqNds_ok (t := true) hf' rfl
            obtain ⟨e1, e2⟩ := k2 xs ys hps
            rw [hq] at k3
            obtain ⟨z3, e4, e5⟩ := fact1b hf2.1 rfl
            simp only [Bool.true_and] at k3
            rw [k3] at e4
            cases e4
            rw [SV.den, e1] at hx
            rw [SV.den, e2] at hy
            rw [SV.den, ← Option.some.inj e5, encC_bool]
            exact OP.binAgg ho hx hy (by rw [k1, ← hsz]; exact hei) (.inr ⟨rfl, rfl⟩)
          · cases h
      · cases h
    · cases h
  · cases h
end
end Go.BH

/- Pure operations in letters, 3: all of them. -/
set_option linter.unusedVariables false
set_option linter.unusedSimpArgs false
namespace Go.BH
open Go.RowKit
def sPick (m : Nat) (c x y : SV) : Option (List Nd × SV) :=
  match c with
  | .dat .bool (.k (.b true)) => some ([], x)
  | .dat .bool (.k (.b false)) => some ([], y)
  | .dat .bool a => match x, y with
    | .dat k p, .dat k' q => if CK.beq k k' = true then some ([.pr (.ite k) [a, p, q]], .dat k (.v m)) else none
    | _, _ => none
  | _ => none
def sUn (m : Nat) (o : UnOp) (x : SV) : Option (List Nd × SV) :=
  match o, x with
  | .not, .dat .bool (.k (.b t)) => some ([], .dat .bool (.k (.b !t)))
  | .not, .dat .bool a => some ([.pr .not [a]], .dat .bool (.v m))
  | .neg, .dat (.int k) a => some ([.pr (.neg k) [a]], .dat (.int k) (.v m))
  | .xor, .dat (.int k) a => some ([.pr (.com k) [a]], .dat (.int k) (.v m))
  | _, _ => none
def sConv (tab : TyTab) (kp : Nat → Bool) (σ : SS) (m : Nat) (s d : TypeId) (x : SV) : Option (List Nd × SV) :=
  match tyGet tab s, tyGet tab d with
  | some S, some T => match T.kind, x with
    | .int k', .dat (.int k) a => some ([.pr (.conv k k') [a]], .dat (.int k') (.v m))
    | .str, .dat .str a => some ([], .dat .str a)
    | .str, x => match S.kind with
      | .slice e => (match tyGet tab e with
        | some F => (match F.kind with
          | .int .u8 => (match x with
            | .dat (.sl [.int .u8]) a => some ([.pr .bstr [a]], .dat .str (.v m))
            | .lz q [.int .u8] a => some ([.pr .bstr [a]], .dat .str (.v m))
            | .sl i lo n s => if (Nat.beq s 1 && isZ lo && whole σ i n && kp i) = true then (match hgetS σ.H i with
              | some (.arr .pl [.int .u8] a _) => some ([.pr .bstr [a]], .dat .str (.v m))
              | _ => none) else none
            | _ => none)
          | _ => none)
        | none => none)
      | _ => none
    | _, _ => none
  | _, _ => none
def sField (tab : TyTab) (s : TypeId) (f : Nat) (x : SV) : Option SV :=
  match tyGet tab s with
  | some S => match S.kind with
    | .struct fs => match fs[f]? with
      | some (ft, off) => (match tyGet tab ft with
        | some F => if Nat.beq F.size 0 = true then none else match x with
          | .ptr i o => some (.ptr i (o + off))
          | .ptrE i ix s o => some (.ptrE i ix s (o + off))
          | .pfz l e a ix o => some (.pfz l e a ix (o + off))
          | _ => none
        | none => none)
      | none => none
    | _ => none
  | none => none
def sIndex (tab : TyTab) (m : Nat) (t : TypeId) (x z : SV) : Option (List Nd × SV) :=
  match tyGet tab t with
  | some T => match T.kind with
    | .slice e => (match tyGet tab e with
      | some F => (match z with
        | .dat (.int k) za => (match x with
          | .sl i lo n s => if Nat.beq s F.size = true then (if isZ lo = true then some ([.pr (.ixc k) [za, n]], .ptrE i (.v m) s 0) else some ([.pr (.ixc k) [za, n], .pr .plus [lo, .v m]], .ptrE i (.v (m + 1)) s 0)) else none
          | x => (match asSl x with
            | some (l, e, a) => if Nat.beq e.length F.size = true then some ([.pr (.len e) [a], .pr (.ixc k) [za, .v m]], .pfz l e a (.v (m + 1)) 0) else none
            | none => none))
        | _ => none)
      | none => none)
    | _ => none
  | none => none
def sLen (tab : TyTab) (σ : SS) (m : Nat) (t : TypeId) (x : SV) : Option (List Nd × SV) :=
  match tyGet tab t with
  | some T => match T.kind, x with
    | .slice _, .sl i lo n s => if whole σ i n = true then some ([], .dat (.int .i64) n) else some ([.pr (.nat .i64) [n]], .dat (.int .i64) (.v m))
    | .slice _, .slD i e a ix c => if isSl e c = true then some ([.pr (.get e c) [a, ix], .pr (.len (colE e c)) [.v m]], .dat (.int .i64) (.v (m + 1))) else none
    | .slice _, .nilS => some ([], .dat (.int .i64) (.k (.i 0)))
    | .slice _, .e0 => some ([], .dat (.int .i64) (.k (.i 0)))
    | .slice _, x => (match asSl x with
      | some (l, e, a) => some ([.pr (.len e) [a]], .dat (.int .i64) (.v m))
      | none => none)
    | .str, .dat .str a => some ([.pr .lenS [a]], .dat (.int .i64) (.v m))
    | _, _ => none
  | none => none
/-- A bound of a cut. -/
def sBd (σ : SS) (dflt : At) : Option Operand → Option (IntKind × At)
  | none => some (.i64, dflt)
  | some x => match σ.ev x with
    | .dat (.int k) a => some (k, a)
    | _ => none
def sCut (tab : TyTab) (σ : SS) (m : Nat) (t : TypeId) (x : SV) (lo hi : Option Operand) : Option (List Nd × SV) :=
  match tyGet tab t with
  | some T => match T.kind with
    | .slice e => (match tyGet tab e with
      | some F => (match x with
        | .sl i l0 n s => (match sBd σ (.k (.i 0)) lo, sBd σ n hi with
          | some (kl, al), some (kh, ah) => if Nat.beq s F.size = true then (if isZ l0 = true then some ([.pr (.rng kl kh) [al, ah, n], .pr (.nat kl) [al]], .sl i (.v (m + 1)) (.v m) s)
              else some ([.pr (.rng kl kh) [al, ah, n], .pr (.nat kl) [al], .pr .plus [l0, .v (m + 1)]], .sl i (.v (m + 2)) (.v m) s)) else none
          | _, _ => none)
        | x => (match asSl x with
          | some (l, e, a) => (match sBd σ (.k (.i 0)) lo, sBd σ (.v m) hi with
            | some (kl, al), some (kh, ah) => if Nat.beq e.length F.size = true then some ([.pr (.len e) [a], .pr (.cut e kl kh) [a, al, ah]], ofSl l e (.v (m + 1))) else none
            | _, _ => none)
          | none => none))
      | none => none)
    | .str => (match x with
      | .dat .str a => (match sBd σ (.k (.i 0)) lo, sBd σ (.v m) hi with
        | some (kl, al), some (kh, ah) => some ([.pr .lenS [a], .pr (.cutS kl kh) [a, al, ah]], .dat .str (.v (m + 1)))
        | _, _ => none)
      | _ => none)
    | _ => none
  | none => none
def updS (cs : List SV) (k : Nat) : List SV → List SV
  | [] => cs
  | x :: xs => updS (cs.set k x) (k + 1) xs
def fillS (place : Nat → Option (Nat × Nat)) (cs : List SV) : List (Nat × SV) → Option (List SV)
  | [] => some cs
  | (i, x) :: r => match place i with
    | none => none
    | some (off, size) => if (Nat.beq x.cells.length size && okSz off size cs.length && SV.ones x.cells) = true then fillS place (updS cs off x.cells) r else none
def plS (tab : TyTab) : List (TypeId × Nat) → Option (List (Nat × Nat))
  | [] => some []
  | (t, off) :: r => match tyGet tab t, plS tab r with
    | some T, some l => some ((off, T.size) :: l)
    | _, _ => none
def partsS (σ : SS) : List (Nat × Operand) → List (Nat × SV)
  | [] => []
  | (i, x) :: r => (i, σ.ev x) :: partsS σ r
def sBuild (tab : TyTab) (σ : SS) (t : TypeId) (ps : List (Nat × Operand)) : Option SV :=
  match tyGet tab t with
  | some T => match T.kind with
    | .struct fs => (match plS tab fs with
      | some pl => (match fillS (fun i => pl[i]?) (T.zero.map zSV) (partsS σ ps) with
        | some ds => some (.agg ds)
        | none => none)
      | none => none)
    | _ => none
  | none => none
def sFld (tab : TyTab) (s : TypeId) (f : Nat) (x : SV) : Option SV :=
  match tyGet tab s, x with
  | some S, .agg cs => match S.kind with
    | .struct fs => (match fs[f]? with
      | some (ft, off) => (match tyGet tab ft with
        | some F => if F.agg = true then some (.agg ((cs.drop off).take F.size)) else cs[off]?
        | none => none)
      | none => none)
    | _ => none
  | _, _ => none
def evS (σ : SS) : List Operand → List SV
  | [] => []
  | x :: r => σ.ev x :: evS σ r
/-- An interface value compared with nil. -/
def sIfc (tab : TyTab) (m : Nat) (o : BinOp) (t : TypeId) (x : SV) : Option (List Nd × SV) :=
  match x, tyGet tab t with
  | .ifc a, some T => (match T.kind with
    | .iface => if isEq o = true then some ([], .dat .bool a) else if isNe o = true then some ([.pr .not [a]], .dat .bool (.v m)) else none
    | _ => none)
  | _, _ => none
/-- An operation that only reckons or reads. -/
def sPure (tab : TyTab) (kp : Nat → Bool) (σ : SS) (m : Nat) (op : Op) : Option (List Nd × SV) :=
  match op with
  | .move x => some ([], σ.ev x)
  | .assign x => some ([], σ.ev x)
  | .pick c x y => sPick m (σ.ev c) (σ.ev x) (σ.ev y)
  | .binOp o t x (.const .nilIface) _ => sIfc tab m o t (σ.ev x)
  | .binOp o t x y _ => sBin tab m o t (σ.ev x) (σ.ev y)
  | .unOp o _ x => sUn m o (σ.ev x)
  | .convert s d x => sConv tab kp σ m s d (σ.ev x)
  | .extract x n => match σ.ev x with
    | .tup vs => (match vs[n]? with
      | some v => some ([], v)
      | none => none)
    | _ => none
  | .load t p => sLoad tab kp σ m t (σ.ev p)
  | .fieldAddr s x f => (match sField tab s f (σ.ev x) with
    | some v => some ([], v)
    | none => none)
  | .indexAddr t x z => sIndex tab m t (σ.ev x) (σ.ev z)
  | .call ⟨.builtin .len, ⟨[x]⟩, ⟨[t]⟩⟩ => sLen tab σ m t (σ.ev x)
  | .call ⟨.builtin .max, ⟨[x, y]⟩, _⟩ => match σ.ev x, σ.ev y with
    | .dat (.int k) a, .dat (.int k') b => if decide (k = k') = true then some ([.pr (.mx k) [a, b]], .dat (.int k) (.v m)) else none
    | _, _ => none
  | .call ⟨.builtin .min, ⟨[x, y]⟩, _⟩ => match σ.ev x, σ.ev y with
    | .dat (.int k) a, .dat (.int k') b => if decide (k = k') = true then some ([.pr (.mn k) [a, b]], .dat (.int k) (.v m)) else none
    | _, _ => none
  | .slice t x lo hi none => sCut tab σ m t (σ.ev x) lo hi
  | .build t ⟨ps⟩ => (match sBuild tab σ t ps with
    | some v => some ([], v)
    | none => none)
  | .field s x f => (match sFld tab s f (σ.ev x) with
    | some v => some ([], v)
    | none => none)
  | .index t x z => (match tyGet tab t, σ.ev x, σ.ev z with
    | some T, .dat .str a, .dat (.int k) za => (match T.kind with
      | .str => some ([.pr (.idxS k) [a, za]], .dat (.int .u8) (.v m))
      | _ => none)
    | _, _, _ => none)
  | .nilCheck x => (match σ.ev x with
    | .ptr i o => some ([], .ptr i o)
    | .ptrE i ix s o => some ([], .ptrE i ix s o)
    | .pfz l e a ix o => some ([], .pfz l e a ix o)
    | .fn f cs => some ([], .fn f cs)
    | _ => none)
  | .makeFunc (.func f) ⟨[]⟩ ⟨caps⟩ => some ([], .fn f (evS σ caps))
  | _ => none
section
variable {P : Program} {E : En} {σ : SS} {o : Oper} {kp : Nat → Bool} {tab : TyTab} {env : List D} {m : Nat} {nds : List Nd} {v : SV} {Φ : Fns}
theorem evS_den (l : List Operand) : SV.dens env (evS σ l) = evs (σ.den env) l := by
  induction l with
  | nil => rfl
  | cons x r ih =>
    show (σ.ev x).den env :: SV.dens env (evS σ r) = (σ.den env).ev x :: evs (σ.den env) r
    rw [ih, SS.ev_den]
theorem isZ_den {a : At} (h : isZ a = true) : a.den env = .i 0 := by
  unfold isZ at h
  split at h
  · rfl
  · cases h
theorem ev_good (hg : σ.Good env) (x : Operand) : (σ.ev x).good env = true := by
  cases x with
  | tmp t => exact hg.T t
  | const v =>
    show (zSV v).good env = true
    unfold zSV
    split <;> rfl
  | global g => rfl
  | func f => rfl
theorem sPick_ok {c x y : Operand} (hg : σ.Good env) (ho : o.op = .pick c x y) (h : sPick m (σ.ev c) (σ.ev x) (σ.ev y) = some (nds, v)) (hf : Facts Φ env m nds) : OP P E kp o (σ.den env) (v.den env) := by
  have hc := SS.ev_den env σ c
  have hx := SS.ev_den env σ x
  have hy := SS.ev_den env σ y
  unfold sPick at h
  split at h
  · rename_i e
    cases h
    rw [e, SV.den] at hc
    have := OP.pick (P := P) (E := E) (σ := σ.den env) (kp := kp) (b := true) ho (hc.trans (encC_bool true))
    rw [← hx]
    simpa [pk] using this
  · rename_i e
    cases h
    rw [e, SV.den] at hc
    have := OP.pick (P := P) (E := E) (σ := σ.den env) (kp := kp) (b := false) ho (hc.trans (encC_bool false))
    rw [← hy]
    simpa [pk] using this
  · rename_i a _ _ e
    split at h
    · rename_i k p k' q e1 e2
      split at h
      · rename_i hk
        obtain rfl := CK.beq_eq hk
        cases h
        obtain ⟨h1, h2⟩ := hf.1
        simp only [List.map_cons, List.map_nil, Pr.args, okZ, Bool.and_eq_true, Bool.and_true] at h1 h2
        obtain ⟨b, hb⟩ := okC_bool h2.1
        rw [e, SV.den, hb, encC_bool] at hc
        rw [e1, SV.den] at hx
        rw [e2, SV.den] at hy
        rw [hb] at h1
        simp only [Pr.eval, Option.some.injEq] at h1
        have := OP.pick (P := P) (E := E) (σ := σ.den env) (kp := kp) (b := b) ho hc
        rw [hx, hy] at this
        rw [SV.den, ← h1]
        cases b
        · simpa [pk] using this
        · simpa [pk] using this
      · cases h
    · cases h
  · cases h
theorem sUn_ok {op : UnOp} {t : TypeId} {x : Operand} (ho : o.op = .unOp op t x) (h : sUn m op (σ.ev x) = some (nds, v)) (hf : Facts Φ env m nds) : OP P E kp o (σ.den env) (v.den env) := by
  have hx := SS.ev_den env σ x
  unfold sUn at h
  split at h
  · rename_i e
    cases h
    rw [e, SV.den] at hx
    rw [SV.den]
    have hx' := hx.trans (encC_bool _)
    rw [show (At.k (D.b !_)).den env = D.b (!_) from rfl, encC_bool]
    exact OP.un ho hx' (fun w => by simp [Op.unary])
  · rename_i e
    cases h
    obtain ⟨b, h1, h2⟩ := fact1b hf.1 rfl
    rw [e, SV.den, h1, encC_bool] at hx
    rw [SV.den, ← Option.some.inj h2, encC_bool]
    exact OP.un ho hx (fun w => by simp [Op.unary])
  · rename_i e
    cases h
    obtain ⟨b, h1, h2⟩ := fact1i hf.1 rfl
    rw [e, SV.den, h1, encC_int] at hx
    rw [SV.den, ← Option.some.inj h2, encC_int]
    exact OP.un ho hx (fun w => by simp [Op.unary, Op.intArith])
  · rename_i e
    cases h
    obtain ⟨b, h1, h2⟩ := fact1i hf.1 rfl
    rw [e, SV.den, h1, encC_int] at hx
    rw [SV.den, ← Option.some.inj h2, encC_int]
    exact OP.un ho hx (fun w => by simp [Op.unary, Op.intBits])
  · cases h
theorem bytes_vals : ∀ {xs : List D}, (∀ x ∈ xs, okE [.int .u8] x = true) → encR [.int .u8] xs = vals ((xs.map D.int).map (Value.int .u8))
  | [], _ => rfl
  | d :: ds, h => by
    have h1 := h d List.mem_cons_self
    have h2 := bytes_vals (fun x hx => h x (List.mem_cons_of_mem _ hx))
    simp only [okE, row, okZ, Bool.and_true] at h1
    obtain ⟨n, rfl⟩ := okC_int h1
    simp only [encR, List.flatMap_cons, row, encZ, encC_int] at h2 ⊢
    rw [h2]
    rfl
theorem bytes_fold (xs : List D) : bytesOf xs = (xs.map D.int).foldl (fun r n => r.push (UInt8.ofNat n.toNat)) ByteArray.empty := by
  rw [bytesOf, List.foldl_map]
  rfl
theorem sConv_ok {s d : TypeId} {x : Operand} (htab : TabOk P tab) (hg : σ.Good env) (ho : o.op = .convert s d x) (h : sConv tab kp σ m s d (σ.ev x) = some (nds, v)) (hf : Facts Φ env m nds) : OP P E kp o (σ.den env) (v.den env) := by
  have hx := SS.ev_den env σ x
  have hgx := ev_good hg x
  unfold sConv at h
  split at h
  · rename_i S T hS hT
    obtain ⟨ds, is, zs, su, si, sz, s1, s2, s3, s4, s5, s6⟩ := tyGet_ok htab hS
    obtain ⟨dd, id', zd, du, di, dz, t1, t2, t3, t4, t5, t6⟩ := tyGet_ok htab hT
    split at h
    · rename_i k' k a hk e
      cases h
      rw [t4] at hk
      rw [kindD_int hk] at du
      obtain ⟨z, h1, h2⟩ := fact1i hf.1 rfl
      rw [e, SV.den, h1, encC_int] at hx
      rw [SV.den, ← Option.some.inj h2, encC_int]
      exact OP.convI ho su du hx
    · rename_i a hk e
      cases h
      rw [t4] at hk
      rw [kindD_str hk] at du
      rw [e] at hgx
      obtain ⟨z, h1⟩ := okC_str (show okC .str (a.den env) = true from hgx)
      rw [e, SV.den, h1, encC_str] at hx
      rw [SV.den, h1, encC_str]
      exact OP.conv ho hx (fun w => by cases ds <;> simp [convert, run_underlying su, run_underlying du])
    · rename_i hk _
      rw [t4] at hk
      rw [kindD_str hk] at du
      split at h
      · rename_i e he
        rw [s4] at he
        rw [kindD_slice he] at su
        split at h
        · rename_i F hF
          obtain ⟨df, jf, zf, fu, fi, fz', f1, f2, f3, f4, f5, f6⟩ := tyGet_ok htab hF
          split at h
          · rename_i hfk
            rw [f4] at hfk
            rw [kindD_int hfk] at fu
            have key : ∀ (a : At), Fact env m .bstr [a] → ∃ xs, a.den env = .l xs ∧ (∀ y ∈ xs, okE [.int .u8] y = true) ∧ (At.v m).den env = .s (bytesOf xs) := fun a ha => by
              obtain ⟨h1, h2⟩ := ha
              simp only [List.map_cons, List.map_nil, Pr.args, okZ, Bool.and_eq_true, Bool.and_true] at h1 h2
              obtain ⟨xs, e1, e2⟩ := okC_sl h2
              rw [e1] at h1
              exact ⟨xs, e1, e2, (Option.some.inj h1).symm⟩
            split at h
            · rename_i a e0
              cases h
              obtain ⟨xs, e1, e2, e3⟩ := key a hf.1
              rw [e0] at hgx
              rw [e0, SV.den, e1, encC_sl] at hx
              rw [SV.den, e3, encC_str, bytes_fold]
              exact OP.bstr ho su fu du (by rw [hx]; exact .fz (by rw [encR_length]; rfl)) (bytes_vals e2) (fun i k n s' h' => by rw [hx] at h'; cases h')
            · rename_i a e0
              cases h
              obtain ⟨xs, e1, e2, e3⟩ := key a hf.1
              rw [e0, SV.den, e1, encR_noSl rfl] at hx
              rw [SV.den, e3, encC_str, bytes_fold]
              exact OP.bstr ho su fu du (by rw [hx]; exact .fz (by rw [encR_length]; rfl)) (bytes_vals e2) (fun i k n s' h' => by rw [hx] at h'; cases h')
            · rename_i i lo n s' e0
              split at h
              · rename_i hb
                simp only [Bool.and_eq_true] at hb
                obtain ⟨⟨⟨b1, b2⟩, b3⟩, b4⟩ := hb
                obtain rfl := Nat.eq_of_beq_eq_true b1
                split at h
                · rename_i a n' hh
                  cases h
                  obtain ⟨xs, e1, e2, e3⟩ := key a hf.1
                  obtain ⟨ow', e', a', n'', w1, w2⟩ := whole_inv hg b3
                  rw [hh] at w1
                  cases w1
                  rw [e0, SV.den, isZ_den b2, w2, e1] at hx
                  have hx' : (σ.den env).ev x = .sl i 0 xs.length 1 := by
                    rw [hx]
                    simp [D.nat, D.int, D.items]
                  have hgt : hget (σ.den env).H i = some (encR [.int .u8] xs) := by
                    show hget (denH env σ.H) i = _
                    rw [hget_denH, hh]
                    simp [SB.den, e1, D.items]
                  have hlen : (encR [.int .u8] xs).length = xs.length := by rw [encR_length]; simp
                  rw [SV.den, e3, encC_str, bytes_fold]
                  refine OP.bstr (m := xs.length) (news := ((encR [.int .u8] xs).drop 0).take (xs.length * 1)) ho su fu du (by rw [hx']; exact .sl hgt (by rw [hlen]; omega)) ?_ (fun i' k n s' h' => by rw [hx'] at h'; cases h'; exact ⟨rfl, b4⟩)
                  rw [List.drop_zero, Nat.mul_one, ← hlen, List.take_length]
                  exact bytes_vals e2
                · cases h
              · cases h
            · cases h
          · cases h
        · cases h
      · cases h
    · cases h
  · cases h
theorem sField_ok {s : TypeId} {x : Operand} {f : Nat} (htab : TabOk P tab) (ho : o.op = .fieldAddr s x f) (h : sField tab s f (σ.ev x) = some v) : OP P E kp o (σ.den env) (v.den env) := by
  have hx := SS.ev_den env σ x
  unfold sField at h
  split at h
  · rename_i S hS
    obtain ⟨ds, is, zs, su, si, sz, s1, s2, s3, s4, s5, s6⟩ := tyGet_ok htab hS
    split at h
    · rename_i fs hk
      rw [s4] at hk
      obtain ⟨gs, rfl, rfl⟩ := kindD_struct hk
      split at h
      · rename_i ft off hfd
        simp only [List.getElem?_map, Option.map_eq_some_iff] at hfd
        obtain ⟨fd, hfd, e⟩ := hfd
        cases e
        have hfd' : gs[f]? = some fd := by simpa using hfd
        split at h
        · rename_i F hF
          obtain ⟨df, jf, zf, fu, fi, fz', f1, f2, f3, f4, f5, f6⟩ := tyGet_ok htab hF
          split at h
          · cases h
          · rename_i h0
            have h0' : jf.size ≠ 0 := by
              intro e
              rw [f1, e] at h0
              simp at h0
            split at h
            · rename_i i k e
              cases h
              rw [e] at hx
              exact OP.fieldAddr ho su hfd' fi h0' hx
            · rename_i i ix s' k e
              cases h
              rw [e] at hx
              have := OP.fieldAddr (P := P) (E := E) (σ := σ.den env) (kp := kp) ho su hfd' fi h0' hx
              rw [Nat.add_assoc] at this
              exact this
            · rename_i l e' a ix k e
              cases h
              rw [e] at hx
              have := OP.fieldAddrF (P := P) (E := E) (σ := σ.den env) (kp := kp) ho su hfd' fi h0' hx
              rw [List.drop_drop, Nat.add_assoc] at this
              exact this
            · cases h
        · cases h
      · cases h
    · cases h
  · cases h
theorem fact_len {e : List CK} {a : At} (h : Fact env m (.len e) [a]) : ∃ xs, a.den env = .l xs ∧ (At.v m).den env = .i xs.length := by
  obtain ⟨h1, h2⟩ := h
  simp only [List.map_cons, List.map_nil, Pr.args, okZ, Bool.and_eq_true, Bool.and_true] at h1 h2
  obtain ⟨xs, e1, e2⟩ := okC_sl h2
  rw [e1] at h1
  exact ⟨xs, e1, (Option.some.inj h1).symm⟩
theorem fact_ixc {k : IntKind} {z n : At} (h : Fact env m (.ixc k) [z, n]) : ∃ i c, z.den env = .i i ∧ n.den env = .i c ∧ 0 ≤ i ∧ i < c ∧ (At.v m).den env = .i i := by
  obtain ⟨i, c, h1, h2, h3⟩ := fact2i h rfl
  simp only [Pr.eval] at h3
  split at h3
  · rename_i hh
    exact ⟨i, c, h1, h2, hh.1, hh.2, (Option.some.inj h3).symm⟩
  · cases h3
theorem fact_plus {z n : At} (h : Fact env m .plus [z, n]) : ∃ i c, z.den env = .i i ∧ n.den env = .i c ∧ 0 ≤ i ∧ 0 ≤ c ∧ (At.v m).den env = .i (i + c) := by
  obtain ⟨i, c, h1, h2, h3⟩ := fact2i h rfl
  simp only [Pr.eval] at h3
  split at h3
  · rename_i hh
    exact ⟨i, c, h1, h2, hh.1, hh.2, (Option.some.inj h3).symm⟩
  · cases h3
theorem sIndex_ok {t : TypeId} {x z : Operand} (htab : TabOk P tab) (hg : σ.Good env) (ho : o.op = .indexAddr t x z) (h : sIndex tab m t (σ.ev x) (σ.ev z) = some (nds, v)) (hf : Facts Φ env m nds) : OP P E kp o (σ.den env) (v.den env) := by
  have hx := SS.ev_den env σ x
  have hz := SS.ev_den env σ z
  have hgx := ev_good hg x
  unfold sIndex at h
  split at h
  · rename_i T hT
    obtain ⟨dt, it, zt, tu, ti, tz, t1, t2, t3, t4, t5, t6⟩ := tyGet_ok htab hT
    split at h
    · rename_i e hk
      rw [t4] at hk
      rw [kindD_slice hk] at tu
      split at h
      · rename_i F hF
        obtain ⟨df, jf, zf, fu, fi, fz', f1, f2, f3, f4, f5, f6⟩ := tyGet_ok htab hF
        split at h
        · rename_i k za ez
          rw [ez] at hz
          split at h
          · rename_i i lo n s ex
            rw [ex] at hx hgx
            split at h
            · rename_i hs
              have hs := Nat.eq_of_beq_eq_true hs
              split at h
              · rename_i hlo
                cases h
                obtain ⟨zi, c, h1, h2, h3, h4, h5⟩ := fact_ixc hf.1
                rw [SV.den, h1, encC_int] at hz
                simp only [SV.den, isZ_den hlo, h2, D.nat, D.int, Int.toNat_zero, Nat.zero_mul] at hx
                have := OP.indexAddr (P := P) (E := E) (σ := σ.den env) (kp := kp) ho tu fi hx hz h3 (by omega)
                simp only [SV.den, h5, D.nat, D.int, Nat.add_zero]
                rw [hs, f1]
                simpa using this
              · cases h
                obtain ⟨zi, c, h1, h2, h3, h4, h5⟩ := fact_ixc hf.1
                obtain ⟨l0, c2, g1, g2, g3, g4, g5⟩ := fact_plus hf.2.1
                rw [h5] at g2
                cases g2
                rw [SV.den, h1, encC_int] at hz
                simp only [SV.den, g1, h2, D.nat, D.int] at hx
                have := OP.indexAddr (P := P) (E := E) (σ := σ.den env) (kp := kp) ho tu fi hx hz h3 (by omega)
                simp only [SV.den, g5, D.nat, D.int, Nat.add_zero]
                rw [show (l0 + zi).toNat = l0.toNat + zi.toNat by omega, Nat.add_mul]
                rw [hs, f1] at this ⊢
                exact this
            · cases h
          · rename_i nosl
            split at h
            · rename_i l e' a ea
              split at h
              · rename_i hs
                have hs := Nat.eq_of_beq_eq_true hs
                cases h
                obtain ⟨xs, h0, h0', hden⟩ := asSl_den ea hgx
                obtain ⟨xs', g1, g2⟩ := fact_len hf.1
                rw [h0] at g1
                cases g1
                obtain ⟨zi, c, h1, h2, h3, h4, h5⟩ := fact_ixc hf.2.1
                rw [g2] at h2
                cases h2
                rw [SV.den, h1, encC_int] at hz
                rw [hden, hs, f1] at hx
                have := OP.indexAddrF (P := P) (E := E) (σ := σ.den env) (kp := kp) ho tu fi hx hz h3 h4
                simp only [SV.den, h0, h5, D.nat, D.int, D.items, Nat.add_zero, hs, f1]
                exact this
              · cases h
            · cases h
        · cases h
      · cases h
    · cases h
  · cases h
theorem sLen_ok {t : TypeId} {x : Operand} (htab : TabOk P tab) (hg : σ.Good env) (ho : o.op = .call ⟨.builtin .len, #[x], #[t]⟩) (h : sLen tab σ m t (σ.ev x) = some (nds, v)) (hf : Facts Φ env m nds) : OP P E kp o (σ.den env) (v.den env) := by
  have hx := SS.ev_den env σ x
  have hgx := ev_good hg x
  unfold sLen at h
  split at h
  · rename_i T hT
    obtain ⟨dt, it, zt, tu, ti, tz, t1, t2, t3, t4, t5, t6⟩ := tyGet_ok htab hT
    split at h
    · rename_i e i lo n s hk ex
      rw [t4] at hk
      rw [kindD_slice hk] at tu
      rw [ex] at hx
      split at h
      · rename_i hw
        cases h
        obtain ⟨ow', e', a', n', w1, w2⟩ := whole_inv hg hw
        have := OP.lenS (P := P) (E := E) (σ := σ.den env) (kp := kp) ho tu hx
        rw [w2] at this
        rw [SV.den, w2, encC_int]
        simpa [D.nat, D.int, goInt] using this
      · cases h
        obtain ⟨z, h1, h2⟩ := fact1i hf.1 rfl
        simp only [Pr.eval] at h2
        split at h2
        · rename_i hz
          have := OP.lenS (P := P) (E := E) (σ := σ.den env) (kp := kp) ho tu hx
          rw [h1] at this
          rw [SV.den, ← Option.some.inj h2, encC_int]
          simp only [D.nat, D.int, goInt] at this
          rw [Int.toNat_of_nonneg hz] at this
          exact this
        · cases h2
    · rename_i e i e1 a ix c hk ex
      rw [t4] at hk
      rw [kindD_slice hk] at tu
      rw [ex] at hx
      split at h
      · rename_i hc
        cases h
        obtain ⟨ys, g1, g2, _⟩ := atRC_fact hf.1 hc
        obtain ⟨zs, l1, l2⟩ := fact_len hf.2.1
        rw [g1] at l1
        cases l1
        simp only [SV.den, g2] at hx
        have := OP.lenS (P := P) (E := E) (σ := σ.den env) (kp := kp) ho tu hx
        rw [SV.den, l2, encC_int]
        simpa [goInt] using this
      · cases h
    · rename_i e hk ex
      cases h
      rw [t4] at hk
      rw [kindD_slice hk] at tu
      rw [ex] at hx
      have := OP.lenV (P := P) (E := E) (σ := σ.den env) (kp := kp) ho tu hx
      simpa [SV.den, At.den, encC_int, goInt] using this
    · rename_i e hk ex
      cases h
      rw [t4] at hk
      rw [kindD_slice hk] at tu
      rw [ex] at hx
      have := OP.lenE (P := P) (E := E) (σ := σ.den env) (kp := kp) ho tu hx
      simpa [SV.den, At.den, encC_int, goInt] using this
    · rename_i e hk _ _ _ _
      rw [t4] at hk
      rw [kindD_slice hk] at tu
      split at h
      · rename_i l e' a ea
        cases h
        obtain ⟨xs, h0, h0', hden⟩ := asSl_den ea hgx
        obtain ⟨xs', g1, g2⟩ := fact_len hf.1
        rw [h0] at g1
        cases g1
        rw [hden] at hx
        rw [SV.den, g2, encC_int]
        exact OP.lenF ho tu hx
      · cases h
    · rename_i a hk ex
      cases h
      rw [t4] at hk
      rw [kindD_str hk] at tu
      obtain ⟨h1, h2⟩ := hf.1
      simp only [List.map_cons, List.map_nil, Pr.args, okZ, Bool.and_eq_true, Bool.and_true] at h1 h2
      obtain ⟨z, e1⟩ := okC_str h2
      rw [e1] at h1
      rw [ex, SV.den, e1, encC_str] at hx
      rw [SV.den, ← Option.some.inj h1, encC_int]
      exact OP.lenStr ho tu hx
    · cases h
  · cases h
end
end Go.BH

/- Pure operations in letters, 4: all of them are right. -/
set_option linter.unusedVariables false
set_option linter.unusedSimpArgs false
namespace Go.BH
open Go.RowKit
section
variable {P : Program} {E : En} {σ : SS} {o : Oper} {kp : Nat → Bool} {tab : TyTab} {env : List D} {m : Nat} {nds : List Nd} {v : SV} {Φ : Fns}
theorem sBd_ok {x : Option Operand} {dflt a : At} {k : IntKind} {n : Nat} {z : Int} (h : sBd σ dflt x = some (k, a)) (ha : a.den env = .i z) (h0 : 0 ≤ z) (hd : dflt.den env = .i n) : bd (σ.den env) n x z.toNat := by
  cases x with
  | none =>
    simp only [sBd, Option.some.injEq, Prod.mk.injEq] at h
    obtain ⟨_, rfl⟩ := h
    rw [hd] at ha
    cases ha
    simp [bd]
  | some x =>
    have hx := SS.ev_den env σ x
    simp only [sBd] at h
    split at h
    · rename_i k' a' e
      cases h
      rw [e, SV.den, ha, encC_int] at hx
      exact ⟨k, by rw [Int.toNat_of_nonneg h0]; exact hx⟩
    · cases h
theorem fact_rng {k k' : IntKind} {l h n : At} (hf : Fact env m (.rng k k') [l, h, n]) : ∃ a b c, l.den env = .i a ∧ h.den env = .i b ∧ n.den env = .i c ∧ 0 ≤ a ∧ a ≤ b ∧ b ≤ c ∧ (At.v m).den env = .i (b - a) := by
  obtain ⟨h1, h2⟩ := hf
  simp only [List.map_cons, List.map_nil, Pr.args, okZ, Bool.and_eq_true, Bool.and_true] at h1 h2
  obtain ⟨a, ha⟩ := okC_int h2.1
  obtain ⟨b, hb⟩ := okC_int h2.2.1
  obtain ⟨c, hc⟩ := okC_int h2.2.2
  rw [ha, hb, hc] at h1
  simp only [Pr.eval] at h1
  split at h1
  · rename_i hh
    exact ⟨a, b, c, ha, hb, hc, hh.1, hh.2.1, hh.2.2, (Option.some.inj h1).symm⟩
  · cases h1
theorem fact_cut {e : List CK} {k k' : IntKind} {x l h : At} (hf : Fact env m (.cut e k k') [x, l, h]) : ∃ xs a b, x.den env = .l xs ∧ l.den env = .i a ∧ h.den env = .i b ∧ 0 ≤ a ∧ a ≤ b ∧ b ≤ xs.length ∧ (At.v m).den env = .l ((xs.drop a.toNat).take (b.toNat - a.toNat)) := by
  obtain ⟨h1, h2⟩ := hf
  simp only [List.map_cons, List.map_nil, Pr.args, okZ, Bool.and_eq_true, Bool.and_true] at h1 h2
  obtain ⟨xs, hx, _⟩ := okC_sl h2.1
  obtain ⟨a, ha⟩ := okC_int h2.2.1
  obtain ⟨b, hb⟩ := okC_int h2.2.2
  rw [hx, ha, hb] at h1
  simp only [Pr.eval] at h1
  split at h1
  · rename_i hh
    exact ⟨xs, a, b, hx, ha, hb, hh.1, hh.2.1, hh.2.2, (Option.some.inj h1).symm⟩
  · cases h1
theorem wrap_id {a : Int} (h0 : 0 ≤ a) (h1 : a < 9223372036854775808) : IntKind.i64.wrap a = a := by rw [IntKind.wrap_i64]; omega
theorem sCut_ok {t : TypeId} {x : Operand} {lo hi : Option Operand} (htab : TabOk P tab) (hg : σ.Good env) (ho : o.op = .slice t x lo hi none) (h : sCut tab σ m t (σ.ev x) lo hi = some (nds, v)) (hf : Facts Φ env m nds) : OP P E kp o (σ.den env) (v.den env) := by
  have hx := SS.ev_den env σ x
  have hgx := ev_good hg x
  unfold sCut at h
  split at h
  · rename_i T hT
    obtain ⟨dt, it, zt, tu, ti, tz, t1, t2, t3, t4, t5, t6⟩ := tyGet_ok htab hT
    split at h
    · rename_i e hk
      rw [t4] at hk
      rw [kindD_slice hk] at tu
      split at h
      · rename_i F hF
        obtain ⟨df, jf, zf, fu, fi, fz', f1, f2, f3, f4, f5, f6⟩ := tyGet_ok htab hF
        split at h
        · rename_i i l0 n s ex
          rw [ex] at hx
          split at h
          · rename_i kl al kh ah hl hh
            split at h
            · rename_i hs
              have hs := Nat.eq_of_beq_eq_true hs
              have key : ∀ {m : Nat} {r : List Nd}, Facts Φ env m (.pr (.rng kl kh) [al, ah, n] :: .pr (.nat kl) [al] :: r) → ∃ a b c : Int, al.den env = .i a ∧ ah.den env = .i b ∧ n.den env = .i c ∧ 0 ≤ a ∧ a ≤ b ∧ b ≤ c ∧ (At.v m).den env = .i (b - a) ∧ (At.v (m + 1)).den env = .i a ∧ Facts Φ env (m + 2) r := fun {m r} hf => by
                obtain ⟨a, b, c, g1, g2, g3, g4, g5, g6, g7⟩ := fact_rng hf.1
                obtain ⟨a', k1, k2⟩ := fact1i hf.2.1 rfl
                rw [g1] at k1
                cases k1
                simp only [Pr.eval, if_pos g4, Option.some.injEq] at k2
                exact ⟨a, b, c, g1, g2, g3, g4, g5, g6, g7, k2.symm, hf.2.2⟩
              split at h
              · rename_i hz0
                cases h
                obtain ⟨a, b, c, g1, g2, g3, g4, g5, g6, g7, g8, _⟩ := key hf
                simp only [SV.den, isZ_den hz0, g3, D.nat, D.int, Int.toNat_zero, Nat.zero_mul, hs, f1] at hx
                have b1 := sBd_ok (n := 0) hl g1 g4 rfl
                have b2 := sBd_ok (n := c.toNat) hh g2 (by omega) (by rw [Int.toNat_of_nonneg (by omega)]; exact g3)
                have := OP.cut (P := P) (E := E) (σ := σ.den env) (kp := kp) ho tu fi hx b1 b2 (by omega) (by omega)
                simp only [SV.den, g7, g8, D.nat, D.int, hs, f1]
                rw [Nat.zero_add] at this
                rw [show (b - a).toNat = b.toNat - a.toNat by omega]
                exact this
              · cases h
                obtain ⟨a, b, c, g1, g2, g3, g4, g5, g6, g7, g8, hf3⟩ := key hf
                obtain ⟨l, a', p1, p2, p3, p4, p5⟩ := fact_plus hf3.1
                rw [g8] at p2
                cases p2
                simp only [SV.den, p1, g3, D.nat, D.int, hs, f1] at hx
                have b1 := sBd_ok (n := 0) hl g1 g4 rfl
                have b2 := sBd_ok (n := c.toNat) hh g2 (by omega) (by rw [Int.toNat_of_nonneg (by omega)]; exact g3)
                have := OP.cut (P := P) (E := E) (σ := σ.den env) (kp := kp) ho tu fi hx b1 b2 (by omega) (by omega)
                simp only [SV.den, g7, p5, D.nat, D.int, hs, f1]
                rw [show (b - a).toNat = b.toNat - a.toNat by omega, show (l + a).toNat = l.toNat + a.toNat by omega, Nat.add_mul]
                exact this
            · cases h
          · cases h
        · rename_i nosl
          split at h
          · rename_i l e' a ea
            split at h
            · rename_i kl al kh ah hl hh
              split at h
              · rename_i hs
                have hs := Nat.eq_of_beq_eq_true hs
                cases h
                obtain ⟨xs, h0, h0', hden⟩ := asSl_den ea hgx
                obtain ⟨xs', g1, g2⟩ := fact_len hf.1
                rw [h0] at g1
                cases g1
                obtain ⟨ys, za, zb, c1, c2, c3, c4, c5, c6, c7⟩ := fact_cut hf.2.1
                rw [h0] at c1
                cases c1
                rw [hden, hs, f1] at hx
                have b1 := sBd_ok (n := 0) hl c2 c4 rfl
                have b2 := sBd_ok hh c3 (by omega) g2
                have := OP.cutF (P := P) (E := E) (σ := σ.den env) (kp := kp) ho tu fi hx b1 b2 (by omega) (by omega)
                rw [ofSl_den c7, hs, f1]
                have hlen : ((xs.drop za.toNat).take (zb.toNat - za.toNat)).length = zb.toNat - za.toNat := by simp; omega
                rw [hlen]
                rw [← f1, ← hs, lq_drop, lq_take, encR_drop, encR_take] at this
                rw [← f1, ← hs]
                exact this
              · cases h
            · cases h
          · cases h
      · cases h
    · rename_i hk
      rw [t4] at hk
      rw [kindD_str hk] at tu
      split at h
      · rename_i a ex
        split at h
        · rename_i kl al kh ah hl hh
          cases h
          obtain ⟨h1, h2⟩ := hf.1
          simp only [List.map_cons, List.map_nil, Pr.args, okZ, Bool.and_eq_true, Bool.and_true] at h1 h2
          obtain ⟨z, e1⟩ := okC_str h2
          rw [e1] at h1
          rw [ex, SV.den, e1, encC_str] at hx
          obtain ⟨h3, h4⟩ := hf.2.1
          simp only [List.map_cons, List.map_nil, Pr.args, okZ, Bool.and_eq_true, Bool.and_true] at h3 h4
          obtain ⟨za, ha⟩ := okC_int h4.2.1
          obtain ⟨zb, hb⟩ := okC_int h4.2.2
          rw [e1, ha, hb] at h3
          simp only [Pr.eval] at h3
          split at h3
          · rename_i hh'
            have b1 := sBd_ok (n := 0) hl ha hh'.1 rfl
            have b2 := sBd_ok hh hb (by omega) (Option.some.inj h1).symm
            rw [SV.den, ← Option.some.inj h3, encC_str]
            exact OP.cutStr ho tu hx b1 b2 (by omega) (by omega)
          · cases h3
        · cases h
      · cases h
    · cases h
  · cases h
theorem updS_den : ∀ (xs cs : List SV) (k : Nat), SV.dens env (updS cs k xs) = upd (SV.dens env cs) k (SV.dens env xs)
  | [], cs, k => rfl
  | x :: xs, cs, k => by
    simp only [updS, SV.dens, upd]
    rw [updS_den xs]
    congr 1
    simp [dens_map, List.map_set]
theorem updS_length : ∀ (xs cs : List SV) (k : Nat), (updS cs k xs).length = cs.length
  | [], cs, k => rfl
  | x :: xs, cs, k => by simp [updS, updS_length xs]
theorem goods_cells {x : SV} (h : x.good env = true) : SV.goods env x.cells = true := by
  cases x <;> simp_all [SV.cells, SV.goods, SV.good]
theorem fillS_ok {place : Nat → Option (Nat × Nat)} : ∀ (ps : List (Nat × SV)) (cs ds : List SV), (∀ p ∈ ps, p.2.good env = true) → fillS place cs ps = some ds → fillA place (SV.dens env cs) (ps.map fun p => (p.1, p.2.den env)) = some (SV.dens env ds) ∧ ds.length = cs.length
  | [], cs, ds, _, h => by
    cases h
    exact ⟨rfl, rfl⟩
  | (i, x) :: r, cs, ds, hg, h => by
    simp only [fillS] at h
    simp only [List.map_cons, fillA]
    split at h
    · cases h
    · rename_i off size hp
      rw [hp]
      split at h
      · rename_i hb
        simp only [Bool.and_eq_true] at hb
        obtain ⟨⟨h1, h2⟩, h3⟩ := hb
        have hgx := hg _ List.mem_cons_self
        have h4 := SV.ones_den h3 (goods_cells hgx)
        obtain ⟨k1, k2⟩ := fillS_ok r _ ds (fun p hp => hg p (List.mem_cons_of_mem _ hp)) h
        rw [updS_den] at k1
        rw [updS_length] at k2
        refine ⟨?_, k2⟩
        simp only [SV.cells_den, dens_len]
        rw [if_pos (by rw [h1, show Nat.ble (off + size) cs.length = true from h2, h4]; rfl)]
        exact k1
      · cases h
theorem zSVs_den (l : List Value) : SV.dens env (l.map zSV) = vals l := by
  induction l with
  | nil => rfl
  | cons x xs ih => simp only [List.map_cons, SV.dens, zSV_den, ih]; rfl
theorem plS_run (htab : TabOk P tab) (w : World) : ∀ (fs : List Field) (l : List (Nat × Nat)), plS tab (fs.map fun f => (f.type, f.offset)) = some l → (fs.mapM fun f => do pure (f.offset, ← sizeOf f.type) : Sem (List (Nat × Nat))).run P w = .ok l w
  | [], l, h => by
    cases h
    rfl
  | f :: fs, l, h => by
    simp only [List.map_cons, plS] at h
    split at h
    · rename_i T r hT hr
      cases h
      obtain ⟨dt, it, zt, tu, ti, tz, t1, _⟩ := tyGet_ok htab hT
      rw [List.mapM_cons]
      simp only [Sem.run_bind, run_sizeOf' ti, Result.andThen_ok, Sem.run_pure, plS_run htab w fs r hr, t1]
    · cases h
theorem partsS_den (ps : List (Nat × Operand)) : (partsS σ ps).map (fun p => (p.1, p.2.den env)) = ps.map fun p => (p.1, (σ.den env).ev p.2) := by
  induction ps with
  | nil => rfl
  | cons p r ih =>
    obtain ⟨i, x⟩ := p
    simp only [partsS, List.map_cons, ih, SS.ev_den]
theorem partsS_good (hg : σ.Good env) (ps : List (Nat × Operand)) : ∀ p ∈ partsS σ ps, p.2.good env = true := by
  induction ps with
  | nil => intro p hp; simp [partsS] at hp
  | cons q r ih =>
    obtain ⟨i, x⟩ := q
    intro p hp
    simp only [partsS, List.mem_cons] at hp
    rcases hp with rfl | hp
    · exact ev_good hg x
    · exact ih p hp
theorem sBuild_ok {t : TypeId} {ps : List (Nat × Operand)} (htab : TabOk P tab) (hg : σ.Good env) (ho : o.op = .build t ps.toArray) (h : sBuild tab σ t ps = some v) : OP P E kp o (σ.den env) (v.den env) := by
  unfold sBuild at h
  split at h
  · rename_i T hT
    obtain ⟨dt, it, zt, tu, ti, tz, t1, t2, t3, t4, t5, t6⟩ := tyGet_ok htab hT
    split at h
    · rename_i fs hk
      rw [t4] at hk
      obtain ⟨gs, rfl, rfl⟩ := kindD_struct hk
      split at h
      · rename_i pl hpl
        split at h
        · rename_i ds hds
          cases h
          obtain ⟨k1, k2⟩ := fillS_ok _ _ _ (partsS_good hg ps) hds
          rw [zSVs_den, partsS_den, t5] at k1
          refine OP.build (pl := pl.toArray) ho tu ti tz (fun w => ?_) (by simpa using k1)
          rw [Array.mapM_eq_mapM_toList]
          simp only [map_eq_pure_bind, Sem.run_bind, plS_run htab w _ _ hpl, Result.andThen_ok, Sem.run_pure]
        · cases h
      · cases h
    · cases h
  · cases h
theorem sFld_ok {s : TypeId} {x : Operand} {f : Nat} (htab : TabOk P tab) (ho : o.op = .field s x f) (h : sFld tab s f (σ.ev x) = some v) : OP P E kp o (σ.den env) (v.den env) := by
  have hx := SS.ev_den env σ x
  unfold sFld at h
  split at h
  · rename_i S cs hS ex
    obtain ⟨ds, is, zs, su, si, sz, s1, s2, s3, s4, s5, s6⟩ := tyGet_ok htab hS
    rw [ex] at hx
    split at h
    · rename_i fs hk
      rw [s4] at hk
      obtain ⟨gs, rfl, rfl⟩ := kindD_struct hk
      split at h
      · rename_i ft off hfd
        simp only [List.getElem?_map, Option.map_eq_some_iff] at hfd
        obtain ⟨fd, hfd, e⟩ := hfd
        cases e
        have hfd' : gs[f]? = some fd := by simpa using hfd
        split at h
        · rename_i F hF
          obtain ⟨df, jf, zf, fu, fi, fz', f1, f2, f3, f4, f5, f6⟩ := tyGet_ok htab hF
          split at h
          · rename_i ha
            cases h
            have := OP.fieldN (P := P) (E := E) (σ := σ.den env) (kp := kp) ho su hfd' fu (by rw [← f3]; exact ha) fi hx
            rw [dens_drop, dens_take, ← f1] at this
            exact this
          · rename_i ha
            exact OP.field1 ho su hfd' fu (by rw [← f3]; simpa using ha) hx (by rw [dens_get, h]; rfl)
        · cases h
      · cases h
    · cases h
  · cases h
theorem sIfc_ok {op : BinOp} {t t' : TypeId} {x : Operand} (htab : TabOk P tab) (hg : σ.Good env) (ho : o.op = .binOp op t x (.const .nilIface) t') (h : sIfc tab m op t (σ.ev x) = some (nds, v)) (hf : Facts Φ env m nds) : OP P E kp o (σ.den env) (v.den env) := by
  have hx := SS.ev_den env σ x
  have hgx := ev_good hg x
  unfold sIfc at h
  split at h
  · rename_i a T h1 hT
    obtain ⟨d, info, z, hu, hi, hz, t1, t2, t3, t4, t5, t6⟩ := tyGet_ok htab hT
    rw [h1] at hx hgx
    simp only [SV.good] at hgx
    obtain ⟨b, hb⟩ := okC_bool hgx
    rw [SV.den, hb] at hx
    split at h
    · rename_i hk
      rw [t4] at hk
      obtain ⟨ms, rfl⟩ := kindD_iface hk
      split at h
      · rename_i he
        have : op = .eql := by cases op <;> simp_all [isEq]
        subst this
        cases h
        rw [SV.den, hb, encC_bool]
        exact OP.ifcNil ho hu hx (.inl ⟨rfl, rfl⟩)
      · split at h
        · rename_i he
          have : op = .neq := by cases op <;> simp_all [isNe]
          subst this
          cases h
          obtain ⟨z3, e4, e5⟩ := fact1b hf.1 rfl
          rw [hb] at e4
          cases e4
          rw [SV.den, ← Option.some.inj e5, encC_bool]
          exact OP.ifcNil ho hu hx (.inr ⟨rfl, rfl⟩)
        · cases h
    · cases h
  · cases h
theorem sPure_ok (htab : TabOk P tab) (hg : σ.Good env) (h : sPure tab kp σ m o.op = some (nds, v)) (hf : Facts Φ env m nds) : OP P E kp o (σ.den env) (v.den env) := by
  generalize hop : o.op = op at h
  unfold sPure at h
  split at h
  · cases h
    rw [← SS.ev_den]
    exact .move hop
  · cases h
    rw [← SS.ev_den]
    exact .assign hop
  · exact sPick_ok hg hop h hf
  · exact sIfc_ok htab hg hop h hf
  · exact sBin_ok htab hop h hf
  · exact sUn_ok hop h hf
  · exact sConv_ok htab hg hop h hf
  · split at h
    · rename_i vs ex
      split at h
      · rename_i v' hv
        cases h
        have hx := (SS.ev_den env σ _).trans (congrArg (SV.den env) ex)
        exact .extract hop hx (by rw [dens_get, hv]; rfl)
      · cases h
    · cases h
  · exact sLoad_ok htab hop h hf
  · split at h
    · rename_i hv
      cases h
      exact sField_ok htab hop hv
    · cases h
  · exact sIndex_ok htab hg hop h hf
  · exact sLen_ok htab hg hop h hf
  · split at h
    · rename_i k a k' b e1 e2
      split at h
      · rename_i hk
        have hk := of_decide_eq_true hk
        subst hk
        cases h
        have hx := (SS.ev_den env σ _).trans (congrArg (SV.den env) e1)
        have hy := (SS.ev_den env σ _).trans (congrArg (SV.den env) e2)
        obtain ⟨z1, z2, h1, h2, h3⟩ := fact2i hf.1 rfl
        rw [SV.den, h1, encC_int] at hx
        rw [SV.den, h2, encC_int] at hy
        rw [SV.den, ← Option.some.inj h3, encC_int]
        exact OP.max hop hx hy
      · cases h
    · cases h
  · split at h
    · rename_i k a k' b e1 e2
      split at h
      · rename_i hk
        have hk := of_decide_eq_true hk
        subst hk
        cases h
        have hx := (SS.ev_den env σ _).trans (congrArg (SV.den env) e1)
        have hy := (SS.ev_den env σ _).trans (congrArg (SV.den env) e2)
        obtain ⟨z1, z2, h1, h2, h3⟩ := fact2i hf.1 rfl
        rw [SV.den, h1, encC_int] at hx
        rw [SV.den, h2, encC_int] at hy
        rw [SV.den, ← Option.some.inj h3, encC_int]
        exact OP.min hop hx hy
      · cases h
    · cases h
  · exact sCut_ok htab hg hop h hf
  · split at h
    · rename_i hv
      cases h
      exact sBuild_ok htab hg hop hv
    · cases h
  · split at h
    · rename_i hv
      cases h
      exact sFld_ok htab hop hv
    · cases h
  · split at h
    · rename_i T a k za hT ex ez
      split at h
      · rename_i hk
        cases h
        obtain ⟨dt, it, zt, tu, ti, tz, t1, t2, t3, t4, t5, t6⟩ := tyGet_ok htab hT
        rw [t4] at hk
        rw [kindD_str hk] at tu
        have hx := (SS.ev_den env σ _).trans (congrArg (SV.den env) ex)
        have hz := (SS.ev_den env σ _).trans (congrArg (SV.den env) ez)
        obtain ⟨h1, h2⟩ := hf.1
        simp only [List.map_cons, List.map_nil, Pr.args, okZ, Bool.and_eq_true, Bool.and_true] at h1 h2
        obtain ⟨s, e1⟩ := okC_str h2.1
        obtain ⟨i, e2⟩ := okC_int h2.2
        rw [e1, e2] at h1
        simp only [Pr.eval] at h1
        split at h1
        · cases h1
        · rename_i hneg
          obtain ⟨b, hb, e3⟩ := Option.map_eq_some_iff.1 h1
          rw [SV.den, e1, encC_str] at hx
          rw [SV.den, e2, encC_int] at hz
          rw [SV.den, ← e3, encC_int]
          exact OP.indexStr hop tu hx hz (by omega) hb
      · cases h
    · cases h
  · rename_i x
    have hx := SS.ev_den env σ x
    split at h
    · rename_i e; cases h; rw [e] at hx; exact .nilPtr hop hx
    · rename_i e; cases h; rw [e] at hx; exact .nilPtr hop hx
    · rename_i e; cases h; rw [e] at hx; exact .nilPfz hop hx
    · rename_i e; cases h; rw [e] at hx; exact .nilFn hop hx
    · cases h
  · cases h
    rw [SV.den, evS_den]
    exact .makeFunc hop
  · cases h
end
end Go.BH

/- Operations in letters that make or write blocks. -/
set_option linter.unusedVariables false
set_option linter.unusedSimpArgs false
namespace Go.BH
open Go.RowKit
def memN (i : Nat) : List Nat → Bool
  | [] => false
  | j :: r => Nat.beq j i || memN i r
def kpOf (ks : List Nat) (i : Nat) : Bool := memN i ks
theorem memN_iff {i : Nat} {l : List Nat} : memN i l = true ↔ i ∈ l := by
  induction l with
  | nil => simp [memN]
  | cons j r ih =>
    simp only [memN, Bool.or_eq_true, ih, List.mem_cons]
    constructor
    · rintro (h | h)
      · exact .inl (Nat.eq_of_beq_eq_true h).symm
      · exact .inr h
    · rintro (h | h)
      · exact .inl (by rw [h]; simp)
      · exact .inr h
def aliveS (σ : SS) : List Nat → Bool
  | [] => true
  | j :: r => (match hgetS σ.H j with
    | some _ => true
    | none => false) && aliveS σ r
def u8sB : List UInt8 → List UInt8 → Bool
  | [], [] => true
  | x :: xs, y :: ys => Nat.beq x.toNat y.toNat && u8sB xs ys
  | _, _ => false
theorem u8sB_eq : ∀ {a b : List UInt8}, u8sB a b = true → a = b
  | [], [], _ => rfl
  | [], _ :: _, h => by simp [u8sB] at h
  | _ :: _, [], h => by simp [u8sB] at h
  | x :: xs, y :: ys, h => by
    simp only [u8sB, Bool.and_eq_true] at h
    rw [UInt8.toNat_inj.1 (Nat.eq_of_beq_eq_true h.1), u8sB_eq h.2]
def At.beq : At → At → Bool
  | .v a, .v b => Nat.beq a b
  | .k (.i a), .k (.i b) => decide (a = b)
  | .k (.b a), .k (.b b) => (match a, b with
    | true, true => true
    | false, false => true
    | _, _ => false)
  | .k (.l []), .k (.l []) => true
  | .k (.s a), .k (.s b) => u8sB a.data.toList b.data.toList
  | _, _ => false
theorem At.beq_eq {a b : At} (h : At.beq a b = true) : a = b := by
  unfold At.beq at h
  split at h
  · rw [Nat.eq_of_beq_eq_true h]
  · rw [of_decide_eq_true h]
  · split at h
    · rfl
    · rfl
    · cases h
  · rfl
  · rename_i a b
    have := Array.toList_inj.1 (u8sB_eq h)
    rw [show a = b from ByteArray.ext this]
  · cases h
/-- Cells that are data of the kinds said. -/
def atomsOf : List CK → List SV → Option (List At)
  | [], [] => some []
  | k :: ks, .dat k' a :: xs => if CK.beq k' k = true then (match atomsOf ks xs with
    | some r => some (a :: r)
    | none => none) else none
  | _, _ => none
def repCK (e : List CK) : Nat → List CK
  | 0 => []
  | n + 1 => e ++ repCK e n
def repSV (e : List SV) : Nat → List SV
  | 0 => []
  | n + 1 => e ++ repSV e n
def constD : List At → Option (List D)
  | [] => some []
  | .k d :: r => (match constD r with
    | some ds => some (d :: ds)
    | none => none)
  | .v _ :: _ => none
section
variable {P : Program} {E : En} {σ : SS} {o : Oper} {ks : List Nat} {tab : TyTab} {env : List D} {m : Nat} {nds : List Nd} {v : SV} {Φ : Fns}
theorem repCK_eq (e : List CK) : ∀ n, repCK e n = (List.replicate n e).flatten
  | 0 => rfl
  | n + 1 => by simp [repCK, repCK_eq e n, List.replicate_succ]
theorem atomsOf_den : ∀ {ks : List CK} {xs : List SV} {as : List At}, atomsOf ks xs = some as → SV.dens env xs = encZ ks (as.map (At.den env)) ∧ as.length = ks.length
  | [], [], as, h => by cases h; exact ⟨rfl, rfl⟩
  | k :: ks, .dat k' a :: xs, as, h => by
    simp only [atomsOf] at h
    split at h
    · rename_i hk
      obtain rfl := CK.beq_eq hk
      split at h
      · rename_i r hr
        cases h
        obtain ⟨h1, h2⟩ := atomsOf_den hr
        exact ⟨by simp only [SV.dens, SV.den, List.map_cons, encZ, h1], by simp [h2]⟩
      · cases h
    · cases h
  | [], _ :: _, as, h => by simp [atomsOf] at h
  | _ :: _, [], as, h => by simp [atomsOf] at h
  | _ :: _, .any :: _, as, h => by simp [atomsOf] at h
  | _ :: _, .lz _ _ _ :: _, as, h => by simp [atomsOf] at h
  | _ :: _, .slD _ _ _ _ _ :: _, as, h => by simp [atomsOf] at h
  | _ :: _, .K _ :: _, as, h => by simp [atomsOf] at h
  | _ :: _, .nilS :: _, as, h => by simp [atomsOf] at h
  | _ :: _, .e0 :: _, as, h => by simp [atomsOf] at h
  | _ :: _, .ptr _ _ :: _, as, h => by simp [atomsOf] at h
  | _ :: _, .ptrE _ _ _ _ :: _, as, h => by simp [atomsOf] at h
  | _ :: _, .sl _ _ _ _ :: _, as, h => by simp [atomsOf] at h
  | _ :: _, .pfz _ _ _ _ _ :: _, as, h => by simp [atomsOf] at h
  | _ :: _, .agg _ :: _, as, h => by simp [atomsOf] at h
  | _ :: _, .tup _ :: _, as, h => by simp [atomsOf] at h
  | _ :: _, .fn _ _ :: _, as, h => by simp [atomsOf] at h
theorem constD_den : ∀ {as : List At} {ds : List D}, constD as = some ds → as.map (At.den env) = ds
  | [], ds, h => by cases h; rfl
  | .k d :: r, ds, h => by
    simp only [constD] at h
    split at h
    · rename_i ds' hr
      cases h
      simp [constD_den hr, At.den]
    · cases h
  | .v _ :: _, ds, h => by simp [constD] at h
theorem encZ_append : ∀ {a b : List CK} {xs : List D}, a.length ≤ xs.length → encZ (a ++ b) xs = encZ a (xs.take a.length) ++ encZ b (xs.drop a.length)
  | [], b, xs, _ => by simp [encZ]
  | k :: ks, b, [], h => by simp at h
  | k :: ks, b, x :: xs, h => by
    simp only [List.cons_append, encZ, List.length_cons, List.take_succ_cons, List.drop_succ_cons, List.cons.injEq, true_and]
    exact encZ_append (by simpa using h)
theorem encR_rowsOf (e : List CK) : ∀ (n : Nat) (ds : List D), ds.length = n * e.length → encR e (rowsOf e n ds) = encZ (repCK e n) ds
  | 0, ds, h => by simp [rowsOf, encR, repCK, encZ]
  | n + 1, ds, h => by
    have hl : e.length ≤ ds.length := by rw [h, Nat.add_mul]; omega
    simp only [rowsOf, encR, List.flatMap_cons, repCK]
    rw [row_unrow (by simp; omega), encZ_append hl]
    congr 1
    have := encR_rowsOf e n (ds.drop e.length) (by simp [h, Nat.add_mul])
    exact this
theorem rowsOf_length (e : List CK) : ∀ (n : Nat) (ds : List D), (rowsOf e n ds).length = n
  | 0, _ => rfl
  | n + 1, ds => by simp [rowsOf, rowsOf_length e n]
/-- What H' knows, H knows. -/
def Le (H' H : Hp) : Prop := ∀ j cs, hget H' j = some cs → hget H j = some cs
/-- σ' says no more than τ: of fewer blocks, at most. -/
structure LeS (σ' τ : St) : Prop where
  T : τ.T = σ'.T
  nx : τ.nx = σ'.nx
  H : Le σ'.H τ.H
theorem LeS.refl (σ : St) : LeS σ σ := ⟨rfl, rfl, fun _ _ h => h⟩
theorem LeS.of {σ' τ : St} (h : τ = σ') : LeS σ' τ := by subst h; exact .refl _
/-- H is what A says, at least. -/
structure Ex (env : List D) (A : List (Nat × SB)) (H : Hp) : Prop where
  main : ∀ t : Nat, hget H (t, 0) = (hgetS A t).map (SB.den env t)
  more : ∀ (t p : Nat) (c : SB) (cs : List AV), hgetS A t = some c → hget (c.more env t) (t, p + 1) = some cs → hget H (t, p + 1) = some cs
theorem Ex.refl (A : List (Nat × SB)) : Ex env A (denH env A) := ⟨fun t => hget_denH env t A, fun t p c cs h k => by rw [hget_denH1, h]; exact k⟩
theorem Ex.le {A : List (Nat × SB)} {H : Hp} (h : Ex env A H) : Le (denH env A) H := fun j cs hj => by
  obtain ⟨t, p⟩ := j
  cases p with
  | zero => rw [h.main]; rw [hget_denH] at hj; exact hj
  | succ p =>
    rw [hget_denH1] at hj
    obtain ⟨c, h1, h2⟩ := Option.bind_eq_some_iff.1 hj
    exact h.more t p c cs h1 h2
theorem hgetS_del_self {i : Nat} : ∀ {H : List (Nat × SB)}, hgetS (hdelS H i) i = none
  | [] => rfl
  | (k, x) :: r => by
    simp only [hdelS]
    split
    · exact hgetS_del_self
    · rename_i e
      simp only [hgetS, if_neg e]
      exact hgetS_del_self
theorem hgetS_del_ne {i j : Nat} (h : j ≠ i) : ∀ {H : List (Nat × SB)}, hgetS (hdelS H i) j = hgetS H j
  | [] => rfl
  | (k, x) :: r => by
    simp only [hdelS]
    by_cases e : k = i
    · subst e
      rw [if_pos (by simp), hgetS_del_ne h]
      simp only [hgetS, natNe (Ne.symm h), Bool.false_eq_true, if_false]
    · rw [if_neg (by rw [natNe e]; simp)]
      simp only [hgetS]
      rw [hgetS_del_ne h]
theorem hgetS_put_ne {i j : Nat} {b : SB} (h : j ≠ i) : ∀ {H : List (Nat × SB)}, hgetS (hputS H i b) j = hgetS H j
  | [] => rfl
  | (k, x) :: r => by
    simp only [hputS]
    by_cases e : k = i
    · subst e
      rw [if_pos (by simp)]
      simp only [hgetS, natNe (Ne.symm h), Bool.false_eq_true, if_false]
    · rw [if_neg (by rw [natNe e]; simp)]
      simp only [hgetS]
      rw [hgetS_put_ne h]
theorem hgetS_put_self {i : Nat} {b : SB} : ∀ {H : List (Nat × SB)}, hgetS (hputS H i b) i = (hgetS H i).map fun _ => b
  | [] => rfl
  | (k, x) :: r => by
    simp only [hputS]
    by_cases e : k = i
    · subst e
      simp [hgetS]
    · rw [if_neg (by rw [natNe e]; simp)]
      simp only [hgetS, natNe e, Bool.false_eq_true, if_false]
      exact hgetS_put_self
theorem hgetS_snoc_eq {i : Nat} {b : SB} : ∀ {H : List (Nat × SB)} {j : Nat}, hgetS (H ++ [(i, b)]) j = match hgetS H j with
    | some c => some c
    | none => if Nat.beq i j = true then some b else none
  | [], j => by simp [hgetS]
  | (k, x) :: r, j => by
    simp only [List.cons_append, hgetS]
    split
    · rfl
    · exact hgetS_snoc_eq
theorem hget_hput_none {H : Hp} {n : Nm} {cs : List AV} (h : hget H n = none) : hget (hput H n cs) n = none := by rw [hput_none h]; exact h
theorem Ex.del {A : List (Nat × SB)} {H : Hp} (h : Ex env A H) (i : Nat) : Ex env (hdelS A i) (hdel H (i, 0)) := ⟨fun t => by
    by_cases e : t = i
    · subst e
      rw [hget_hdel_same, hgetS_del_self]; rfl
    · rw [hget_hdel_ne (nm_ne (Ne.symm e)), hgetS_del_ne e]; exact h.main t, fun t p c cs h1 h2 => by
    by_cases e : t = i
    · subst e
      rw [hgetS_del_self] at h1; cases h1
    · rw [hget_hdel_ne (fun e' => by have := congrArg Prod.snd e'; simp at this)]
      rw [hgetS_del_ne e] at h1
      exact h.more t p c cs h1 h2⟩
theorem Ex.put {A : List (Nat × SB)} {H : Hp} (h : Ex env A H) (i : Nat) {b : SB} (hb : ∀ p cs, (hgetS A i).isSome = true → hget (b.more env i) (i, p + 1) = some cs → hget H (i, p + 1) = some cs) : Ex env (hputS A i b) (hput H (i, 0) (b.den env i)) := ⟨fun t => by
    by_cases e : t = i
    · subst e
      rw [hgetS_put_self]
      cases g : hgetS A t with
      | none => rw [hget_hput_none (by rw [h.main, g]; rfl)]; rfl
      | some c => rw [hget_hput_same (by rw [h.main, g]; simp)]; rfl
    · rw [hget_hput_ne (nm_ne (Ne.symm e)), hgetS_put_ne e]; exact h.main t, fun t p c cs h1 h2 => by
    rw [hget_hput_ne (fun e' => by have := congrArg Prod.snd e'; simp at this)]
    by_cases e : t = i
    · subst e
      rw [hgetS_put_self] at h1
      obtain ⟨c0, g, g'⟩ := Option.map_eq_some_iff.1 h1
      subst g'
      exact hb p cs (by rw [g]; rfl) h2
    · rw [hgetS_put_ne e] at h1
      exact h.more t p c cs h1 h2⟩
theorem Ex.snocM {A : List (Nat × SB)} {H M : Hp} (h : Ex env A H) (i : Nat) {b : SB} (hM : ∀ t : Nat, hget M (t, 0) = none) (hb : ∀ p cs, hgetS A i = none → hget (b.more env i) (i, p + 1) = some cs → hget (H ++ (((i, 0), b.den env i) :: M)) (i, p + 1) = some cs) : Ex env (A ++ [(i, b)]) (H ++ (((i, 0), b.den env i) :: M)) := ⟨fun t => by
    rw [hgetS_snoc_eq, hget_app, h.main]
    cases g : hgetS A t with
    | some c => rfl
    | none =>
      simp only [Option.map_none, hget, nbeq, Nat.beq_refl, Bool.and_true]
      split
      · rename_i e
        obtain rfl := Nat.eq_of_beq_eq_true e
        rfl
      · exact hM t, fun t p c cs h1 h2 => by
    rw [hgetS_snoc_eq] at h1
    cases g : hgetS A t with
    | some c0 =>
      rw [g] at h1
      cases h1
      rw [hget_app, h.more t p c cs g h2]
    | none =>
      rw [g] at h1
      simp only at h1
      split at h1
      · rename_i e
        obtain rfl := Nat.eq_of_beq_eq_true e
        cases h1
        exact hb p cs g h2
      · cases h1⟩
theorem Ex.snoc {A : List (Nat × SB)} {H : Hp} (h : Ex env A H) (i : Nat) {b : SB} (hb : b.more env i = []) : Ex env (A ++ [(i, b)]) (H ++ [((i, 0), b.den env i)]) := h.snocM i (fun t => rfl) (fun p cs _ k => by rw [hb] at k; cases k)
theorem Ex.leS {A : List (Nat × SB)} {H : Hp} {T : List (Nat × SV)} {n : Nat} (h : Ex env A H) : LeS (SS.den env ⟨T, A, n⟩) ⟨denT env T, H, n⟩ := ⟨rfl, rfl, h.le⟩
/-- A block of plain rows, or of cells. -/
theorem more_pl (i : Nat) (e : List CK) (a n : At) : SB.more env i (.arr .pl e a n) = [] := rfl
/-- What is shown of an operation that makes or writes blocks. -/
def EffR (P : Program) (E : En) (ks : List Nat) (o : Oper) (σ : SS) (env : List D) (v : SV) (σ' : SS) : Prop :=
  OX P E (kpOf ks) o (σ.den env) (fun r τ => r = v.den env ∧ LeS (σ'.den env) τ) ∧ SInv env σ'
theorem alive_ok (h : aliveS σ ks = true) : ∀ j, kpOf ks j = true → (hget (σ.den env).H j).isSome = true := by
  intro j hj
  have key : ∀ ks, aliveS σ ks = true → j ∈ ks → ((hgetS σ.H j).map (SB.den env j)).isSome = true := by
    intro ks
    induction ks with
    | nil => intro _ hj; cases hj
    | cons i r ih =>
      intro h hj
      simp only [aliveS, Bool.and_eq_true] at h
      rcases List.mem_cons.1 hj with rfl | hj
      · have h1 := h.1
        split at h1
        · rename_i b hb; rw [hb]; rfl
        · cases h1
      · exact ih h.2 hj
  show (hget (denH env σ.H) j).isSome = true
  rw [hget_denH]
  exact key ks h (memN_iff.1 hj)
theorem hgetS_snoc {i : Nat} {b : SB} : ∀ {H : List (Nat × SB)} {j : Nat} {c : SB}, hgetS (H ++ [(i, b)]) j = some c → hgetS H j = some c ∨ (j = i ∧ c = b)
  | [], j, c, h => by
    simp only [List.nil_append, hgetS] at h
    split at h
    · rename_i e
      exact .inr ⟨(Nat.eq_of_beq_eq_true e).symm, (Option.some.inj h).symm⟩
    · cases h
  | (k, x) :: r, j, c, h => by
    simp only [List.cons_append, hgetS] at h ⊢
    split at h
    · rename_i e; rw [if_pos e]; exact .inl h
    · rename_i e; rw [if_neg e]; exact hgetS_snoc h
theorem hgetS_put {i : Nat} {b : SB} : ∀ {H : List (Nat × SB)} {j : Nat} {c : SB}, hgetS (hputS H i b) j = some c → (j ≠ i ∧ hgetS H j = some c) ∨ (j = i ∧ c = b)
  | [], j, c, h => by cases h
  | (k, x) :: r, j, c, h => by
    simp only [hputS] at h
    split at h
    · rename_i e
      obtain rfl := Nat.eq_of_beq_eq_true e
      simp only [hgetS] at h ⊢
      split at h
      · rename_i e'
        exact .inr ⟨(Nat.eq_of_beq_eq_true e').symm, (Option.some.inj h).symm⟩
      · rename_i e'
        rw [if_neg e']
        exact .inl ⟨fun g => e' (by rw [g]; simp), h⟩
    · rename_i e
      simp only [hgetS] at h ⊢
      split at h
      · rename_i e'
        rw [if_pos e']
        obtain rfl := Nat.eq_of_beq_eq_true e'
        exact .inl ⟨fun g => e (by rw [g]; simp), h⟩
      · rename_i e'
        rw [if_neg e']
        exact hgetS_put h
theorem hgetS_del {i : Nat} : ∀ {H : List (Nat × SB)} {j : Nat} {c : SB}, hgetS (hdelS H i) j = some c → hgetS H j = some c
  | [], j, c, h => by cases h
  | (k, x) :: r, j, c, h => by
    simp only [hdelS] at h
    split at h
    · rename_i e
      have := hgetS_del h
      simp only [hgetS]
      split
      · rename_i e'
        have e1 := Nat.eq_of_beq_eq_true e
        have e2 := Nat.eq_of_beq_eq_true e'
        exfalso
        have : ∀ {H : List (Nat × SB)}, hgetS (hdelS H i) i = none := by
          intro H
          induction H with
          | nil => rfl
          | cons p r ih =>
            obtain ⟨k, x⟩ := p
            simp only [hdelS]
            split
            · exact ih
            · rename_i e3
              simp only [hgetS, if_neg e3]
              exact ih
        rw [show j = i by rw [← e2, e1], this] at h
        cases h
      · exact this
    · rename_i e
      simp only [hgetS] at h ⊢
      split at h
      · rename_i e'; rw [if_pos e']; exact h
      · rename_i e'; rw [if_neg e']; exact hgetS_del h
theorem sinv_snoc {b : SB} {T : List (Nat × SV)} {n : Nat} (hg : σ.Good env) (hb : ∀ w e a k, b = .arr w e a k → k.den env = .i (a.den env).items.length) : SInv env ⟨T, σ.H ++ [(σ.nx, b)], n⟩ := fun i w e a k h => by
  rcases hgetS_snoc h with h | ⟨_, h⟩
  · exact (hg.A i w e a k h).2
  · exact hb w e a k h.symm
def sAlloc (tab : TyTab) (ks : List Nat) (σ : SS) (t : TypeId) : Option (SV × SS) :=
  match tyGet tab t with
  | some T => if aliveS σ ks = true then some (.ptr σ.nx 0, ⟨σ.T, σ.H ++ [(σ.nx, .cells (T.zero.map zSV))], σ.nx + 1⟩) else none
  | none => none
theorem sAlloc_ok {t : TypeId} {σ' : SS} (htab : TabOk P tab) (hg : σ.Good env) (ho : o.op = .alloc t) (h : sAlloc tab ks σ t = some (v, σ')) : EffR P E ks o σ env v σ' := by
  unfold sAlloc at h
  split at h
  · rename_i T hT
    obtain ⟨dt, it, zt, tu, ti, tz, t1, t2, t3, t4, t5, t6⟩ := tyGet_ok htab hT
    split at h
    · rename_i hal
      cases h
      refine ⟨(OS.alloc (E := E) (σ := σ.den env) (kp := kpOf ks) ho ti tz (alive_ok hal)).ox ⟨rfl, ?_⟩, sinv_snoc hg (fun w e a k h => by cases h)⟩
      have := (Ex.refl (env := env) σ.H).snoc σ.nx (b := .cells (T.zero.map zSV)) rfl
      rw [show SB.den env σ.nx (.cells (T.zero.map zSV)) = vals zt.cells.toList from by simp only [SB.den, zSVs_den, t5]] at this
      exact this.leS
    · cases h
  · cases h
def sBox (ks : List Nat) (σ : SS) (x : SV) : Option (SV × SS) :=
  if (aliveS σ ks && SV.ones x.cells) = true then some (.ptr σ.nx 0, ⟨σ.T, σ.H ++ [(σ.nx, .cells x.cells)], σ.nx + 1⟩) else none
theorem sBox_ok {t : TypeId} {x : Operand} {σ' : SS} (hg : σ.Good env) (ho : o.op = .box t x) (h : sBox ks σ (σ.ev x) = some (v, σ')) : EffR P E ks o σ env v σ' := by
  unfold sBox at h
  split at h
  · rename_i hal
    simp only [Bool.and_eq_true] at hal
    cases h
    have h1 := SV.ones_den hal.2 (goods_cells (ev_good hg x))
    rw [← SV.cells_den, ← SS.ev_den] at h1
    refine ⟨(OS.box (P := P) (E := E) (σ := σ.den env) (kp := kpOf ks) ho (ones_iff.1 h1) (alive_ok hal.1)).ox ⟨rfl, ?_⟩, sinv_snoc hg (fun w e a k h => by cases h)⟩
    have := (Ex.refl (env := env) σ.H).snoc σ.nx (b := .cells (σ.ev x).cells) rfl
    simp only [SB.den, ← SV.cells_den] at this
    rw [← SS.ev_den] at this
    exact this.leS
  · cases h
def sMkSlice (tab : TyTab) (ks : List Nat) (σ : SS) (m : Nat) (t : TypeId) (n : Nat) (ps : List (Nat × Operand)) : Option (List Nd × SV × SS) :=
  match tyGet tab t with
  | some T => (match T.kind with
    | .slice e => (match tyGet tab e with
      | some F => if aliveS σ ks = true then (match n, ps with
        | 0, [] => some ([], .e0, σ)
        | n, ps => if (Nat.ble (n * F.size) 16777216 && !Nat.beq (n * F.size) 0 && Nat.beq F.zero.length F.size) = true then
          (match fillS (fun i => some (i * F.size, F.size)) (repSV (F.zero.map zSV) n) (partsS σ ps) with
          | some ds => (match atomsOf (repCK F.row n) ds with
            | some as => if Nat.beq F.row.length F.size = true then some ([.pr (.mk F.row n) as], .sl σ.nx (.k (.i 0)) (.k (.i n)) F.size, ⟨σ.T, σ.H ++ [(σ.nx, .arr .pl F.row (.v m) (.k (.i n)))], σ.nx + 1⟩) else none
            | none => some ([], .sl σ.nx (.k (.i 0)) (.k (.i n)) F.size, ⟨σ.T, σ.H ++ [(σ.nx, .cells ds)], σ.nx + 1⟩))
          | none => none) else none) else none
      | none => none)
    | _ => none)
  | none => none
theorem zrep (z : List Value) : ∀ n : Nat, (List.range (n * z.length)).map (fun j => z[j % z.length]!) = (List.replicate n z).flatten
  | 0 => by simp
  | n + 1 => by
    have ih := zrep z n
    rcases Nat.eq_zero_or_pos z.length with h0 | h0
    · have hz : z = [] := List.eq_nil_of_length_eq_zero h0
      subst hz
      simp
    · rw [List.replicate_succ, List.flatten_cons, Nat.add_mul, Nat.one_mul, Nat.add_comm, List.range_add, List.map_append]
      congr 1
      · refine List.ext_getElem (by simp) (fun j h1 h2 => ?_)
        simp only [List.length_map, List.length_range] at h1
        simp [Nat.mod_eq_of_lt h1, h1]
      · rw [List.map_map, ← ih]
        refine List.map_congr_left (fun j _ => ?_)
        simp
theorem repSV_den (z : List Value) : ∀ n, SV.dens env (repSV (z.map zSV) n) = vals ((List.replicate n z).flatten)
  | 0 => rfl
  | n + 1 => by
    simp only [repSV, List.replicate_succ, List.flatten_cons]
    rw [dens_map, List.map_append, ← dens_map, ← dens_map, repSV_den z n, zSVs_den]
    simp [vals]
theorem repSV_length (e : List SV) : ∀ n, (repSV e n).length = n * e.length
  | 0 => by simp [repSV]
  | n + 1 => by simp [repSV, repSV_length e n, Nat.add_mul]; omega
theorem sMkSlice_ok {t : TypeId} {n : Nat} {ps : List (Nat × Operand)} {σ' : SS} (htab : TabOk P tab) (hg : σ.Good env) (ho : o.op = .buildSlice t n ps.toArray) (h : sMkSlice tab ks σ m t n ps = some (nds, v, σ')) (hf : Facts Φ env m nds) : EffR P E ks o σ env v σ' := by
  unfold sMkSlice at h
  split at h
  · rename_i T hT
    obtain ⟨dt, it, zt, tu, ti, tz, t1, t2, t3, t4, t5, t6⟩ := tyGet_ok htab hT
    split at h
    · rename_i e hk
      rw [t4] at hk
      rw [kindD_slice hk] at tu
      split at h
      · rename_i F hF
        obtain ⟨df, jf, zf, fu, fi, fz', f1, f2, f3, f4, f5, f6⟩ := tyGet_ok htab hF
        split at h
        · rename_i hal
          split at h
          · cases h
            exact ⟨(OS.buildSlice0 (P := P) (E := E) (σ := σ.den env) (kp := kpOf ks) ho tu fi (alive_ok hal)).ox ⟨rfl, .refl _⟩, fun i w e a k hh => (hg.A i w e a k hh).2⟩
          · split at h
            · rename_i hb
              simp only [Bool.and_eq_true, Bool.not_eq_true'] at hb
              obtain ⟨⟨b1, b2⟩, b3⟩ := hb
              have b1 := Nat.le_of_ble_eq_true b1
              have b2' : n * F.size ≠ 0 := fun e0 => by rw [e0] at b2; simp at b2
              have b3 := Nat.eq_of_beq_eq_true b3
              split at h
              · rename_i ds hds
                obtain ⟨k1, k2⟩ := fillS_ok _ _ _ (partsS_good hg ps) hds
                rw [repSV_den, partsS_den, ← zrep, b3, f5, f1] at k1
                have hzl : zf.cells.size = jf.size := by
                  have := congrArg List.length f5
                  rw [b3, f1] at this
                  simpa using this.symm
                have hB := fun (ds' : List AV) (hd : ds' = SV.dens env ds) => OS.buildSlice (P := P) (E := E) (σ := σ.den env) (kp := kpOf ks) (n := n) (ds := ds') ho tu fi fz' (by rw [← f1]; exact b1) (by rw [← f1]; exact b2') hzl (by
                  rw [hd]
                  have e2 : (fun j => zf.cells[j % zf.cells.size]!) = (fun j => zf.cells.toList[j % zf.cells.toList.length]!) := funext (fun j => by
                    rw [Array.length_toList, ← Array.getElem!_toList])
                  rw [e2]
                  have e3 : zf.cells.toList.length = jf.size := by simpa using hzl
                  rw [e3]
                  exact k1) (alive_ok hal)
                split at h
                · rename_i as has
                  split at h
                  · rename_i hr
                    have hr := Nat.eq_of_beq_eq_true hr
                    cases h
                    obtain ⟨g1, g2⟩ := hf.1
                    simp only [Pr.eval, Option.some.injEq] at g1
                    obtain ⟨a1, a2⟩ := atomsOf_den (env := env) has
                    have hlen : (as.map (At.den env)).length = n * F.row.length := by
                      rw [List.length_map, a2]
                      rw [repCK_eq]
                      simp
                    refine ⟨(hB (encR F.row (rowsOf F.row n (as.map (At.den env)))) (by rw [encR_rowsOf _ _ _ hlen, a1])).ox ⟨?_, ?_⟩, sinv_snoc hg (fun w e a k h => ?_)⟩
                    · simp only [SV.den, At.den, D.nat, D.int, Int.toNat_zero, Nat.zero_mul, Int.toNat_natCast, f1]
                      rfl
                    · have := (Ex.refl (env := env) σ.H).snoc σ.nx (b := .arr .pl F.row (.v m) (.k (.i n))) rfl
                      simp only [SB.den, ← g1, D.items] at this
                      exact this.leS
                    · cases h
                      rw [← g1]
                      simp [D.items, rowsOf_length, At.den]
                  · cases h
                · cases h
                  refine ⟨(hB (SV.dens env ds) rfl).ox ⟨?_, ?_⟩, sinv_snoc hg (fun w e a k h => by cases h)⟩
                  · simp only [SV.den, At.den, D.nat, D.int, Int.toNat_zero, Nat.zero_mul, Int.toNat_natCast, f1]
                    rfl
                  · exact ((Ex.refl (env := env) σ.H).snoc σ.nx (b := .cells ds) rfl).leS
              · cases h
            · cases h
        · cases h
      · cases h
    · cases h
  · cases h
end
end Go.BH
