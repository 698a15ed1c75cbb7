/- The picture by value, 10: a call within a call. -/
import Derived.Test.YtdjfhggmcigahaaDoorB9
set_option linter.unusedVariables false
set_option linter.unusedSimpArgs false
namespace Go.BH
open Go.RowKit
mutual
theorem VR.ren {f : Nat → Nat} {μ ν : Mu} (h : ∀ i a, μ.pl i = some a → ν.pl (f i) = some a) (hr : ∀ b cs, μ.fz b = some cs → ν.fz b = some cs) : ∀ {x : AV} {c : Value}, x.nl = true → VR μ x c → VR ν (x.ren f) c
  | _, _, _, .any c => .any c
  | _, _, _, .v x => .v x
  | _, _, _, .ptr k => .ptr (h _ _ k)
  | _, _, _, .sl k hc he => .sl (h _ _ k) hc he
  | _, _, _, .sl0 A => .sl0 A
  | _, _, _, .e0 A => .e0 A
  | _, _, _, .ifs t x => .ifs t x
  | .fz l s n xs, _, hn, .fz k hl hc m => by
    simp only [AV.nl, Bool.and_eq_true, Bool.not_eq_true'] at hn
    obtain ⟨rfl, hn⟩ := hn
    exact .fz (l := false) (hr _ _ k) (by rw [rens_length]; exact hl) hc (VRs.ren h hr hn m)
  | _, _, _, .fz0 A c => .fz0 A c
  | .pfz l xs, _, hn, .pfz k m => by
    simp only [AV.nl, Bool.and_eq_true, Bool.not_eq_true'] at hn
    obtain ⟨rfl, hn⟩ := hn
    refine .pfz (l := false) (hr _ _ k) ?_
    rw [rens_length]
    exact VRs.ren h hr hn m
  | _, _, hn, .agg k => .agg (VRs.ren h hr (by simpa [AV.nl] using hn) k)
  | _, _, hn, .tup k => .tup (VRs.ren h hr (by simpa [AV.nl] using hn) k)
  | _, _, hn, .fn m => .fn (VRs.ren h hr (by simpa [AV.nl] using hn) m)
theorem VRs.ren {f : Nat → Nat} {μ ν : Mu} (h : ∀ i a, μ.pl i = some a → ν.pl (f i) = some a) (hr : ∀ b cs, μ.fz b = some cs → ν.fz b = some cs) : ∀ {x : List AV} {c : List Value}, AV.nls x = true → VRs μ x c → VRs ν (AV.rens f x) c
  | _, _, _, .nil => .nil
  | _, _, hn, .cons k m => by
    simp only [AV.nls, Bool.and_eq_true] at hn
    exact .cons (VR.ren h hr hn.1 k) (VRs.ren h hr hn.2 m)
end
mutual
/-- What the caller holds, as the callee is told of it: by name what it may write, else by value (lent for the call alone, if b). -/
inductive Lnd (H : Hp) (ids : List Nat) (ok : Nat → Bool) (b : Bool) : AV → AV → Prop where
  | any (x : AV) : Lnd H ids ok b x .any
  | v (x : Value) : Lnd H ids ok b (.v x) (.v x)
  | e0 : Lnd H ids ok b .e0 .e0
  | ptr {i n o : Nat} (h : ids[n]? = some i) : Lnd H ids ok b (.ptr i o) (.ptr n o)
  | slN {i n o m s : Nat} (h : ids[n]? = some i) : Lnd H ids ok b (.sl i o m s) (.sl n o m s)
  | fz {l l' : Bool} {s n : Nat} {xs ys : List AV} (h : l' = l ∨ (b = true ∧ l' = true)) (k : Lnds H ids ok b xs ys) : Lnd H ids ok b (.fz l s n xs) (.fz l' s n ys)
  | pfz {l l' : Bool} {xs ys : List AV} (h : l' = l ∨ (b = true ∧ l' = true)) (k : Lnds H ids ok b xs ys) : Lnd H ids ok b (.pfz l xs) (.pfz l' ys)
  | sl {i o n s : Nat} {cs ys : List AV} (hb : b = true) (hi : ok i = true) (hg : hget H i = some cs) (he : o + n * s ≤ cs.length) (k : Lnds H ids ok b ((cs.drop o).take (n * s)) ys) : Lnd H ids ok b (.sl i o n s) (.fz true s n ys)
  | ptrF {i o : Nat} {cs ys : List AV} (hb : b = true) (hi : ok i = true) (hg : hget H i = some cs) (k : Lnds H ids ok b (cs.drop o) ys) : Lnd H ids ok b (.ptr i o) (.pfz true ys)
  | nilF {l : Bool} {s : Nat} : Lnd H ids ok b (.v (.slice none 0 0)) (.fz l s 0 [])
  | e0F {l : Bool} {s : Nat} : Lnd H ids ok b .e0 (.fz l s 0 [])
  | agg {xs ys : List AV} (k : Lnds H ids ok b xs ys) : Lnd H ids ok b (.agg xs) (.agg ys)
  | tup {xs ys : List AV} (k : Lnds H ids ok b xs ys) : Lnd H ids ok b (.tup xs) (.tup ys)
  | fn {f : Fn} {xs ys : List AV} (k : Lnds H ids ok b xs ys) : Lnd H ids ok b (.fn f xs) (.fn f ys)
inductive Lnds (H : Hp) (ids : List Nat) (ok : Nat → Bool) (b : Bool) : List AV → List AV → Prop where
  | nil : Lnds H ids ok b [] []
  | cons {x y : AV} {xs ys : List AV} (h : Lnd H ids ok b x y) (k : Lnds H ids ok b xs ys) : Lnds H ids ok b (x :: xs) (y :: ys)
end
theorem Lnds.length {H : Hp} {ids : List Nat} {ok : Nat → Bool} {b : Bool} : ∀ {x y : List AV}, Lnds H ids ok b x y → y.length = x.length
  | _, _, .nil => rfl
  | _, _, .cons _ k => by simp [Lnds.length k]
theorem Lnds.get {H : Hp} {ids : List Nat} {ok : Nat → Bool} {b : Bool} : ∀ {x y : List AV}, Lnds H ids ok b x y → ∀ (j : Nat) (v : AV), y[j]? = some v → ∃ u, x[j]? = some u ∧ Lnd H ids ok b u v
  | _, _, .nil, j, v, h => by simp at h
  | _, _, .cons h k, 0, v, hj => by simp at hj; subst hj; exact ⟨_, rfl, h⟩
  | _, _, .cons h k, j + 1, v, hj => by
    obtain ⟨u, h1, h2⟩ := Lnds.get k j v (by simpa using hj)
    exact ⟨u, by simpa using h1, h2⟩
/-- What two pictures have to do with each other, if what the one holds is told to the other. -/
structure Tells (μ ν : Mu) (H : Hp) (ids : List Nat) (ok : Nat → Bool) : Prop where
  nm : ∀ n i, ids[n]? = some i → ∀ a, μ.pl i = some a → ν.pl n = some a
  fz : ∀ b cs, μ.fz b = some cs → ν.fz b = some cs
  ln : ∀ l b cs, μ.rd l b = some cs → ν.ln b = some cs
  own : ∀ i cs a, ok i = true → hget H i = some cs → μ.pl i = some a → ∃ l, ν.ln a.block = some l ∧ VRs μ cs ((l.drop a.base).take cs.length)
mutual
theorem VR.told {μ ν : Mu} {H : Hp} {ids : List Nat} {ok : Nat → Bool} (T : Tells μ ν H ids ok) {b : Bool} : ∀ {x y : AV} {c : Value}, Lnd H ids ok b x y → VR μ x c → VR ν y c
  | _, _, _, .any _, _ => .any _
  | _, _, _, .v _, h => by cases h; exact .v _
  | _, _, _, .e0, h => by cases h; exact .e0 _
  | _, _, _, .ptr h, k => by
    cases k with
    | ptr k => exact .ptr (T.nm _ _ h _ k)
  | _, _, _, .slN h, k => by
    cases k with
    | sl k hc he => exact .sl (T.nm _ _ h _ k) hc he
    | sl0 A => exact .sl0 A
  | _, _, _, .fz h k, m => by
    have hl := k.length
    cases m with
    | @fz _ _ _ _ _ bb _ _ m1 m2 m3 m4 =>
      refine .fz (b := bb) ?_ (by omega) m3 (VRs.told T k m4)
      rcases h with rfl | ⟨_, rfl⟩
      · rename_i l _ _ _ _ _ _ _
        cases l with
        | false => exact T.fz _ _ m1
        | true => exact T.ln true _ _ m1
      · exact T.ln _ _ _ m1
    | fz0 A c =>
      cases k
      exact .fz0 A c
  | _, _, _, .pfz h k, m => by
    have hl := k.length
    cases m with
    | @pfz _ _ bb _ _ m1 m4 =>
      refine .pfz (b := bb) ?_ (by rw [hl]; exact VRs.told T k m4)
      rcases h with rfl | ⟨_, rfl⟩
      · rename_i l _ _ _ _
        cases l with
        | false => exact T.fz _ _ m1
        | true => exact T.ln true _ _ m1
      · exact T.ln _ _ _ m1
  | _, _, _, @Lnd.sl _ _ _ _ i o n s cs ys hb' hi hg he k, m => by
    have hl := k.length
    cases m with
    | @sl _ _ _ _ _ a m1 m2 m3 =>
      obtain ⟨l, h1, h2⟩ := T.own _ _ _ hi hg m1
      have h3 := h2.seg o (n * s)
      rw [take_drop_take _ _ _ _ he, List.drop_drop] at h3
      exact .fz (l := true) h1 (by rw [hl]; simp; omega) m2 (VRs.told T k h3)
    | sl0 A =>
      simp only [Nat.zero_mul, List.take_zero] at k
      cases k
      exact .fz0 A 0
  | _, _, _, @Lnd.ptrF _ _ _ _ i o cs ys hb' hi hg k, m => by
    have hl := k.length
    cases m with
    | @ptr _ _ a m1 =>
      obtain ⟨l, h1, h2⟩ := T.own _ _ _ hi hg m1
      have h3 := h2.drop o
      rw [List.drop_take, List.drop_drop] at h3
      refine .pfz (l := true) h1 ?_
      rw [hl, List.length_drop]
      exact VRs.told T k h3
  | _, _, _, .nilF, m => by cases m; exact .fz0 _ _
  | _, _, _, .e0F, m => by cases m; exact .fz0 _ _
  | _, _, _, .agg k, m => by
    cases m with
    | agg m => exact .agg (VRs.told T k m)
  | _, _, _, .tup k, m => by
    cases m with
    | tup m => exact .tup (VRs.told T k m)
  | _, _, _, .fn k, m => by
    cases m with
    | fn m => exact .fn (VRs.told T k m)
theorem VRs.told {μ ν : Mu} {H : Hp} {ids : List Nat} {ok : Nat → Bool} (T : Tells μ ν H ids ok) {b : Bool} : ∀ {x y : List AV} {c : List Value}, Lnds H ids ok b x y → VRs μ x c → VRs ν y c
  | _, _, _, .nil, h => by cases h; exact .nil
  | _, _, _, .cons h k, m => by
    cases m with
    | cons m1 m2 => exact .cons (VR.told T h m1) (VRs.told T k m2)
end
/-- The caller's names for the callee's blocks: those handed over, then new ones. -/
def nmd (ids : List Nat) (nx n : Nat) : Nat := (ids[n]?).getD (nx + (n - ids.length))
/-- The callee's blocks, as the caller names them. -/
def backH (ids : List Nat) (nx : Nat) : Hp → Hp
  | [] => []
  | (n, cs) :: r => (nmd ids nx n, AV.rens (nmd ids nx) cs) :: backH ids nx r
def hdels (H : Hp) : List Nat → Hp
  | [] => H
  | i :: is => hdels (hdel H i) is
theorem hget_hdels : ∀ {l : List Nat} {H : Hp} {j : Nat} {cs : List AV}, hget (hdels H l) j = some cs → j ∉ l ∧ hget H j = some cs
  | [], H, j, cs, h => ⟨by simp, h⟩
  | i :: is, H, j, cs, h => by
    obtain ⟨h1, h2⟩ := hget_hdels (l := is) h
    obtain ⟨h3, h4⟩ := hget_hdel h2
    exact ⟨by simp [h1, Ne.symm h3], h4⟩
theorem hget_append : ∀ {H K : Hp} {j : Nat} {cs : List AV}, hget (H ++ K) j = some cs → hget H j = some cs ∨ hget K j = some cs
  | [], K, j, cs, h => .inr h
  | (k, es) :: r, K, j, cs, h => by
    simp only [List.cons_append, hget] at h ⊢
    split at h
    · rename_i e; rw [if_pos e]; exact .inl h
    · rename_i e; rw [if_neg e]; exact hget_append h
theorem hget_backH {ids : List Nat} {nx : Nat} : ∀ {H : Hp} {j : Nat} {cs : List AV}, hget (backH ids nx H) j = some cs → ∃ n ds, nmd ids nx n = j ∧ hget H n = some ds ∧ cs = AV.rens (nmd ids nx) ds
  | [], j, cs, h => by cases h
  | (k, es) :: r, j, cs, h => by
    simp only [backH, hget] at h
    split at h
    · rename_i e
      refine ⟨k, es, Nat.eq_of_beq_eq_true e, by simp [hget], (Option.some.inj h).symm⟩
    · rename_i e
      obtain ⟨n, ds, h1, h2, h3⟩ := hget_backH h
      refine ⟨n, ds, h1, ?_, h3⟩
      have : k ≠ n := fun g => e (by rw [g, h1]; simp)
      simp [hget, beq_ne this, h2]
/-- The blocks that are handed over, as the callee has them. -/
def Hand (H : Hp) (ids : List Nat) (ok : Nat → Bool) (HC : Hp) : Prop := ∀ n ds, hget HC n = some ds → ∃ i cs, ids[n]? = some i ∧ hget H i = some cs ∧ Lnds H ids ok false cs ds
def evs (σ : St) (l : List Operand) : List AV := l.map σ.ev
section
variable {P : Program} {E : En} {σ : St} {o : Oper} {kp : Nat → Bool}
theorem INV.evs {μ : Mu} {a : Act} {w : World} (hi : INV E μ σ a w) : ∀ l : List Operand, VRs μ (evs σ l) (l.map a.eval)
  | [] => .nil
  | x :: xs => .cons (hi.ev x) (INV.evs hi xs)
/-- A call. -/
theorem INV.call {μ : Mu} {a : Act} {w : World} {f : FuncId} {ids : List Nat} {ok : Nat → Bool} {args argsC : List AV} {HC : Hp} {RC : AV → Hp → Nat → Prop} {vs : List Value} (hi : INV E μ σ a w) (hft : FT P f argsC HC ids.length RC) (hargs : Lnds σ.H ids ok true args argsC) (hvs : VRs μ args vs) (hhand : Hand σ.H ids ok HC) (hlow : ∀ n ds, hget HC n = some ds → n < ids.length)
    (hids : ∀ (n i : Nat), ids[n]? = some i → (hget σ.H i).isSome = true) (hnd : ∀ (n m i : Nat), ids[n]? = some i → ids[m]? = some i → n = m) (hok : ∀ (i n : Nat), ok i = true → ids[n]? = some i → False)
    (hkp : ∀ j, kp j = true → (hget σ.H j).isSome = true ∧ j ∉ ids) :
    Calls P f vs.toArray w (fun e w' => ∃ c r H' nx' μ'', e = .returned c ∧ RC r H' nx' ∧ VR μ'' (r.ren (nmd ids σ.nx)) c ∧ INV E μ'' ⟨σ.T, hdels σ.H ids ++ backH ids σ.nx H', σ.nx + (nx' - ids.length)⟩ a w' ∧ SMk kp μ μ'' w w') := by
  have hin : ∀ i, i ∈ ids → ∃ n : Nat, ids[n]? = some i := fun i h => by
    obtain ⟨n, hn, rfl⟩ := List.mem_iff_getElem.1 h
    exact ⟨n, List.getElem?_eq_getElem hn⟩
  have halive : ∀ (n i : Nat), ids[n]? = some i → ∃ cs, hget σ.H i = some cs := fun n i h => Option.isSome_iff_exists.1 (hids n i h)
  let inout : Nat → Prop := fun b => ∃ (n i : Nat) (p : Pl), ids[n]? = some i ∧ μ.pl i = some p ∧ p.block = b
  let lnC : Nat → Option (List Value) := fun b => open Classical in if inout b then none else match w.heap[b]? with
    | some (.cells c _ _) => some c.toList
    | _ => none
  let μc : Mu := ⟨fun n => (ids[n]?).bind μ.pl, μ.fz, lnC⟩
  have lnOut : ∀ b, inout b → lnC b = none := fun b h => if_pos h
  have lnIn : ∀ b (c : Array Value) (t : TypeId) (r : Nat × Nat), ¬ inout b → w.heap[b]? = some (.cells c t r) → lnC b = some c.toList := fun b c t r h hc => by
    simp only [lnC]
    rw [if_neg h, hc]
  have lnSome : ∀ b cs, lnC b = some cs → ¬ inout b ∧ ∃ (c : Array Value) (t : TypeId) (r : Nat × Nat), w.heap[b]? = some (.cells c t r) ∧ c.toList = cs := fun b cs h => by
    by_cases hb : inout b
    · rw [lnOut b hb] at h; cases h
    · refine ⟨hb, ?_⟩
      simp only [lnC] at h
      rw [if_neg hb] at h
      split at h
      · rename_i c t r e; exact ⟨c, t, r, e, Option.some.inj h⟩
      · cases h
  have rdNot : ∀ l b cs, μ.rd l b = some cs → ¬ inout b := fun l b cs h ⟨n, i, p, h1, h2, h3⟩ => by
    obtain ⟨ds, hds⟩ := halive n i h1
    subst h3
    rw [hi.heap.far i ds p hds h2 l] at h
    cases h
  have hplC : ∀ (n : Nat) (a : Pl), μc.pl n = some a → ∃ i : Nat, ids[n]? = some i ∧ μ.pl i = some a := fun n a h => by
    have h' : (ids[n]?).bind μ.pl = some a := h
    cases e : ids[n]? with
    | none => rw [e] at h'; cases h'
    | some i => rw [e] at h'; exact ⟨i, rfl, h'⟩
  have hplC' : ∀ (n i : Nat), ids[n]? = some i → μc.pl n = μ.pl i := fun n i h => by
    show (ids[n]?).bind μ.pl = _
    rw [h]; rfl
  have hT : Tells μ μc σ.H ids ok := by
    refine ⟨fun n i h a ha => by rw [hplC' n i h]; exact ha, fun b cs h => h, fun l b cs h => ?_, fun i cs a hi' hg ha => ?_⟩
    · obtain ⟨c, t, r, h1, h2⟩ := hi.heap.rd l b cs h
      exact (lnIn b c t r (rdNot l b cs h) h1).trans (congrArg some h2)
    · obtain ⟨c, t, g1, g2, g3, g4⟩ := hi.heap.own i cs hg a ha
      refine ⟨c.toList, lnIn _ c t _ (fun ⟨n, j, q, h1, h2, h3⟩ => ?_) g1, rel_cells g4 (by omega)⟩
      obtain ⟨ds, hds⟩ := halive n j h1
      exact hi.heap.apart j i ds cs (fun e => hok i n hi' (by rw [← e]; exact h1)) hds hg q a h2 ha h3
  have hHRC : HR μc HC w := by
    refine ⟨fun n ds hn a ha => ?_, fun n ds hn hne => ?_, fun n m ds es hnm hn hm a b ha hb => ?_, fun l b cs hl => ?_, fun n ds a hn ha l => ?_⟩
    · obtain ⟨i, cs, h1, h2, h3⟩ := hhand n ds hn
      rw [hplC' n i h1] at ha
      obtain ⟨c, t, g1, g2, g3, g4⟩ := hi.heap.own i cs h2 a ha
      refine ⟨c, t, g1, g2, by rw [h3.length]; exact g3, fun j x hj => ?_⟩
      obtain ⟨u, hu, hlu⟩ := h3.get j x hj
      obtain ⟨y, hy, hv⟩ := g4 j u hu
      exact ⟨y, hy, VR.told hT hlu hv⟩
    · obtain ⟨i, cs, h1, h2, h3⟩ := hhand n ds hn
      rw [hplC' n i h1]
      refine hi.heap.there i cs h2 (fun e => hne ?_)
      subst e
      exact List.eq_nil_of_length_eq_zero (by rw [h3.length]; rfl)
    · obtain ⟨i, cs, h1, h2, h3⟩ := hhand n ds hn
      obtain ⟨j, cs', h4, h5, h6⟩ := hhand m es hm
      rw [hplC' n i h1] at ha
      rw [hplC' m j h4] at hb
      exact hi.heap.apart i j cs cs' (fun e => hnm (hnd n m i h1 (by rw [e]; exact h4))) h2 h5 a b ha hb
    · cases l with
      | false => exact hi.heap.rd false b cs hl
      | true => exact (lnSome b cs hl).2
    · obtain ⟨i, cs, h1, h2, h3⟩ := hhand n ds hn
      rw [hplC' n i h1] at ha
      cases l with
      | false => exact hi.heap.far i cs a h2 ha false
      | true => exact lnOut _ ⟨n, i, a, h1, ha, rfl⟩
  have hfrC : ∀ n, ids.length ≤ n → μc.pl n = none := fun n hn => by
    show (ids[n]?).bind μ.pl = none
    rw [List.getElem?_eq_none hn]; rfl
  refine Calls.mono (hft μc w vs hHRC hfrC hlow (VRs.told hT hargs hvs) (E.gk.mono (fun b cs h => hT.ln true b cs (by rw [show μ.rd true = μ.ln from rfl, hi.lno.1]; exact h)))) ?_
  rintro e w' ⟨c, r, H', nx', μ', rfl, hR, hrn, hHn, hv, hHR', hfr', hlow', hkept, hmay', hfzn, hfzo, hsame, hle⟩
  have hmayC : ∀ b, mayH μc HC b → inout b := fun b ⟨n, ds, p, h1, h2, h3⟩ => by
    obtain ⟨i, hi', hp⟩ := hplC n p h2
    exact ⟨n, i, p, hi', hp, h3⟩
  have hinE : ∀ b, inout b → E.w.heap.size ≤ b ∨ E.may b := fun b ⟨n, i, p, h1, h2, h3⟩ => by
    obtain ⟨ds, hds⟩ := halive n i h1
    subst h3
    exact hi.may i ds p hds h2
  let nx2 := σ.nx + (nx' - ids.length)
  let μ2 : Mu := ⟨fun i => if i < σ.nx then μ.pl i else μ'.pl (ids.length + (i - σ.nx)), μ'.fz, μ.ln⟩
  have hltnx : ∀ i a, μ.pl i = some a → i < σ.nx := fun i a h => by
    rcases Nat.lt_or_ge i σ.nx with g | g
    · exact g
    · rw [hi.fresh i g] at h; cases h
  have hsub : Sub μ μ2 := by
    refine ⟨fun i a h => ?_, fun l b cs h => ?_⟩
    · show (if i < σ.nx then _ else _) = _
      rw [if_pos (hltnx i a h)]; exact h
    · cases l with
      | false => exact hfzo b cs h
      | true => exact h
  have hpl2 : ∀ n a, μ'.pl n = some a → μ2.pl (nmd ids σ.nx n) = some a := fun n a h => by
    rcases Nat.lt_or_ge n ids.length with hn | hn
    · have e : ids[n]? = some ids[n] := List.getElem?_eq_getElem hn
      rw [hsame n hn, hplC' n _ e] at h
      have : nmd ids σ.nx n = ids[n] := by simp [nmd, e]
      rw [this]
      exact hsub.pl _ _ h
    · have : nmd ids σ.nx n = σ.nx + (n - ids.length) := by simp [nmd, List.getElem?_eq_none hn]
      rw [this]
      show (if _ < σ.nx then _ else _) = _
      rw [if_neg (by omega), show ids.length + (σ.nx + (n - ids.length) - σ.nx) = n by omega]
      exact h
  have hpl2' : ∀ n, n < nx' → μ2.pl (nmd ids σ.nx n) = μ'.pl n := fun n hn' => by
    rcases Nat.lt_or_ge n ids.length with hn | hn
    · have e : ids[n]? = some ids[n] := List.getElem?_eq_getElem hn
      have h1 : nmd ids σ.nx n = ids[n] := by simp [nmd, e]
      obtain ⟨cs, hcs⟩ := halive n _ e
      rw [hsame n hn, hplC' n _ e, h1]
      show (if _ < σ.nx then _ else _) = _
      rw [if_pos (hi.low _ cs hcs)]
    · have : nmd ids σ.nx n = σ.nx + (n - ids.length) := by simp [nmd, List.getElem?_eq_none hn]
      rw [this]
      show (if _ < σ.nx then _ else _) = _
      rw [if_neg (by omega), show ids.length + (σ.nx + (n - ids.length) - σ.nx) = n by omega]
  have hkeep : ∀ b, b < w.heap.size → ¬ inout b → w'.heap[b]? = w.heap[b]? := fun b hb hn => hkept.block b hb (fun g => hn (hmayC b g))
  have hold : ∀ i cs a, hget (hdels σ.H ids) i = some cs → μ.pl i = some a → hget σ.H i = some cs ∧ a.block < w.heap.size ∧ ¬ inout a.block := fun i cs a hg ha => by
    obtain ⟨h1, h2⟩ := hget_hdels hg
    obtain ⟨c, t, g1, _⟩ := hi.heap.own i cs h2 a ha
    refine ⟨h2, lt_of_heap g1, fun ⟨n, j, q, k1, k2, k3⟩ => ?_⟩
    obtain ⟨ds, hds⟩ := halive n j k1
    exact hi.heap.apart j i ds cs (fun e => h1 (by rw [← e]; exact List.mem_of_getElem? k1)) hds h2 q a k2 ha k3
  have hold2 : ∀ i cs a, hget (hdels σ.H ids) i = some cs → μ2.pl i = some a → μ.pl i = some a := fun i cs a hg ha => by
    have := hi.low i cs (hget_hdels hg).2
    have h' : (if i < σ.nx then μ.pl i else _) = some a := ha
    rwa [if_pos this] at h'
  have hnew2 : ∀ i cs a, hget (backH ids σ.nx H') i = some cs → μ2.pl i = some a → ∃ n ds, nmd ids σ.nx n = i ∧ hget H' n = some ds ∧ cs = AV.rens (nmd ids σ.nx) ds ∧ μ'.pl n = some a := fun i cs a hg ha => by
    obtain ⟨n, ds, h1, h2, h3⟩ := hget_backH hg
    refine ⟨n, ds, h1, h2, h3, ?_⟩
    rw [← hpl2' n (hlow' n ds h2), h1]; exact ha
  have hnewb : ∀ n ds a, hget H' n = some ds → μ'.pl n = some a → w.heap.size ≤ a.block ∨ inout a.block := fun n ds a h1 h2 => (hmay' n ds a h1 h2).imp id (hmayC _)
  have hHR2 : HR μ2 (hdels σ.H ids ++ backH ids σ.nx H') w' := by
    refine ⟨fun i cs hg a ha => ?_, fun i cs hg hne => ?_, fun i j cs ds hij hg hg' a b ha hb => ?_, fun l b cs hl => ?_, fun i cs a hg ha l => ?_⟩
    · rcases hget_append hg with hg | hg
      · have ha' := hold2 i cs a hg ha
        obtain ⟨h1, h2, h3⟩ := hold i cs a hg ha'
        obtain ⟨c, t, g1, g2, g3, g4⟩ := hi.heap.own i cs h1 a ha'
        exact ⟨c, t, (hkeep _ h2 h3).trans g1, g2, g3, fun j x hj => by
          obtain ⟨y, hy, hv⟩ := g4 j x hj
          exact ⟨y, hy, hv.mono hsub⟩⟩
      · obtain ⟨n, ds, h1, h2, rfl, h4⟩ := hnew2 i cs a hg ha
        obtain ⟨c, t, g1, g2, g3, g4⟩ := hHR'.own n ds h2 a h4
        refine ⟨c, t, g1, g2, by rw [rens_length]; exact g3, fun j x hj => ?_⟩
        rw [rens_map, List.getElem?_map] at hj
        obtain ⟨u, hu, rfl⟩ := Option.map_eq_some_iff.1 hj
        obtain ⟨y, hy, hv⟩ := g4 j u hu
        exact ⟨y, hy, VR.ren hpl2 (fun b cs h => h) (nls_iff.1 (hHn n ds h2) u (List.mem_of_getElem? hu)) hv⟩
    · rcases hget_append hg with hg | hg
      · obtain ⟨a, ha⟩ := hi.heap.there i cs (hget_hdels hg).2 hne
        exact ⟨a, hsub.pl _ _ ha⟩
      · obtain ⟨n, ds, h1, h2, rfl⟩ := hget_backH hg
        obtain ⟨a, ha⟩ := hHR'.there n ds h2 (fun e => hne (by rw [e]; rfl))
        exact ⟨a, by rw [← h1]; exact hpl2 n a ha⟩
    · rcases hget_append hg with hg | hg
      · have ha' := hold2 i cs a hg ha
        obtain ⟨h1, h2, h3⟩ := hold i cs a hg ha'
        rcases hget_append hg' with hg' | hg'
        · have hb' := hold2 j ds b hg' hb
          exact hi.heap.apart i j cs ds hij h1 (hold j ds b hg' hb').1 a b ha' hb'
        · obtain ⟨n, es, k1, k2, rfl, k4⟩ := hnew2 j ds b hg' hb
          rcases hnewb n es b k2 k4 with g | g
          · omega
          · exact fun e => h3 (by rw [e]; exact g)
      · obtain ⟨n, es, k1, k2, rfl, k4⟩ := hnew2 i cs a hg ha
        rcases hget_append hg' with hg' | hg'
        · have hb' := hold2 j ds b hg' hb
          obtain ⟨h1, h2, h3⟩ := hold j ds b hg' hb'
          rcases hnewb n es a k2 k4 with g | g
          · omega
          · exact fun e => h3 (by rw [← e]; exact g)
        · obtain ⟨m, fs, l1, l2, rfl, l4⟩ := hnew2 j ds b hg' hb
          exact hHR'.apart n m es fs (fun e => hij (by rw [← k1, ← l1, e])) k2 l2 a b k4 l4
    · cases l with
      | false => exact hHR'.rd false b cs hl
      | true =>
        obtain ⟨c, t, r, g1, g2⟩ := hi.heap.rd true b cs hl
        exact ⟨c, t, r, (hkeep b (lt_of_heap g1) (rdNot true b cs hl)).trans g1, g2⟩
    · rcases hget_append hg with hg | hg
      · have ha' := hold2 i cs a hg ha
        obtain ⟨h1, h2, h3⟩ := hold i cs a hg ha'
        cases l with
        | true => exact hi.heap.far i cs a h1 ha' true
        | false =>
          cases e : μ2.rd false a.block with
          | none => rfl
          | some ds =>
            rcases hfzn a.block ds e with k | k | k
            · have := hi.heap.far i cs a h1 ha' false
              rw [show μ.rd false a.block = μ.fz a.block from rfl, show μ.fz a.block = some ds from k] at this
              cases this
            · omega
            · exact absurd (hmayC _ k) h3
      · obtain ⟨n, es, k1, k2, rfl, k4⟩ := hnew2 i cs a hg ha
        cases l with
        | false => exact hHR'.far n es a k2 k4 false
        | true =>
          cases e : μ2.rd true a.block with
          | none => rfl
          | some ds =>
            exfalso
            have e' : μ.rd true a.block = some ds := e
            rcases hnewb n es a k2 k4 with g | g
            · obtain ⟨c, t, r, g1, g2⟩ := hi.heap.rd true _ ds e'
              have := lt_of_heap g1
              omega
            · exact rdNot true _ ds e' g
  refine ⟨c, r, H', nx', μ2, rfl, hR, VR.ren hpl2 (fun b cs h => h) hrn hv, ⟨fun t => (hi.tmps t).mono hsub, hi.size, hi.defers, hHR2, fun i hi' => ?_, fun i cs hg => ?_, ?_, fun i cs p hg hp => ?_, fun b cs h => ?_, fun b cs h => hfzo b cs (hi.fzo b cs h), hi.lno.1, fun i hi' => ?_, ?_⟩, hsub, fun i hk p hp => ?_, fun l b cs hl => ?_⟩
  · simp only at hi'
    show (if i < σ.nx then _ else _) = none
    rw [if_neg (by omega)]
    exact hfr' _ (by omega)
  · rcases hget_append hg with hg | hg
    · have := hi.low i cs (hget_hdels hg).2
      simp only; omega
    · obtain ⟨n, ds, h1, h2, rfl⟩ := hget_backH hg
      have h3 := hlow' n ds h2
      simp only
      rw [← h1]
      rcases Nat.lt_or_ge n ids.length with hn | hn
      · have e : ids[n]? = some ids[n] := List.getElem?_eq_getElem hn
        obtain ⟨ds', hds⟩ := halive n _ e
        have := hi.low _ ds' hds
        have h4 : nmd ids σ.nx n = ids[n] := by simp [nmd, e]
        omega
      · have : nmd ids σ.nx n = σ.nx + (n - ids.length) := by simp [nmd, List.getElem?_eq_none hn]
        omega
  · refine hi.kept.trans' hkept (fun b hb hm => ?_)
    rcases hinE b (hmayC b hm) with g | g
    · omega
    · exact g
  · rcases hget_append hg with hg | hg
    · exact hi.may i cs p (hget_hdels hg).2 (hold2 i cs p hg hp)
    · obtain ⟨n, es, k1, k2, rfl, k4⟩ := hnew2 i cs p hg hp
      rcases hnewb n es p k2 k4 with g | g
      · have := hi.kept.size
        exact .inl (by omega)
      · exact hinE _ g
  · rcases hfzn b cs h with k | k | k
    · exact hi.fzn b cs k
    · have := hi.kept.size
      exact .inr (.inl (by omega))
    · exact .inr (hinE b (hmayC b k))
  · have := hi.lno.2.2
    show (if i < σ.nx then _ else _) = _
    rw [if_pos (by omega)]
    exact hi.lno.2.1 i hi'
  · have := hi.lno.2.2
    simp only; omega
  · obtain ⟨h1, h2⟩ := hkp i hk
    obtain ⟨ds, hds⟩ := Option.isSome_iff_exists.1 h1
    obtain ⟨c0, t0, g1, _⟩ := hi.heap.own i ds hds p hp
    refine hkeep _ (lt_of_heap g1) (fun ⟨n, j, q, k1, k2, k3⟩ => ?_)
    obtain ⟨es, hes⟩ := halive n j k1
    exact hi.heap.apart j i es ds (fun e => h2 (by rw [← e]; exact List.mem_of_getElem? k1)) hes hds q p k2 hp k3
  · obtain ⟨c0, t0, r0, g1, _⟩ := hi.heap.rd l b cs hl
    exact hkeep b (lt_of_heap g1) (rdNot l b cs hl)
/-- The same as an operation of a region. -/
theorem OX.call {f : FuncId} {fn : Func} {x : Operand} {args : List Operand} {tys : Array TypeId} {caps : List AV} {R : AV → St → Prop} {ids : List Nat} {ok : Nat → Bool} {argsC : List AV} {HC : Hp} {RC : AV → Hp → Nat → Prop} (ho : o.op = .call ⟨.value x, args.toArray, tys⟩) (hx : σ.ev x = .fn (.func f) caps) (hf : P.funcs[f]? = some fn) (hname : (fn.name == "runtime.NumGoroutine") = false) {cc : Code} (hbody : fn.body = some cc)
    (hft : FT P f argsC HC ids.length RC) (hargs : Lnds σ.H ids ok true (evs σ args ++ caps) argsC) (hhand : Hand σ.H ids ok HC) (hlow : ∀ n ds, hget HC n = some ds → n < ids.length)
    (hids : ∀ (n i : Nat), ids[n]? = some i → (hget σ.H i).isSome = true) (hnd : ∀ (n m i : Nat), ids[n]? = some i → ids[m]? = some i → n = m) (hok : ∀ (i n : Nat), ok i = true → ids[n]? = some i → False)
    (hkp : ∀ j, kp j = true → (hget σ.H j).isSome = true ∧ j ∉ ids)
    (hR : ∀ r H' nx', RC r H' nx' → R (r.ren (nmd ids σ.nx)) ⟨σ.T, hdels σ.H ids ++ backH ids σ.nx H', σ.nx + (nx' - ids.length)⟩) : OX P E kp o σ R := fun μ a w hi K Q hK => by
  have hv := hi.ev x
  rw [hx] at hv
  generalize hc : a.eval x = c at hv
  cases hv with
  | @fn _ _ m k =>
    have hvs : VRs μ (evs σ args ++ caps) (args.map a.eval ++ m) := (hi.evs args).append k
    have hcall := hi.call (kp := kp) hft hargs hvs hhand hlow hids hnd hok hkp
    have hrun : (execOp a.eval o).run P w = .ok (.enter f (args.map a.eval ++ m).toArray) w := by
      have h1 : ¬ fn.name = "runtime.NumGoroutine" := by simpa using hname
      simp [execOp, ho, resolve, invoke, callFunc, Deferred.ofValue, hc, program, hf, hbody, Sem.run, h1]
    simp only [Oper.wp, hrun, Oper.upon]
    refine Calls.mono hcall ?_
    rintro e w' ⟨c, r, H', nx', μ2, rfl, hRC, hv, hi', hs⟩
    exact hK _ _ _ _ _ (hR r H' nx' hRC) hv hi' hs
theorem OX.gh {R : AV → St → Prop} {σ' : St} (k : Gh E σ σ') (h : OX P E kp o σ' R) : OX P E kp o σ R := fun μ a w hi K Q hK => by
  obtain ⟨μ', hi', hs⟩ := k μ a w hi
  refine h μ' a w hi' K Q (fun v τ c μ2 w' hr hv hi2 hk => hK v τ c μ2 w' hr hv hi2 ⟨hs.trans hk.sub, ⟨fun i hi p hp => hk.sm.own i hi p (hs.pl i p hp), fun l b cs hl => hk.sm.rd l b cs (hs.rd l b cs hl)⟩⟩)
end
end Go.BH
