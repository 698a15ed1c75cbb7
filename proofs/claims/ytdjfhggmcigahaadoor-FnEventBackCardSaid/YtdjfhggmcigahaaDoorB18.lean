/- Pure operations in letters, 4: all of them are right. -/
import Derived.Test.YtdjfhggmcigahaaDoorB17
set_option linter.unusedVariables false
set_option linter.unusedSimpArgs false
namespace Go.BH
open Go.RowKit
section
variable {P : Program} {E : En} {σ : SS} {o : Oper} {kp : Nat → Bool} {tab : TyTab} {env : List D} {m : Nat} {nds : List Nd} {v : SV} {Φ : Fns}
theorem sBd_ok {x : Option Operand} {dflt a : At} {k : IntKind} {n : Nat} {z : Int} (h : sBd σ dflt x = some (k, a)) (ha : a.den env = .i z) (h0 : 0 ≤ z) (hd : dflt.den env = .i n) : bd (σ.den env) n x z.toNat := by
  cases x with
  | none =>
    simp only [sBd, Option.some.injEq, Prod.mk.injEq] at h
    obtain ⟨_, rfl⟩ := h
    rw [hd] at ha
    cases ha
    simp [bd]
  | some x =>
    have hx := SS.ev_den env σ x
    simp only [sBd] at h
    split at h
    · rename_i k' a' e
      cases h
      rw [e, SV.den, ha, encC_int] at hx
      exact ⟨k, by rw [Int.toNat_of_nonneg h0]; exact hx⟩
    · cases h
theorem fact_rng {k k' : IntKind} {l h n : At} (hf : Fact env m (.rng k k') [l, h, n]) : ∃ a b c, l.den env = .i a ∧ h.den env = .i b ∧ n.den env = .i c ∧ 0 ≤ a ∧ a ≤ b ∧ b ≤ c ∧ (At.v m).den env = .i (b - a) := by
  obtain ⟨h1, h2⟩ := hf
  simp only [List.map_cons, List.map_nil, Pr.args, okZ, Bool.and_eq_true, Bool.and_true] at h1 h2
  obtain ⟨a, ha⟩ := okC_int h2.1
  obtain ⟨b, hb⟩ := okC_int h2.2.1
  obtain ⟨c, hc⟩ := okC_int h2.2.2
  rw [ha, hb, hc] at h1
  simp only [Pr.eval] at h1
  split at h1
  · rename_i hh
    exact ⟨a, b, c, ha, hb, hc, hh.1, hh.2.1, hh.2.2, (Option.some.inj h1).symm⟩
  · cases h1
theorem fact_cut {e : List CK} {k k' : IntKind} {x l h : At} (hf : Fact env m (.cut e k k') [x, l, h]) : ∃ xs a b, x.den env = .l xs ∧ l.den env = .i a ∧ h.den env = .i b ∧ 0 ≤ a ∧ a ≤ b ∧ b ≤ xs.length ∧ (At.v m).den env = .l ((xs.drop a.toNat).take (b.toNat - a.toNat)) := by
  obtain ⟨h1, h2⟩ := hf
  simp only [List.map_cons, List.map_nil, Pr.args, okZ, Bool.and_eq_true, Bool.and_true] at h1 h2
  obtain ⟨xs, hx, _⟩ := okC_sl h2.1
  obtain ⟨a, ha⟩ := okC_int h2.2.1
  obtain ⟨b, hb⟩ := okC_int h2.2.2
  rw [hx, ha, hb] at h1
  simp only [Pr.eval] at h1
  split at h1
  · rename_i hh
    exact ⟨xs, a, b, hx, ha, hb, hh.1, hh.2.1, hh.2.2, (Option.some.inj h1).symm⟩
  · cases h1
theorem wrap_id {a : Int} (h0 : 0 ≤ a) (h1 : a < 9223372036854775808) : IntKind.i64.wrap a = a := by rw [IntKind.wrap_i64]; omega
theorem sCut_ok {t : TypeId} {x : Operand} {lo hi : Option Operand} (htab : TabOk P tab) (hg : σ.Good env) (ho : o.op = .slice t x lo hi none) (h : sCut tab σ m t (σ.ev x) lo hi = some (nds, v)) (hf : Facts Φ env m nds) : OP P E kp o (σ.den env) (v.den env) := by
  have hx := SS.ev_den env σ x
  have hgx := ev_good hg x
  unfold sCut at h
  split at h
  · rename_i T hT
    obtain ⟨dt, it, zt, tu, ti, tz, t1, t2, t3, t4, t5, t6⟩ := tyGet_ok htab hT
    split at h
    · rename_i e hk
      rw [t4] at hk
      rw [kindD_slice hk] at tu
      split at h
      · rename_i F hF
        obtain ⟨df, jf, zf, fu, fi, fz', f1, f2, f3, f4, f5, f6⟩ := tyGet_ok htab hF
        split at h
        · rename_i i l0 n s ex
          rw [ex] at hx
          split at h
          · rename_i kl al kh ah hl hh
            split at h
            · rename_i hs
              have hs := Nat.eq_of_beq_eq_true hs
              have key : ∀ {m : Nat} {r : List Nd}, Facts Φ env m (.pr (.rng kl kh) [al, ah, n] :: .pr (.nat kl) [al] :: r) → ∃ a b c : Int, al.den env = .i a ∧ ah.den env = .i b ∧ n.den env = .i c ∧ 0 ≤ a ∧ a ≤ b ∧ b ≤ c ∧ (At.v m).den env = .i (b - a) ∧ (At.v (m + 1)).den env = .i a ∧ Facts Φ env (m + 2) r := fun {m r} hf => by
                obtain ⟨a, b, c, g1, g2, g3, g4, g5, g6, g7⟩ := fact_rng hf.1
                obtain ⟨a', k1, k2⟩ := fact1i hf.2.1 rfl
                rw [g1] at k1
                cases k1
                simp only [Pr.eval, if_pos g4, Option.some.injEq] at k2
                exact ⟨a, b, c, g1, g2, g3, g4, g5, g6, g7, k2.symm, hf.2.2⟩
              split at h
              · rename_i hz0
                cases h
                obtain ⟨a, b, c, g1, g2, g3, g4, g5, g6, g7, g8, _⟩ := key hf
                simp only [SV.den, isZ_den hz0, g3, D.nat, D.int, Int.toNat_zero, Nat.zero_mul, hs, f1] at hx
                have b1 := sBd_ok (n := 0) hl g1 g4 rfl
                have b2 := sBd_ok (n := c.toNat) hh g2 (by omega) (by rw [Int.toNat_of_nonneg (by omega)]; exact g3)
                have := OP.cut (P := P) (E := E) (σ := σ.den env) (kp := kp) ho tu fi hx b1 b2 (by omega) (by omega)
                simp only [SV.den, g7, g8, D.nat, D.int, hs, f1]
                rw [Nat.zero_add] at this
                rw [show (b - a).toNat = b.toNat - a.toNat by omega]
                exact this
              · cases h
                obtain ⟨a, b, c, g1, g2, g3, g4, g5, g6, g7, g8, hf3⟩ := key hf
                obtain ⟨l, a', p1, p2, p3, p4, p5⟩ := fact_plus hf3.1
                rw [g8] at p2
                cases p2
                simp only [SV.den, p1, g3, D.nat, D.int, hs, f1] at hx
                have b1 := sBd_ok (n := 0) hl g1 g4 rfl
                have b2 := sBd_ok (n := c.toNat) hh g2 (by omega) (by rw [Int.toNat_of_nonneg (by omega)]; exact g3)
                have := OP.cut (P := P) (E := E) (σ := σ.den env) (kp := kp) ho tu fi hx b1 b2 (by omega) (by omega)
                simp only [SV.den, g7, p5, D.nat, D.int, hs, f1]
                rw [show (b - a).toNat = b.toNat - a.toNat by omega, show (l + a).toNat = l.toNat + a.toNat by omega, Nat.add_mul]
                exact this
            · cases h
          · cases h
        · rename_i nosl
          split at h
          · rename_i l e' a ea
            split at h
            · rename_i kl al kh ah hl hh
              split at h
              · rename_i hs
                have hs := Nat.eq_of_beq_eq_true hs
                cases h
                obtain ⟨xs, h0, h0', hden⟩ := asSl_den ea hgx
                obtain ⟨xs', g1, g2⟩ := fact_len hf.1
                rw [h0] at g1
                cases g1
                obtain ⟨ys, za, zb, c1, c2, c3, c4, c5, c6, c7⟩ := fact_cut hf.2.1
                rw [h0] at c1
                cases c1
                rw [hden, hs, f1] at hx
                have b1 := sBd_ok (n := 0) hl c2 c4 rfl
                have b2 := sBd_ok hh c3 (by omega) g2
                have := OP.cutF (P := P) (E := E) (σ := σ.den env) (kp := kp) ho tu fi hx b1 b2 (by omega) (by omega)
                rw [ofSl_den c7, hs, f1]
                have hlen : ((xs.drop za.toNat).take (zb.toNat - za.toNat)).length = zb.toNat - za.toNat := by simp; omega
                rw [hlen]
                rw [← f1, ← hs, encR_drop, encR_take] at this
                rw [← f1, ← hs]
                exact this
              · cases h
            · cases h
          · cases h
      · cases h
    · rename_i hk
      rw [t4] at hk
      rw [kindD_str hk] at tu
      split at h
      · rename_i a ex
        split at h
        · rename_i kl al kh ah hl hh
          cases h
          obtain ⟨h1, h2⟩ := hf.1
          simp only [List.map_cons, List.map_nil, Pr.args, okZ, Bool.and_eq_true, Bool.and_true] at h1 h2
          obtain ⟨z, e1⟩ := okC_str h2
          rw [e1] at h1
          rw [ex, SV.den, e1, encC_str] at hx
          obtain ⟨h3, h4⟩ := hf.2.1
          simp only [List.map_cons, List.map_nil, Pr.args, okZ, Bool.and_eq_true, Bool.and_true] at h3 h4
          obtain ⟨za, ha⟩ := okC_int h4.2.1
          obtain ⟨zb, hb⟩ := okC_int h4.2.2
          rw [e1, ha, hb] at h3
          simp only [Pr.eval] at h3
          split at h3
          · rename_i hh'
            have b1 := sBd_ok (n := 0) hl ha hh'.1 rfl
            have b2 := sBd_ok hh hb (by omega) (Option.some.inj h1).symm
            rw [SV.den, ← Option.some.inj h3, encC_str]
            exact OP.cutStr ho tu hx b1 b2 (by omega) (by omega)
          · cases h3
        · cases h
      · cases h
    · cases h
  · cases h
theorem updS_den : ∀ (xs cs : List SV) (k : Nat), SV.dens env (updS cs k xs) = upd (SV.dens env cs) k (SV.dens env xs)
  | [], cs, k => rfl
  | x :: xs, cs, k => by
    simp only [updS, SV.dens, upd]
    rw [updS_den xs]
    congr 1
    simp [dens_map, List.map_set]
theorem updS_length : ∀ (xs cs : List SV) (k : Nat), (updS cs k xs).length = cs.length
  | [], cs, k => rfl
  | x :: xs, cs, k => by simp [updS, updS_length xs]
theorem goods_cells {x : SV} (h : x.good env = true) : SV.goods env x.cells = true := by
  cases x <;> simp_all [SV.cells, SV.goods, SV.good]
theorem fillS_ok {place : Nat → Option (Nat × Nat)} : ∀ (ps : List (Nat × SV)) (cs ds : List SV), (∀ p ∈ ps, p.2.good env = true) → fillS place cs ps = some ds → fillA place (SV.dens env cs) (ps.map fun p => (p.1, p.2.den env)) = some (SV.dens env ds) ∧ ds.length = cs.length
  | [], cs, ds, _, h => by
    cases h
    exact ⟨rfl, rfl⟩
  | (i, x) :: r, cs, ds, hg, h => by
    simp only [fillS] at h
    simp only [List.map_cons, fillA]
    split at h
    · cases h
    · rename_i off size hp
      rw [hp]
      split at h
      · rename_i hb
        simp only [Bool.and_eq_true] at hb
        obtain ⟨⟨h1, h2⟩, h3⟩ := hb
        have hgx := hg _ List.mem_cons_self
        have h4 := SV.ones_den h3 (goods_cells hgx)
        obtain ⟨k1, k2⟩ := fillS_ok r _ ds (fun p hp => hg p (List.mem_cons_of_mem _ hp)) h
        rw [updS_den] at k1
        rw [updS_length] at k2
        refine ⟨?_, k2⟩
        simp only [SV.cells_den, dens_len]
        rw [if_pos (by rw [h1, show Nat.ble (off + size) cs.length = true from h2, h4]; rfl)]
        exact k1
      · cases h
theorem zSVs_den (l : List Value) : SV.dens env (l.map zSV) = vals l := by
  induction l with
  | nil => rfl
  | cons x xs ih => simp only [List.map_cons, SV.dens, zSV_den, ih]; rfl
theorem plS_run (htab : TabOk P tab) (w : World) : ∀ (fs : List Field) (l : List (Nat × Nat)), plS tab (fs.map fun f => (f.type, f.offset)) = some l → (fs.mapM fun f => do pure (f.offset, ← sizeOf f.type) : Sem (List (Nat × Nat))).run P w = .ok l w
  | [], l, h => by
    cases h
    rfl
  | f :: fs, l, h => by
    simp only [List.map_cons, plS] at h
    split at h
    · rename_i T r hT hr
      cases h
      obtain ⟨dt, it, zt, tu, ti, tz, t1, _⟩ := tyGet_ok htab hT
      rw [List.mapM_cons]
      simp only [Sem.run_bind, run_sizeOf' ti, Result.andThen_ok, Sem.run_pure, plS_run htab w fs r hr, t1]
    · cases h
theorem partsS_den (ps : List (Nat × Operand)) : (partsS σ ps).map (fun p => (p.1, p.2.den env)) = ps.map fun p => (p.1, (σ.den env).ev p.2) := by
  induction ps with
  | nil => rfl
  | cons p r ih =>
    obtain ⟨i, x⟩ := p
    simp only [partsS, List.map_cons, ih, SS.ev_den]
theorem partsS_good (hg : σ.Good env) (ps : List (Nat × Operand)) : ∀ p ∈ partsS σ ps, p.2.good env = true := by
  induction ps with
  | nil => intro p hp; simp [partsS] at hp
  | cons q r ih =>
    obtain ⟨i, x⟩ := q
    intro p hp
    simp only [partsS, List.mem_cons] at hp
    rcases hp with rfl | hp
    · exact ev_good hg x
    · exact ih p hp
theorem sBuild_ok {t : TypeId} {ps : List (Nat × Operand)} (htab : TabOk P tab) (hg : σ.Good env) (ho : o.op = .build t ps.toArray) (h : sBuild tab σ t ps = some v) : OP P E kp o (σ.den env) (v.den env) := by
  unfold sBuild at h
  split at h
  · rename_i T hT
    obtain ⟨dt, it, zt, tu, ti, tz, t1, t2, t3, t4, t5, t6⟩ := tyGet_ok htab hT
    split at h
    · rename_i fs hk
      rw [t4] at hk
      obtain ⟨gs, rfl, rfl⟩ := kindD_struct hk
      split at h
      · rename_i pl hpl
        split at h
        · rename_i ds hds
          cases h
          obtain ⟨k1, k2⟩ := fillS_ok _ _ _ (partsS_good hg ps) hds
          rw [zSVs_den, partsS_den, t5] at k1
          refine OP.build (pl := pl.toArray) ho tu ti tz (fun w => ?_) (by simpa using k1)
          rw [Array.mapM_eq_mapM_toList]
          simp only [map_eq_pure_bind, Sem.run_bind, plS_run htab w _ _ hpl, Result.andThen_ok, Sem.run_pure]
        · cases h
      · cases h
    · cases h
  · cases h
theorem sFld_ok {s : TypeId} {x : Operand} {f : Nat} (htab : TabOk P tab) (ho : o.op = .field s x f) (h : sFld tab s f (σ.ev x) = some v) : OP P E kp o (σ.den env) (v.den env) := by
  have hx := SS.ev_den env σ x
  unfold sFld at h
  split at h
  · rename_i S cs hS ex
    obtain ⟨ds, is, zs, su, si, sz, s1, s2, s3, s4, s5, s6⟩ := tyGet_ok htab hS
    rw [ex] at hx
    split at h
    · rename_i fs hk
      rw [s4] at hk
      obtain ⟨gs, rfl, rfl⟩ := kindD_struct hk
      split at h
      · rename_i ft off hfd
        simp only [List.getElem?_map, Option.map_eq_some_iff] at hfd
        obtain ⟨fd, hfd, e⟩ := hfd
        cases e
        have hfd' : gs[f]? = some fd := by simpa using hfd
        split at h
        · rename_i F hF
          obtain ⟨df, jf, zf, fu, fi, fz', f1, f2, f3, f4, f5, f6⟩ := tyGet_ok htab hF
          split at h
          · rename_i ha
            cases h
            have := OP.fieldN (P := P) (E := E) (σ := σ.den env) (kp := kp) ho su hfd' fu (by rw [← f3]; exact ha) fi hx
            rw [dens_drop, dens_take, ← f1] at this
            exact this
          · rename_i ha
            exact OP.field1 ho su hfd' fu (by rw [← f3]; simpa using ha) hx (by rw [dens_get, h]; rfl)
        · cases h
      · cases h
    · cases h
  · cases h
theorem sIfc_ok {op : BinOp} {t t' : TypeId} {x : Operand} (htab : TabOk P tab) (hg : σ.Good env) (ho : o.op = .binOp op t x (.const .nilIface) t') (h : sIfc tab m op t (σ.ev x) = some (nds, v)) (hf : Facts Φ env m nds) : OP P E kp o (σ.den env) (v.den env) := by
  have hx := SS.ev_den env σ x
  have hgx := ev_good hg x
  unfold sIfc at h
  split at h
  · rename_i a T h1 hT
    obtain ⟨d, info, z, hu, hi, hz, t1, t2, t3, t4, t5, t6⟩ := tyGet_ok htab hT
    rw [h1] at hx hgx
    simp only [SV.good] at hgx
    obtain ⟨b, hb⟩ := okC_bool hgx
    rw [SV.den, hb] at hx
    split at h
    · rename_i hk
      rw [t4] at hk
      obtain ⟨ms, rfl⟩ := kindD_iface hk
      split at h
      · rename_i he
        have : op = .eql := by cases op <;> simp_all [isEq]
        subst this
        cases h
        rw [SV.den, hb, encC_bool]
        exact OP.ifcNil ho hu hx (.inl ⟨rfl, rfl⟩)
      · split at h
        · rename_i he
          have : op = .neq := by cases op <;> simp_all [isNe]
          subst this
          cases h
          obtain ⟨z3, e4, e5⟩ := fact1b hf.1 rfl
          rw [hb] at e4
          cases e4
          rw [SV.den, ← Option.some.inj e5, encC_bool]
          exact OP.ifcNil ho hu hx (.inr ⟨rfl, rfl⟩)
        · cases h
    · cases h
  · cases h
theorem sPure_ok (htab : TabOk P tab) (hg : σ.Good env) (h : sPure tab kp σ m o.op = some (nds, v)) (hf : Facts Φ env m nds) : OP P E kp o (σ.den env) (v.den env) := by
  generalize hop : o.op = op at h
  unfold sPure at h
  split at h
  · cases h
    rw [← SS.ev_den]
    exact .move hop
  · cases h
    rw [← SS.ev_den]
    exact .assign hop
  · exact sPick_ok hg hop h hf
  · exact sIfc_ok htab hg hop h hf
  · exact sBin_ok htab hop h hf
  · exact sUn_ok hop h hf
  · exact sConv_ok htab hg hop h hf
  · split at h
    · rename_i vs ex
      split at h
      · rename_i v' hv
        cases h
        have hx := (SS.ev_den env σ _).trans (congrArg (SV.den env) ex)
        exact .extract hop hx (by rw [dens_get, hv]; rfl)
      · cases h
    · cases h
  · exact sLoad_ok htab hop h hf
  · split at h
    · rename_i hv
      cases h
      exact sField_ok htab hop hv
    · cases h
  · exact sIndex_ok htab hg hop h hf
  · exact sLen_ok htab hg hop h hf
  · split at h
    · rename_i k a k' b e1 e2
      split at h
      · rename_i hk
        have hk := of_decide_eq_true hk
        subst hk
        cases h
        have hx := (SS.ev_den env σ _).trans (congrArg (SV.den env) e1)
        have hy := (SS.ev_den env σ _).trans (congrArg (SV.den env) e2)
        obtain ⟨z1, z2, h1, h2, h3⟩ := fact2i hf.1 rfl
        rw [SV.den, h1, encC_int] at hx
        rw [SV.den, h2, encC_int] at hy
        rw [SV.den, ← Option.some.inj h3, encC_int]
        exact OP.max hop hx hy
      · cases h
    · cases h
  · split at h
    · rename_i k a k' b e1 e2
      split at h
      · rename_i hk
        have hk := of_decide_eq_true hk
        subst hk
        cases h
        have hx := (SS.ev_den env σ _).trans (congrArg (SV.den env) e1)
        have hy := (SS.ev_den env σ _).trans (congrArg (SV.den env) e2)
        obtain ⟨z1, z2, h1, h2, h3⟩ := fact2i hf.1 rfl
        rw [SV.den, h1, encC_int] at hx
        rw [SV.den, h2, encC_int] at hy
        rw [SV.den, ← Option.some.inj h3, encC_int]
        exact OP.min hop hx hy
      · cases h
    · cases h
  · exact sCut_ok htab hg hop h hf
  · split at h
    · rename_i hv
      cases h
      exact sBuild_ok htab hg hop hv
    · cases h
  · split at h
    · rename_i hv
      cases h
      exact sFld_ok htab hop hv
    · cases h
  · split at h
    · rename_i T a k za hT ex ez
      split at h
      · rename_i hk
        cases h
        obtain ⟨dt, it, zt, tu, ti, tz, t1, t2, t3, t4, t5, t6⟩ := tyGet_ok htab hT
        rw [t4] at hk
        rw [kindD_str hk] at tu
        have hx := (SS.ev_den env σ _).trans (congrArg (SV.den env) ex)
        have hz := (SS.ev_den env σ _).trans (congrArg (SV.den env) ez)
        obtain ⟨h1, h2⟩ := hf.1
        simp only [List.map_cons, List.map_nil, Pr.args, okZ, Bool.and_eq_true, Bool.and_true] at h1 h2
        obtain ⟨s, e1⟩ := okC_str h2.1
        obtain ⟨i, e2⟩ := okC_int h2.2
        rw [e1, e2] at h1
        simp only [Pr.eval] at h1
        split at h1
        · cases h1
        · rename_i hneg
          obtain ⟨b, hb, e3⟩ := Option.map_eq_some_iff.1 h1
          rw [SV.den, e1, encC_str] at hx
          rw [SV.den, e2, encC_int] at hz
          rw [SV.den, ← e3, encC_int]
          exact OP.indexStr hop tu hx hz (by omega) hb
      · cases h
    · cases h
  · rename_i x
    have hx := SS.ev_den env σ x
    split at h
    · rename_i e; cases h; rw [e] at hx; exact .nilPtr hop hx
    · rename_i e; cases h; rw [e] at hx; exact .nilPtr hop hx
    · rename_i e; cases h; rw [e] at hx; exact .nilPfz hop hx
    · rename_i e; cases h; rw [e] at hx; exact .nilFn hop hx
    · cases h
  · cases h
    rw [SV.den, evS_den]
    exact .makeFunc hop
  · cases h
end
end Go.BH
