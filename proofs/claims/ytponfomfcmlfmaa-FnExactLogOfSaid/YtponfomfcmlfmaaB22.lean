/- The author's own words; nothing here is trusted. -/
import Derived.Test.YtponfomfcmlfmaaB19
/- Operations in letters: writes, appends, make. -/
set_option linter.unusedVariables false
set_option linter.unusedSimpArgs false
namespace Go.BH
open Go.RowKit
theorem encZ_set : ∀ {e : List CK} {ds : List D} {j : Nat} {k : CK} {x : D}, e[j]? = some k → ds.length = e.length → (encZ e ds).set j (encC k x) = encZ e (ds.set j x)
  | [], ds, j, k, x, h, _ => by simp at h
  | _ :: _, [], j, k, x, _, h => by simp at h
  | k :: ks, d :: ds, 0, k', x, h, _ => by simp at h; subst h; simp [encZ]
  | k :: ks, d :: ds, j + 1, k', x, h, hl => by
    simp only [encZ, List.set_cons_succ]
    rw [encZ_set (by simpa using h) (by simpa using hl)]
theorem encR_set {e : List CK} {j : Nat} {x : D} (hj : j < e.length) : ∀ {xs : List D} {i : Nat}, i < xs.length → (∀ y ∈ xs, okE e y = true) → (encR e xs).set (i * e.length + j) (encC (e.getD j .bool) x) = encR e (xs.modify i (setRow e j x))
  | [], i, h, _ => by simp at h
  | d :: ds, 0, _, hok => by
    have hr : (row e d).length = e.length := okZ_length (hok d List.mem_cons_self)
    simp only [encR, List.flatMap_cons, Nat.zero_mul, Nat.zero_add, List.modify_zero_cons]
    rw [List.set_append_left _ _ (by rw [encZ_length]; exact hj)]
    congr 1
    rw [setRow, row_unrow (by simpa using hr)]
    exact encZ_set (by simp [List.getD, hj]) hr
  | d :: ds, i + 1, h, hok => by
    simp only [encR, List.flatMap_cons, List.modify_succ_cons]
    have hge : e.length ≤ (i + 1) * e.length + j := by rw [Nat.add_mul]; omega
    rw [List.set_append_right _ _ (by rw [encZ_length]; exact hge)]
    congr 1
    rw [encZ_length, show (i + 1) * e.length + j - e.length = i * e.length + j by rw [Nat.add_mul]; omega]
    exact encR_set hj (by simpa using h) (fun y hy => hok y (List.mem_cons_of_mem _ hy))
/-- The cells xs of element ix of the list a, from cell j on. -/
def setsN (e : List CK) (ix : At) : Nat → At → Nat → List At → List Nd × At
  | _, a, _, [] => ([], a)
  | m, a, j, x :: xs => match setsN e ix (m + 1) (.v m) (j + 1) xs with
    | (nds, r) => (.pr (.set e j) [a, ix, x] :: nds, r)
section
variable {P : Program} {E : En} {σ : SS} {o : Oper} {ks : List Nat} {tab : TyTab} {env : List D} {m : Nat} {nds : List Nd} {v : SV} {Φ : Fns}
theorem fact_set {e : List CK} {j : Nat} {a ix x : At} (hf : Fact env m (.set e j) [a, ix, x]) : ∃ xs i, a.den env = .l xs ∧ ix.den env = .i i ∧ 0 ≤ i ∧ i < xs.length ∧ (∀ y ∈ xs, okE e y = true) ∧ okC (e.getD j .bool) (x.den env) = true ∧ (At.v m).den env = .l (xs.modify i.toNat (setRow e j (x.den env))) := by
  obtain ⟨h1, h2⟩ := hf
  simp only [List.map_cons, List.map_nil, Pr.args, okZ, Bool.and_eq_true, Bool.and_true] at h1 h2
  obtain ⟨xs, hx, hok⟩ := okC_sl h2.1
  obtain ⟨i, hi⟩ := okC_int h2.2.1
  rw [hx, hi] at h1
  simp only [Pr.eval] at h1
  split at h1
  · rename_i hh
    exact ⟨xs, i, hx, hi, hh.1, hh.2, hok, h2.2.2, (Option.some.inj h1).symm⟩
  · cases h1
theorem sets_fact {e : List CK} {ix : At} : ∀ {as : List At} {m : Nat} {a : At} {j : Nat}, Facts Φ env m (setsN e ix m a j as).1 → j + as.length ≤ e.length → as ≠ [] → ∃ xs i ys, a.den env = .l xs ∧ ix.den env = .i i ∧ 0 ≤ i ∧ i < xs.length ∧ (setsN e ix m a j as).2.den env = .l ys ∧ ys.length = xs.length ∧ encR e ys = upd (encR e xs) (i.toNat * e.length + j) (encZ (e.drop j) (as.map (At.den env)) |>.take as.length)
  | [], _, _, _, _, _, h => absurd rfl h
  | x :: as, m, a, j, hf, hle, _ => by
    simp only [setsN] at hf ⊢
    simp only [List.length_cons] at hle
    obtain ⟨xs, i, h1, h2, h3, h4, h5, h6, h7⟩ := fact_set hf.1
    have hset := encR_set (x := x.den env) (j := j) (e := e) (by omega) (i := i.toNat) (by omega) h5
    have hdrop : e.drop j = e.getD j .bool :: e.drop (j + 1) := by
      rw [List.drop_eq_getElem_cons (by omega)]
      simp [List.getD, show j < e.length by omega]
    by_cases hne : as = []
    · subst hne
      refine ⟨xs, i, _, h1, h2, h3, h4, by simpa [setsN] using h7, by simp, ?_⟩
      rw [hdrop]
      simp only [List.map_cons, List.map_nil, encZ, List.length_cons, List.length_nil, List.take_succ_cons, List.take_zero, upd]
      exact hset.symm
    · obtain ⟨xs', i', ys, k1, k2, k3, k4, k5, k6, k7⟩ := sets_fact hf.2 (by omega) hne
      rw [h7] at k1
      cases k1
      rw [h2] at k2
      cases k2
      refine ⟨xs, i, ys, h1, h2, h3, h4, k5, by rw [k6]; simp, ?_⟩
      rw [hdrop, k7, ← hset]
      simp only [List.map_cons, encZ, List.length_cons, List.take_succ_cons, upd, Nat.add_assoc]
def sStore (tab : TyTab) (ks : List Nat) (σ : SS) (m : Nat) (t : TypeId) (p x : SV) : Option (List Nd × SS) :=
  match tyGet tab t with
  | some T => if (aliveS σ ks && !Nat.beq T.size 0 && Nat.beq x.cells.length T.size && SV.ones x.cells) = true then (match p with
    | .ptr i o => if memN i ks = true then none else (match hgetS σ.H i with
      | some (.cells xs) => if okSz o T.size xs.length = true then some ([], ⟨σ.T, hputS σ.H i (.cells (updS xs o x.cells)), σ.nx⟩) else none
      | _ => none)
    | .ptrE i ix s off => if memN i ks = true then none else (match hgetS σ.H i with
      | some (.arr .pl e a n) => if (Nat.beq s e.length && okSz off T.size e.length) = true then (match atomsOf ((e.drop off).take T.size) x.cells with
          | some as => (match setsN e ix m a off as with
            | (nds, r) => some (nds, ⟨σ.T, hputS σ.H i (.arr .pl e r n), σ.nx⟩))
          | none => none) else none
      | _ => none)
    | _ => none) else none
  | none => none
theorem sinv_put {b : SB} {i : Nat} {T : List (Nat × SV)} {n : Nat} (hg : σ.Good env) (hb : ∀ w e a k, b = .arr w e a k → k.den env = .i (a.den env).items.length) : SInv env ⟨T, hputS σ.H i b, n⟩ := fun j w e a k h => by
  rcases hgetS_put h with ⟨_, h⟩ | ⟨_, h⟩
  · exact (hg.A j w e a k h).2
  · exact hb w e a k h.symm
theorem sStore_ok {t : TypeId} {p x : Operand} {σ' : SS} (htab : TabOk P tab) (hg : σ.Good env) (ho : o.op = .store t p x) (h : sStore tab ks σ m t (σ.ev p) (σ.ev x) = some (nds, σ')) (hf : Facts Φ env m nds) : EffR P E ks o σ env .any σ' := by
  have hp := SS.ev_den env σ p
  unfold sStore at h
  split at h
  · rename_i T hT
    obtain ⟨dt, it, zt, tu, ti, tz, t1, t2, t3, t4, t5, t6⟩ := tyGet_ok htab hT
    split at h
    · rename_i hb
      simp only [Bool.and_eq_true, Bool.not_eq_true'] at hb
      obtain ⟨⟨⟨b1, b2⟩, b3⟩, b4⟩ := hb
      have b2' : it.size ≠ 0 := fun e0 => by rw [t1, e0] at b2; simp at b2
      have b3 := Nat.eq_of_beq_eq_true b3
      have hone := SV.ones_den b4 (goods_cells (ev_good hg x))
      rw [← SV.cells_den, ← SS.ev_den] at hone
      have hlen : ((σ.den env).ev x).cells.length = it.size := by
        rw [SS.ev_den, SV.cells_den, dens_len, b3, t1]
      have hkp : ∀ i, memN i ks ≠ true → ∀ j, kpOf ks j = true → (hget (σ.den env).H j).isSome = true ∧ j ≠ i := fun i hi j hj => ⟨alive_ok b1 j hj, fun e => hi (by rw [← e]; exact hj)⟩
      split at h
      · rename_i i k ep
        rw [ep] at hp
        split at h
        · cases h
        · rename_i hmem
          split at h
          · rename_i xs hh
            split at h
            · rename_i hsz
              have hsz := Nat.le_of_ble_eq_true hsz
              cases h
              have hgt : hget (σ.den env).H i = some (SV.dens env xs) := by
                show hget (denH env σ.H) i = _
                rw [hget_denH, hh]; rfl
              refine ⟨(OS0.store (P := P) (E := E) (σ := σ.den env) (kp := kpOf ks) ho ti b2' hp hgt hlen (by rw [dens_len, ← t1]; exact hsz) (ones_iff.1 hone) (hkp i hmem)).ox ⟨rfl, ?_⟩, sinv_put hg (fun w e a k h => by cases h)⟩
              have := (Ex.refl (env := env) σ.H).put i (b := .cells (updS xs k (σ.ev x).cells)) (fun p cs _ k => by cases k)
              simp only [SB.den, updS_den, ← SV.cells_den] at this
              rw [← SS.ev_den] at this
              exact this.leS
            · cases h
          · cases h
      · rename_i i ix s off ep
        rw [ep] at hp
        split at h
        · cases h
        · rename_i hmem
          split at h
          · rename_i e a n hh
            split at h
            · rename_i hsz
              simp only [Bool.and_eq_true] at hsz
              obtain rfl := Nat.eq_of_beq_eq_true hsz.1
              have hsz := Nat.le_of_ble_eq_true hsz.2
              split at h
              · rename_i as has
                generalize hq : setsN e ix m a off as = q at h
                obtain ⟨ns, r⟩ := q
                cases h
                obtain ⟨a1, a2⟩ := atomsOf_den (env := env) has
                have a2' : as.length = T.size := by rw [a2]; simp; omega
                have hne : as ≠ [] := fun e0 => by
                  rw [e0] at a2'
                  rw [t1] at a2'
                  exact b2' a2'.symm
                have hf' : Facts Φ env m (setsN e ix m a off as).1 := by rw [hq]; exact hf
                obtain ⟨xs, z, ys, k1, k2, k3, k4, k5, k6, k7⟩ := sets_fact hf' (by omega) hne
                rw [hq] at k5
                simp only at k5
                have hgt : hget (σ.den env).H i = some (encR e xs) := by
                  show hget (denH env σ.H) i = _
                  rw [hget_denH, hh]
                  simp [SB.den, k1, D.items]
                simp only [SV.den, k2, D.nat, D.int] at hp
                have hcell : ((σ.den env).ev x).cells = (encZ (e.drop off) (as.map (At.den env))).take as.length := by
                  rw [SS.ev_den, SV.cells_den, a1, a2']
                  have : ∀ (n : Nat) (l : List CK) (ds : List D), encZ (l.take n) ds = (encZ l ds).take n := by
                    intro n
                    induction n with
                    | zero => intro l ds; simp [encZ]
                    | succ n ih =>
                      intro l ds
                      cases l with
                      | nil => simp [encZ]
                      | cons k l => cases ds <;> simp [encZ, ih]
                  exact this _ _ _
                have hle : z.toNat * e.length + off + it.size ≤ (encR e xs).length := by
                  rw [encR_length, ← t1]
                  have : (z.toNat + 1) * e.length ≤ xs.length * e.length := Nat.mul_le_mul_right _ (by omega)
                  rw [Nat.add_mul] at this
                  omega
                refine ⟨(OS0.store (P := P) (E := E) (σ := σ.den env) (kp := kpOf ks) ho ti b2' hp hgt hlen hle (ones_iff.1 hone) (hkp i hmem)).ox ⟨rfl, ?_⟩, sinv_put hg (fun w' e' a' k' h => ?_)⟩
                · have := (Ex.refl (env := env) σ.H).put i (b := .arr .pl e r n) (fun p cs _ k => by cases k)
                  simp only [SB.den, k5, D.items] at this
                  rw [k7, ← hcell] at this
                  exact this.leS
                · cases h
                  have := (hg.A i _ e a n hh).2
                  rw [this, k1, k5]
                  simp [D.items, k6]
              · cases h
            · cases h
          · cases h
      · cases h
    · cases h
  · cases h
/-- What is appended, as a list; and what must be reckoned for it. -/
def sSrc (σ : SS) (m : Nat) (e : List CK) (y : SV) : Option At :=
  match y with
  | .nilS => some (.k (.l []))
  | .e0 => some (.k (.l []))
  | .sl i lo n s => if (isZ lo && whole σ i n && Nat.beq s e.length) = true then (match hgetS σ.H i with
    | some (.arr .pl e' a _) => if CK.beqs e' e = true then some a else none
    | _ => none) else none
  | y => (match asSl y with
    | some (l, e', a) => if (CK.beqs e' e && okLv l e') = true then some a else none
    | none => none)
theorem sSrc_ok {e : List CK} {y : Operand} {a : At} {ys : List D} (hg : σ.Good env) (h : sSrc σ m e (σ.ev y) = some a) (ha : a.den env = .l ys) : Src (σ.den env) e.length ((σ.den env).ev y) ys.length (encR e ys) := by
  have hy := SS.ev_den env σ y
  have hgy := ev_good hg y
  unfold sSrc at h
  split at h
  · rename_i ey
    cases h
    cases ha
    rw [hy, ey]
    exact .nil
  · rename_i ey
    cases h
    cases ha
    rw [hy, ey]
    exact .e0
  · rename_i i lo n s ey
    split at h
    · rename_i hb
      simp only [Bool.and_eq_true] at hb
      obtain ⟨⟨b1, b2⟩, b3⟩ := hb
      obtain rfl := Nat.eq_of_beq_eq_true b3
      split at h
      · rename_i e' a' n' hh
        split at h
        · rename_i hk
          obtain rfl := CK.beqs_eq hk
          cases h
          obtain ⟨ow1, e1, a1, n1, w1, w2⟩ := whole_inv hg b2
          rw [hh] at w1
          cases w1
          rw [hy, ey, SV.den, isZ_den b1, w2, ha]
          have hgt : hget (σ.den env).H i = some (encR e' ys) := by
            show hget (denH env σ.H) i = _
            rw [hget_denH, hh]
            simp [SB.den, ha, D.items]
          have hs := Src.sl (σ := σ.den env) (s := e'.length) (i := i) (k := 0) (m := ys.length) hgt (by rw [encR_length]; omega)
          simp only [D.nat, D.int, D.items, Int.toNat_zero, Nat.zero_mul, Int.toNat_natCast]
          rw [List.drop_zero, ← encR_length, List.take_length] at hs
          exact hs
        · cases h
      · cases h
    · cases h
  · split at h
    · rename_i l e' a' ea
      split at h
      · rename_i hk
        simp only [Bool.and_eq_true] at hk
        obtain rfl := CK.beqs_eq hk.1
        cases h
        obtain ⟨xs, h0, h0', hden⟩ := asSl_den ea hgy
        rw [ha] at h0
        cases h0
        rw [hy, hden, okLv_enc hk.2]
        exact .fz (by rw [encR_length])
      · cases h
    · cases h
def sApp (tab : TyTab) (ks : List Nat) (σ : SS) (m : Nat) (t : TypeId) (x y : SV) : Option (List Nd × SV × SS) :=
  match tyGet tab t with
  | some T => (match T.kind with
    | .slice e => (match tyGet tab e with
      | some F => if (aliveS σ ks && Nat.beq F.zero.length F.size && !Nat.beq F.size 0 && Nat.beq F.row.length F.size) = true then (match sSrc σ m F.row y with
        | some b => (match x with
          | .nilS => some ([.pr (.app F.row F.bytes) [.k (.l []), b], .pr (.len F.row) [.v m]], .sl σ.nx (.k (.i 0)) (.v (m + 1)) F.size, ⟨σ.T, σ.H ++ [(σ.nx, .arr .pl F.row (.v m) (.v (m + 1)))], σ.nx + 1⟩)
          | .e0 => some ([.pr (.app F.row F.bytes) [.k (.l []), b], .pr (.len F.row) [.v m]], .sl σ.nx (.k (.i 0)) (.v (m + 1)) F.size, ⟨σ.T, σ.H ++ [(σ.nx, .arr .pl F.row (.v m) (.v (m + 1)))], σ.nx + 1⟩)
          | .sl i lo n s => if (isZ lo && whole σ i n && Nat.beq s F.size && !memN i ks) = true then (match hgetS σ.H i with
            | some (.arr .pl e' a _) => if CK.beqs e' F.row = true then some ([.pr (.app F.row F.bytes) [a, b], .pr (.len F.row) [.v m]], .sl σ.nx (.k (.i 0)) (.v (m + 1)) F.size, ⟨σ.T, hdelS σ.H i ++ [(σ.nx, .arr .pl F.row (.v m) (.v (m + 1)))], σ.nx + 1⟩) else none
            | _ => none) else none
          | _ => none)
        | none => none) else none
      | none => none)
    | _ => none)
  | none => none
theorem fact_app {e : List CK} {bytes : Nat} {a b : At} (hf : Fact env m (.app e bytes) [a, b]) : ∃ xs ys, a.den env = .l xs ∧ b.den env = .l ys ∧ (∀ x ∈ xs, okE e x = true) ∧ (∀ x ∈ ys, okE e x = true) ∧ (xs.length + ys.length) * bytes ≤ 140737488355328 ∧ xs.length + ys.length < 9223372036854775808 ∧ (At.v m).den env = .l (xs ++ ys) := by
  obtain ⟨h1, h2⟩ := hf
  simp only [List.map_cons, List.map_nil, Pr.args, okZ, Bool.and_eq_true, Bool.and_true] at h1 h2
  obtain ⟨xs, hx, hok⟩ := okC_sl h2.1
  obtain ⟨ys, hy, hok'⟩ := okC_sl h2.2
  rw [hx, hy] at h1
  simp only [Pr.eval] at h1
  split at h1
  · rename_i hh
    exact ⟨xs, ys, hx, hy, hok, hok', hh.1, hh.2, (Option.some.inj h1).symm⟩
  · cases h1
theorem sApp_ok {t : TypeId} {x y : Operand} {σ' : SS} (htab : TabOk P tab) (hg : σ.Good env) (ho : o.op = .call ⟨.builtin .append, #[x, y], #[t, t]⟩) (h : sApp tab ks σ m t (σ.ev x) (σ.ev y) = some (nds, v, σ')) (hf : Facts Φ env m nds) : EffR P E ks o σ env v σ' := by
  have hx := SS.ev_den env σ x
  unfold sApp at h
  split at h
  · rename_i T hT
    obtain ⟨dt, it, zt, tu, ti, tz, t1, t2, t3, t4, t5, t6⟩ := tyGet_ok htab hT
    split at h
    · rename_i e hk
      rw [t4] at hk
      rw [kindD_slice hk] at tu
      split at h
      · rename_i F hF
        obtain ⟨df, jf, zf, fu, fi, fz', f1, f2, f3, f4, f5, f6⟩ := tyGet_ok htab hF
        split at h
        · rename_i hb
          simp only [Bool.and_eq_true, Bool.not_eq_true'] at hb
          obtain ⟨⟨⟨b1, b2⟩, b3⟩, b4⟩ := hb
          have b2 := Nat.eq_of_beq_eq_true b2
          have b4 := Nat.eq_of_beq_eq_true b4
          have hzl : zf.cells.size = jf.size := by
            have := congrArg List.length f5
            rw [b2, f1] at this
            simpa using this.symm
          have h0 : jf.size ≠ 0 := fun e0 => by rw [f1, e0] at b3; simp at b3
          split at h
          · rename_i b hb'
            have new : ∀ (hx0 : (σ.den env).ev x = .v (.slice none 0 0) ∨ (σ.den env).ev x = .e0), some ([Nd.pr (.app F.row F.bytes) [.k (.l []), b], .pr (.len F.row) [.v m]], SV.sl σ.nx (.k (.i 0)) (.v (m + 1)) F.size, (⟨σ.T, σ.H ++ [(σ.nx, .arr .pl F.row (.v m) (.v (m + 1)))], σ.nx + 1⟩ : SS)) = some (nds, v, σ') → EffR P E ks o σ env v σ' := by
              intro hx0 h
              cases h
              obtain ⟨xs, ys, g1, g2, g3, g4, g5, g6, g7⟩ := fact_app hf.1
              cases g1
              obtain ⟨zs, l1, l2⟩ := fact_len hf.2.1
              rw [g7] at l1
              cases l1
              have hs := sSrc_ok hg hb' g2
              rw [b4, f1] at hs
              refine ⟨(OS.appendNew (P := P) (E := E) (σ := σ.den env) (kp := kpOf ks) ho tu fi fz' hzl h0 hx0 hs (encR_ones g4) (by simp only [List.length_nil] at g6; omega) (by rw [← f2]; simpa using g5) (alive_ok b1)).ox ⟨?_, ?_⟩, sinv_snoc hg (fun w e a k h => ?_)⟩
              · simp only [SV.den, l2, isZ_den (show isZ (.k (.i 0)) = true from rfl), D.nat, D.int, Int.toNat_zero, Nat.zero_mul, Int.toNat_natCast, List.nil_append, f1]
                rfl
              · have := (Ex.refl (env := env) σ.H).snoc σ.nx (b := .arr .pl F.row (.v m) (.v (m + 1))) rfl
                simp only [SB.den, g7, D.items, List.nil_append] at this
                exact this.leS
              · cases h
                rw [l2, g7]
                rfl
            split at h
            · rename_i ex
              rw [ex] at hx
              exact new (.inl hx) h
            · rename_i ex
              rw [ex] at hx
              exact new (.inr hx) h
            · rename_i i lo n s ex
              rw [ex] at hx
              split at h
              · rename_i hc
                simp only [Bool.and_eq_true, Bool.not_eq_true'] at hc
                obtain ⟨⟨⟨c1, c2⟩, c3⟩, c4⟩ := hc
                have c3 := Nat.eq_of_beq_eq_true c3
                split at h
                · rename_i e' a n' hh
                  split at h
                  · rename_i hk'
                    obtain rfl := CK.beqs_eq hk'
                    cases h
                    obtain ⟨xs, ys, g1, g2, g3, g4, g5, g6, g7⟩ := fact_app hf.1
                    obtain ⟨zs, l1, l2⟩ := fact_len hf.2.1
                    rw [g7] at l1
                    cases l1
                    obtain ⟨ow1, e1, a1, n1, w1, w2⟩ := whole_inv hg c2
                    rw [hh] at w1
                    cases w1
                    have hs := sSrc_ok hg hb' g2
                    rw [b4, f1] at hs
                    simp only [SV.den, isZ_den c1, w2, g1, D.nat, D.int, D.items, Int.toNat_zero, Nat.zero_mul, Int.toNat_natCast, c3, f1] at hx
                    have hgt : hget (σ.den env).H i = some (encR F.row xs) := by
                      show hget (denH env σ.H) i = _
                      rw [hget_denH, hh]
                      simp [SB.den, g1, D.items]
                    refine ⟨(OS.appendTo (P := P) (E := E) (σ := σ.den env) (kp := kpOf ks) ho tu fi fz' hzl h0 hx hgt (by rw [encR_length, b4, f1]) hs (encR_ones g4) g6 (by rw [← f2]; exact g5) (fun j hj => ⟨alive_ok b1 j hj, fun e => ?_⟩)).ox ⟨?_, ?_⟩, fun j w e a k h => ?_⟩
                    · subst e
                      rw [show memN j ks = true from hj] at c4
                      cases c4
                    · simp only [SV.den, l2, isZ_den (show isZ (.k (.i 0)) = true from rfl), D.nat, D.int, Int.toNat_zero, Nat.zero_mul, Int.toNat_natCast, f1, List.length_append]
                      rfl
                    · have := ((Ex.refl (env := env) σ.H).del i).snoc σ.nx (b := .arr .pl F.row (.v m) (.v (m + 1))) rfl
                      simp only [SB.den, g7, D.items, encR_append] at this
                      exact this.leS
                    · rcases hgetS_snoc h with h | ⟨_, h⟩
                      · exact (hg.A j w e a k (hgetS_del h)).2
                      · cases h
                        rw [l2, g7]
                        rfl
                  · cases h
                · cases h
              · cases h
            · cases h
          · cases h
        · cases h
      · cases h
    · cases h
  · cases h
/-- A part of a block of the call's own, which takes its place. -/
def sWin (tab : TyTab) (ks : List Nat) (σ : SS) (m : Nat) (t : TypeId) (x : SV) (lo hi : Option Operand) : Option (List Nd × SV × SS) :=
  match tyGet tab t with
  | some T => (match T.kind with
    | .slice e => (match tyGet tab e with
      | some F => (match x with
        | .sl i l0 n s => (match sBd σ (.k (.i 0)) lo, sBd σ n hi with
          | some (kl, al), some (kh, ah) => if (aliveS σ ks && isZ l0 && Nat.beq s F.size && !memN i ks) = true then (match hgetS σ.H i with
            | some (.arr .pl e' a _) => if (CK.beqs e' F.row && Nat.beq F.row.length F.size) = true then some ([.pr (.rng kl kh) [al, ah, n], .pr (.cut F.row kl kh) [a, al, ah]], .sl σ.nx (.k (.i 0)) (.v m) s, ⟨σ.T, hdelS σ.H i ++ [(σ.nx, .arr .pl F.row (.v (m + 1)) (.v m))], σ.nx + 1⟩) else none
            | _ => none) else none
          | _, _ => none)
        | _ => none)
      | none => none)
    | _ => none)
  | none => none
theorem sWin_ok {t : TypeId} {x : Operand} {lo hi : Option Operand} {σ' : SS} (htab : TabOk P tab) (hg : σ.Good env) (ho : o.op = .slice t x lo hi none) (h : sWin tab ks σ m t (σ.ev x) lo hi = some (nds, v, σ')) (hf : Facts Φ env m nds) : EffR P E ks o σ env v σ' := by
  have hx := SS.ev_den env σ x
  unfold sWin at h
  split at h
  · rename_i T hT
    obtain ⟨dt, it, zt, tu, ti, tz, t1, t2, t3, t4, t5, t6⟩ := tyGet_ok htab hT
    split at h
    · rename_i e hk
      rw [t4] at hk
      rw [kindD_slice hk] at tu
      split at h
      · rename_i F hF
        obtain ⟨df, jf, zf, fu, fi, fz', f1, f2, f3, f4, f5, f6⟩ := tyGet_ok htab hF
        split at h
        · rename_i i l0 n s ex
          rw [ex] at hx
          split at h
          · rename_i kl al kh ah hl hh
            split at h
            · rename_i hc
              simp only [Bool.and_eq_true, Bool.not_eq_true'] at hc
              obtain ⟨⟨⟨c1, c2⟩, c3⟩, c4⟩ := hc
              have c3 := Nat.eq_of_beq_eq_true c3
              split at h
              · rename_i e' a n' hha
                split at h
                · rename_i hk'
                  simp only [Bool.and_eq_true] at hk'
                  have b4 := Nat.eq_of_beq_eq_true hk'.2
                  obtain rfl := CK.beqs_eq hk'.1
                  cases h
                  obtain ⟨za, zb, zc, g1, g2, g3, g4, g5, g6, g7⟩ := fact_rng hf.1
                  obtain ⟨xs, xa, xb, q1, q2, q3, q4, q5, q6, q7⟩ := fact_cut hf.2.1
                  rw [g1] at q2
                  cases q2
                  rw [g2] at q3
                  cases q3
                  simp only [SV.den, isZ_den c2, g3, D.nat, D.int, Int.toNat_zero, Nat.zero_mul, c3, f1] at hx
                  have b1 := sBd_ok (n := 0) hl g1 g4 rfl
                  have b2 := sBd_ok (n := zc.toNat) hh g2 (by omega) (by rw [Int.toNat_of_nonneg (by omega)]; exact g3)
                  have hgt : hget (σ.den env).H i = some (encR F.row xs) := by
                    show hget (denH env σ.H) i = _
                    rw [hget_denH, hha]
                    simp [SB.den, q1, D.items]
                  have hle : zb.toNat * jf.size ≤ (encR F.row xs).length := by
                    rw [encR_length, b4, f1]
                    exact Nat.mul_le_mul_right _ (by omega)
                  refine ⟨(OS.win (P := P) (E := E) (σ := σ.den env) (kp := kpOf ks) ho tu fi hx hgt hle b1 b2 (by omega) (by omega)).ox ⟨?_, ?_⟩, fun j w e a k h => ?_⟩
                  · simp only [SV.den, g7, isZ_den (show isZ (.k (.i 0)) = true from rfl), D.nat, D.int, Int.toNat_zero, Nat.zero_mul, c3, f1]
                    rw [show (zb - za).toNat = zb.toNat - za.toNat by omega]
                    rfl
                  · have := ((Ex.refl (env := env) σ.H).del i).snoc σ.nx (b := .arr .pl F.row (.v (m + 1)) (.v m)) rfl
                    simp only [SB.den, q7, D.items] at this
                    simp only [← f1, ← b4, encR_drop, encR_take]
                    exact this.leS
                  · rcases hgetS_snoc h with h | ⟨_, h⟩
                    · exact (hg.A j w e a k (hgetS_del h)).2
                    · cases h
                      rw [g7, q7]
                      simp only [D.items, List.length_take, List.length_drop, D.i.injEq]
                      omega
                · cases h
              · cases h
            · cases h
          · cases h
        · cases h
      · cases h
    · cases h
  · cases h
def sMake (tab : TyTab) (ks : List Nat) (σ : SS) (m : Nat) (t : TypeId) (l c : SV) : Option (List Nd × SV × SS) :=
  match tyGet tab t with
  | some T => (match T.kind with
    | .slice e => (match tyGet tab e with
      | some F => (match l, c with
        | .dat (.int k) a, .dat (.int k') a' => if (aliveS σ ks && At.beq a a' && Nat.beq F.zero.length F.size && Nat.beq F.row.length F.size && !Nat.beq F.size 0) = true then (match atomsOf F.row (F.zero.map zSV) with
          | some as => (match constD as with
            | some z => some ([.pr (.mkz F.row k F.bytes z) [a], .pr (.len F.row) [.v m]], .sl σ.nx (.k (.i 0)) (.v (m + 1)) F.size, ⟨σ.T, σ.H ++ [(σ.nx, .arr .pl F.row (.v m) (.v (m + 1)))], σ.nx + 1⟩)
            | none => none)
          | none => none) else none
        | _, _ => none)
      | none => none)
    | _ => none)
  | none => none
theorem encR_rep (e : List CK) (z : List D) (hz : z.length = e.length) : ∀ n, encR e (List.replicate n (unrow e z)) = (List.replicate n (encZ e z)).flatten
  | 0 => by simp [encR]
  | n + 1 => by
    have := encR_rep e z hz n
    simp only [encR, List.replicate_succ, List.flatMap_cons, List.flatten_cons] at this ⊢
    rw [this, row_unrow hz]
theorem sMake_ok {t : TypeId} {lx cx : Operand} {σ' : SS} (htab : TabOk P tab) (hg : σ.Good env) (ho : o.op = .makeSlice t lx cx) (h : sMake tab ks σ m t (σ.ev lx) (σ.ev cx) = some (nds, v, σ')) (hf : Facts Φ env m nds) : EffR P E ks o σ env v σ' := by
  have hl := SS.ev_den env σ lx
  have hc := SS.ev_den env σ cx
  unfold sMake at h
  split at h
  · rename_i T hT
    obtain ⟨dt, it, zt, tu, ti, tz, t1, t2, t3, t4, t5, t6⟩ := tyGet_ok htab hT
    split at h
    · rename_i e hk
      rw [t4] at hk
      rw [kindD_slice hk] at tu
      split at h
      · rename_i F hF
        obtain ⟨df, jf, zf, fu, fi, fz', f1, f2, f3, f4, f5, f6⟩ := tyGet_ok htab hF
        split at h
        · rename_i k a k' a' e1 e2
          rw [e1] at hl
          rw [e2] at hc
          split at h
          · rename_i hb
            simp only [Bool.and_eq_true, Bool.not_eq_true'] at hb
            obtain ⟨⟨⟨⟨b1, b2⟩, b3⟩, b4⟩, b5⟩ := hb
            obtain rfl := At.beq_eq b2
            have b3 := Nat.eq_of_beq_eq_true b3
            have b4 := Nat.eq_of_beq_eq_true b4
            split at h
            · rename_i as has
              split at h
              · rename_i z hz
                cases h
                obtain ⟨g1, g2⟩ := hf.1
                simp only [List.map_cons, List.map_nil, Pr.args, okZ, Bool.and_eq_true, Bool.and_true] at g1 g2
                obtain ⟨n, hn⟩ := okC_int g2
                rw [hn] at g1
                simp only [Pr.eval] at g1
                split at g1
                · rename_i hh
                  obtain ⟨c1, c2, c3⟩ := hh
                  obtain ⟨zs, l1, l2⟩ := fact_len hf.2.1
                  rw [← Option.some.inj g1] at l1
                  cases l1
                  obtain ⟨a1, a2⟩ := atomsOf_den (env := env) has
                  rw [zSVs_den, constD_den hz] at a1
                  have hzl : z.length = F.row.length := by
                    rw [← constD_den (env := env) hz, List.length_map, a2]
                  rw [SV.den, hn, encC_int] at hl hc
                  have hl' : (σ.den env).ev lx = .v (.int k n.toNat) := by rw [Int.toNat_of_nonneg c1]; exact hl
                  have hc' : (σ.den env).ev cx = .v (.int k' n.toNat) := by rw [Int.toNat_of_nonneg c1]; exact hc
                  refine ⟨(OS.makeSlice (P := P) (E := E) (σ := σ.den env) (kp := kpOf ks) ho tu fi fz' hl' hc' (by omega) (by rw [← f2]; exact c2) (alive_ok b1)).ox ⟨?_, ?_⟩, sinv_snoc hg (fun w e a k h => ?_)⟩
                  · simp only [SV.den, l2, isZ_den (show isZ (.k (.i 0)) = true from rfl), D.nat, D.int, Int.toNat_zero, Nat.zero_mul, Int.toNat_natCast, f1, List.length_replicate]
                    rfl
                  · have e0 : encR F.row (List.replicate n.toNat (unrow F.row z)) = vals (madeCells zf.cells (n.toNat * jf.size)).toList := by
                      rw [encR_rep _ _ hzl, ← a1]
                      unfold madeCells
                      rw [Array.toList_map, Array.toList_range, ← f1, ← b3]
                      have e2 : (fun j => zf.cells[j % zf.cells.size]!) = (fun j => zf.cells.toList[j % zf.cells.toList.length]!) := funext (fun j => by
                        rw [Array.length_toList, ← Array.getElem!_toList])
                      rw [e2, ← f5, zrep]
                      simp [vals]
                    have := (Ex.refl (env := env) σ.H).snoc σ.nx (b := .arr .pl F.row (.v m) (.v (m + 1))) rfl
                    simp only [SB.den, ← Option.some.inj g1, D.items, e0] at this
                    exact this.leS
                  · cases h
                    rw [l2, ← Option.some.inj g1]
                    rfl
                · cases g1
              · cases h
            · cases h
          · cases h
        · cases h
      · cases h
    · cases h
  · cases h
end
end Go.BH

/- What is known, said by other letters; blocks frozen, in letters. -/
set_option linter.unusedVariables false
set_option linter.unusedSimpArgs false
namespace Go.BH
open Go.RowKit
def At.sub (θ : List At) : At → At
  | .v i => θ.getD i (.k (.l []))
  | .k d => .k d
mutual
/-- A value by other letters and other names. -/
def SV.sub (θ : List At) (f : Nat → Nat) : SV → SV
  | .any => .any
  | .dat k a => .dat k (a.sub θ)
  | .lz q e a => .lz q e (a.sub θ)
  | .K v => .K v
  | .nilS => .nilS
  | .e0 => .e0
  | .ifc a => .ifc (a.sub θ)
  | .ptr i o => .ptr (f i) o
  | .ptrE i ix s off => .ptrE (f i) (ix.sub θ) s off
  | .sl i lo n s => .sl (f i) (lo.sub θ) (n.sub θ) s
  | .slD i e a ix c => .slD (f i) e (a.sub θ) (ix.sub θ) c
  | .pfz l e a ix off => .pfz l e (a.sub θ) (ix.sub θ) off
  | .agg xs => .agg (SV.subs θ f xs)
  | .tup xs => .tup (SV.subs θ f xs)
  | .fn g xs => .fn g (SV.subs θ f xs)
def SV.subs (θ : List At) (f : Nat → Nat) : List SV → List SV
  | [] => []
  | x :: xs => SV.sub θ f x :: SV.subs θ f xs
end
def Ow.sub (θ : List At) : Ow → Ow
  | .pl => .pl
  | .ow none => .ow none
  | .ow (some (ix, cs)) => .ow (some (ix.sub θ, cs))
def SB.sub (θ : List At) (f : Nat → Nat) : SB → SB
  | .cells xs => .cells (SV.subs θ f xs)
  | .arr w e a n => .arr (w.sub θ) e (a.sub θ) (n.sub θ)
/-- Blocks by other names. -/
def nf (f : Nat → Nat) (n : Nm) : Nm := (f n.1, n.2)
theorem At.sub_den {θ : List At} {env : List D} (a : At) : (a.sub θ).den env = a.den (θ.map (At.den env)) := by
  cases a with
  | k d => rfl
  | v i =>
    simp only [At.sub, At.den, List.getElem?_map]
    cases h : θ[i]? with
    | none => simp [List.getD, h, At.den]
    | some x =>
      simp only [List.getD, h, Option.getD_some, Option.map_some]
      rfl
theorem ifcA_ren (f : Nm → Nm) (d : D) : (ifcA d).ren f = ifcA d := by
  unfold ifcA
  split <;> rfl
theorem ifcA_frz (i : Nm) (cs : List AV) (d : D) : (ifcA d).frz i cs = ifcA d := by
  unfold ifcA
  split <;> rfl
mutual
theorem lnt_ren {f : Nm → Nm} : ∀ {x : AV}, x.ren f = x → (x.lnt).ren f = x.lnt
  | .fz l s n xs, h => by
    simp only [AV.ren, AV.fz.injEq, true_and] at h
    simp only [AV.lnt, AV.ren]
    rw [lnts_ren h]
  | .pfz l xs, h => by
    simp only [AV.ren, AV.pfz.injEq, true_and] at h
    simp only [AV.lnt, AV.ren]
    rw [lnts_ren h]
  | .any, h => h
  | .v x, h => h
  | .ptr i o, h => h
  | .sl i o n s, h => h
  | .e0, h => h
  | .ifs, h => h
  | .agg cs, h => h
  | .tup cs, h => h
  | .fn g cs, h => h
theorem lnts_ren {f : Nm → Nm} : ∀ {l : List AV}, AV.rens f l = l → AV.rens f (AV.lnts l) = AV.lnts l
  | [], _ => rfl
  | x :: xs, h => by
    simp only [AV.rens, List.cons.injEq] at h
    simp only [AV.lnts, AV.rens]
    rw [lnt_ren h.1, lnts_ren h.2]
end
theorem lq_ren {f : Nm → Nm} {q : Bool} {l : List AV} (h : AV.rens f l = l) : AV.rens f (lq q l) = lq q l := by
  cases q
  · exact h
  · exact lnts_ren h
mutual
theorem lnt_frz {i : Nm} {cs : List AV} : ∀ {x : AV}, x.frz i cs = x → (x.lnt).frz i cs = x.lnt
  | .fz l s n xs, h => by
    simp only [AV.frz, AV.fz.injEq, true_and] at h
    simp only [AV.lnt, AV.frz]
    rw [lnts_frz h]
  | .pfz l xs, h => by
    simp only [AV.frz, AV.pfz.injEq, true_and] at h
    simp only [AV.lnt, AV.frz]
    rw [lnts_frz h]
  | .any, h => h
  | .v x, h => h
  | .ptr i o, h => h
  | .sl i o n s, h => h
  | .e0, h => h
  | .ifs, h => h
  | .agg cs, h => h
  | .tup cs, h => h
  | .fn g cs, h => h
theorem lnts_frz {i : Nm} {cs : List AV} : ∀ {l : List AV}, AV.frzs i cs l = l → AV.frzs i cs (AV.lnts l) = AV.lnts l
  | [], _ => rfl
  | x :: xs, h => by
    simp only [AV.frzs, List.cons.injEq] at h
    simp only [AV.lnts, AV.frzs]
    rw [lnt_frz h.1, lnts_frz h.2]
end
theorem lq_frz {i : Nm} {cs : List AV} {q : Bool} {l : List AV} (h : AV.frzs i cs l = l) : AV.frzs i cs (lq q l) = lq q l := by
  cases q
  · exact h
  · exact lnts_frz h
mutual
theorem SV.sub_den {θ : List At} {f : Nat → Nat} {env : List D} : ∀ x : SV, (x.sub θ f).den env = (x.den (θ.map (At.den env))).ren (nf f)
  | .any => rfl
  | .dat k a => by simp only [SV.sub, SV.den]; rw [At.sub_den, encC_ren]
  | .lz q e a => by simp only [SV.sub, SV.den, AV.ren]; rw [At.sub_den, lq_ren (encR_ren _ _ _)]
  | .K v => rfl
  | .nilS => rfl
  | .e0 => rfl
  | .ifc a => by simp only [SV.sub, SV.den]; rw [At.sub_den, ifcA_ren]
  | .ptr i o => rfl
  | .ptrE i ix s off => by simp only [SV.sub, SV.den, AV.ren]; rw [At.sub_den]; rfl
  | .sl i lo n s => by simp only [SV.sub, SV.den, AV.ren]; rw [At.sub_den, At.sub_den]; rfl
  | .slD i e a ix c => by simp only [SV.sub, SV.den, AV.ren]; rw [At.sub_den, At.sub_den]; rfl
  | .pfz l e a ix off => by
    simp only [SV.sub, SV.den, AV.ren]
    rw [At.sub_den, At.sub_den, rens_map, List.map_drop, ← rens_map, lq_ren (encR_ren _ _ _)]
  | .agg xs => by simp only [SV.sub, SV.den, AV.ren]; rw [SV.subs_den]
  | .tup xs => by simp only [SV.sub, SV.den, AV.ren]; rw [SV.subs_den]
  | .fn g xs => by simp only [SV.sub, SV.den, AV.ren]; rw [SV.subs_den]
theorem SV.subs_den {θ : List At} {f : Nat → Nat} {env : List D} : ∀ xs : List SV, SV.dens env (SV.subs θ f xs) = AV.rens (nf f) (SV.dens (θ.map (At.den env)) xs)
  | [] => rfl
  | x :: xs => by simp only [SV.subs, SV.dens, AV.rens]; rw [SV.sub_den, SV.subs_den]
end
theorem encF_ren (f : Nat → Nat) (i p : Nat) (k : CK) (d : D) : (encF i p k d).ren (nf f) = encF (f i) p k d := by
  unfold encF
  split
  · rfl
  · rename_i h1
    have := encC_ren (nf f) k d
    rw [this]
theorem famZ_ren (f : Nat → Nat) (i : Nat) : ∀ (e : List CK) (ds : List D) (p : Nat), AV.rens (nf f) (famZ i p e ds) = famZ (f i) p e ds
  | [], _, p => by simp [famZ, AV.rens]
  | k :: ks, [], p => by simp only [famZ, AV.rens]; rw [famZ_ren f i ks]; rfl
  | k :: ks, d :: ds, p => by simp only [famZ, AV.rens]; rw [famZ_ren f i ks, encF_ren]
theorem rens_app (f : Nm → Nm) (a b : List AV) : AV.rens f (a ++ b) = AV.rens f a ++ AV.rens f b := by simp [rens_map]
theorem famR_ren (f : Nat → Nat) (i : Nat) (e : List CK) : ∀ (xs : List D) (p : Nat), AV.rens (nf f) (famR i e p xs) = famR (f i) e p xs
  | [], p => rfl
  | d :: ds, p => by simp only [famR]; rw [rens_app, famZ_ren, famR_ren f i e ds]
theorem SB.sub_den {θ : List At} {f : Nat → Nat} {env : List D} {i : Nat} (b : SB) : (b.sub θ f).den env (f i) = AV.rens (nf f) (b.den (θ.map (At.den env)) i) := by
  cases b with
  | cells xs => exact SV.subs_den xs
  | arr w e a n =>
    cases w with
    | pl => simp only [SB.sub, Ow.sub, SB.den]; rw [At.sub_den, encR_ren]
    | ow h =>
      cases h with
      | none => simp only [SB.sub, Ow.sub, SB.den]; rw [At.sub_den, famR_ren]
      | some q => obtain ⟨ix, cs⟩ := q; simp only [SB.sub, Ow.sub, SB.den]; rw [At.sub_den, famR_ren]
theorem renH_app (g : Nm → Nm) : ∀ H K : Hp, renH g (H ++ K) = renH g H ++ renH g K
  | [], K => rfl
  | (n, cs) :: r, K => by simp only [List.cons_append, renH]; rw [renH_app g r]
theorem blkZ_ren (f : Nat → Nat) (i : Nat) (h : Nat → Bool) : ∀ (e : List CK) (ds : List D) (p : Nat), renH (nf f) (blkZ i h p e ds) = blkZ (f i) h p e ds
  | [], _, p => by simp [blkZ, renH]
  | k :: ks, [], p => by simp [blkZ, renH]
  | k :: ks, d :: ds, p => by
    simp only [blkZ]
    rw [renH_app, blkZ_ren f i h ks]
    congr 1
    split
    · split
      · rfl
      · simp only [renH, encR_ren]; rfl
    · rfl
theorem blkR_ren (f : Nat → Nat) (i : Nat) (h : Nat → Bool) (e : List CK) : ∀ (xs : List D) (p : Nat), renH (nf f) (blkR i h e p xs) = blkR (f i) h e p xs
  | [], p => rfl
  | d :: ds, p => by simp only [blkR]; rw [renH_app, blkZ_ren, blkR_ren f i h e ds]
theorem SB.sub_more {θ : List At} {f : Nat → Nat} {env : List D} {i : Nat} (b : SB) : (b.sub θ f).more env (f i) = renH (nf f) (b.more (θ.map (At.den env)) i) := by
  cases b with
  | cells xs => rfl
  | arr w e a n =>
    cases w with
    | pl => rfl
    | ow h =>
      cases h with
      | none => simp only [SB.sub, Ow.sub, SB.more]; rw [At.sub_den, blkR_ren]; rfl
      | some q =>
        obtain ⟨ix, cs⟩ := q
        simp only [SB.sub, Ow.sub, SB.more]
        rw [At.sub_den, blkR_ren]
        congr 1
        funext p
        simp only [holeB]
        rw [At.sub_den]
theorem hget_renH_none {g : Nm → Nm} {j : Nm} : ∀ {H : Hp}, (∀ n cs, (n, cs) ∈ H → g n ≠ j) → hget (renH g H) j = none
  | [], _ => rfl
  | (n, cs) :: r, h => by
    simp only [renH, hget, beq_ne (h n cs List.mem_cons_self), Bool.false_eq_true, if_false]
    exact hget_renH_none (fun n' cs' hm => h n' cs' (List.mem_cons_of_mem _ hm))
theorem hget_renH_hrem {g : Nm → Nm} {p : Nm → Bool} {j : Nm} (h : ∀ n, p n = true → g n ≠ j) : ∀ H : Hp, hget (renH g (hrem p H)) j = hget (renH g H) j
  | [] => rfl
  | (n, cs) :: r => by
    simp only [hrem]
    split
    · rename_i e
      simp only [renH, hget, beq_ne (h n e), Bool.false_eq_true, if_false]
      exact hget_renH_hrem h r
    · simp only [renH, hget]
      split
      · rfl
      · exact hget_renH_hrem h r
theorem blkZ_mem {i : Nat} {h : Nat → Bool} : ∀ {e : List CK} {ds : List D} {p : Nat} {q : Nm × List AV}, q ∈ blkZ i h p e ds → q.1.1 = i ∧ 1 ≤ q.1.2
  | [], ds, p, q, g => by simp [blkZ] at g
  | _ :: _, [], p, q, g => by simp [blkZ] at g
  | k :: ks, d :: ds, p, q, g => by
    simp only [blkZ, List.mem_append] at g
    rcases g with g | g
    · split at g
      · split at g
        · cases g
        · rw [List.mem_singleton] at g; subst g; simp
      · cases g
    · exact blkZ_mem g
theorem blkR_mem {i : Nat} {h : Nat → Bool} {e : List CK} : ∀ {ds : List D} {p : Nat} {q : Nm × List AV}, q ∈ blkR i h e p ds → q.1.1 = i ∧ 1 ≤ q.1.2
  | [], p, q, g => by simp [blkR] at g
  | d :: ds, p, q, g => by
    simp only [blkR, List.mem_append] at g
    rcases g with g | g
    · exact blkZ_mem g
    · exact blkR_mem g
theorem more_mem {env : List D} {i : Nat} {b : SB} {q : Nm × List AV} (h : q ∈ b.more env i) : q.1.1 = i ∧ 1 ≤ q.1.2 := by
  cases b with
  | cells xs => cases h
  | arr w e a n =>
    cases w with
    | pl => cases h
    | ow hh => exact blkR_mem h
/-! ### letters and values that are the same -/
mutual
def SV.beq : SV → SV → Bool
  | .any, .any => true
  | .dat k a, .dat k' a' => CK.beq k k' && At.beq a a'
  | .lz q e a, .lz q' e' a' => (match q, q' with
    | true, true => true
    | false, false => true
    | _, _ => false) && CK.beqs e e' && At.beq a a'
  | .nilS, .nilS => true
  | .e0, .e0 => true
  | .ifc a, .ifc a' => At.beq a a'
  | .ptr i o, .ptr i' o' => Nat.beq i i' && Nat.beq o o'
  | .ptrE i ix s off, .ptrE i' ix' s' off' => Nat.beq i i' && At.beq ix ix' && Nat.beq s s' && Nat.beq off off'
  | .sl i lo n s, .sl i' lo' n' s' => Nat.beq i i' && At.beq lo lo' && At.beq n n' && Nat.beq s s'
  | .slD i e a ix c, .slD i' e' a' ix' c' => Nat.beq i i' && CK.beqs e e' && At.beq a a' && At.beq ix ix' && Nat.beq c c'
  | .pfz l e a ix off, .pfz l' e' a' ix' off' => (match l, l' with
    | .good, .good => true
    | .lent, .lent => true
    | .deep, .deep => true
    | _, _ => false) && CK.beqs e e' && At.beq a a' && At.beq ix ix' && Nat.beq off off'
  | .agg xs, .agg ys => SV.beqs xs ys
  | .tup xs, .tup ys => SV.beqs xs ys
  | .fn f xs, .fn g ys => Nat.beq f g && SV.beqs xs ys
  | _, _ => false
def SV.beqs : List SV → List SV → Bool
  | [], [] => true
  | x :: xs, y :: ys => SV.beq x y && SV.beqs xs ys
  | _, _ => false
end
mutual
theorem SV.beq_eq : ∀ {a b : SV}, SV.beq a b = true → a = b
  | .any, b, h => by cases b <;> simp [SV.beq] at h ⊢
  | .dat k a, b, h => by
    cases b <;> simp [SV.beq] at h ⊢
    exact ⟨CK.beq_eq h.1, At.beq_eq h.2⟩
  | .lz q e a, b, h => by
    cases b with
    | lz q' e' a' =>
      simp only [SV.beq, Bool.and_eq_true] at h
      obtain ⟨⟨h1, h2⟩, h3⟩ := h
      rw [CK.beqs_eq h2, At.beq_eq h3]
      cases q <;> cases q' <;> first | rfl | cases h1
    | _ => simp [SV.beq] at h
  | .K v, b, h => by cases b <;> simp [SV.beq] at h
  | .nilS, b, h => by cases b <;> simp [SV.beq] at h ⊢
  | .e0, b, h => by cases b <;> simp [SV.beq] at h ⊢
  | .ifc a, b, h => by
    cases b <;> simp [SV.beq] at h ⊢
    exact At.beq_eq h
  | .ptr i o, b, h => by
    cases b <;> simp [SV.beq] at h ⊢
    exact h
  | .ptrE i ix s off, b, h => by
    cases b <;> simp [SV.beq] at h ⊢
    exact ⟨h.1.1.1, At.beq_eq h.1.1.2, h.1.2, h.2⟩
  | .sl i lo n s, b, h => by
    cases b <;> simp [SV.beq] at h ⊢
    exact ⟨h.1.1.1, At.beq_eq h.1.1.2, At.beq_eq h.1.2, h.2⟩
  | .slD i e a ix c, b, h => by
    cases b <;> simp [SV.beq] at h ⊢
    exact ⟨h.1.1.1.1, CK.beqs_eq h.1.1.1.2, At.beq_eq h.1.1.2, At.beq_eq h.1.2, h.2⟩
  | .pfz l e a ix off, b, h => by
    cases b with
    | pfz l' e' a' ix' off' =>
      simp only [SV.beq, Bool.and_eq_true] at h
      obtain ⟨⟨⟨⟨h1, h2⟩, h3⟩, h4⟩, h5⟩ := h
      rw [CK.beqs_eq h2, At.beq_eq h3, At.beq_eq h4, Nat.eq_of_beq_eq_true h5]
      cases l <;> cases l' <;> first | rfl | cases h1
    | _ => simp [SV.beq] at h
  | .agg xs, b, h => by
    cases b with
    | agg ys => simp only [SV.beq] at h; rw [SV.beqs_eq h]
    | _ => simp [SV.beq] at h
  | .tup xs, b, h => by
    cases b with
    | tup ys => simp only [SV.beq] at h; rw [SV.beqs_eq h]
    | _ => simp [SV.beq] at h
  | .fn f xs, b, h => by
    cases b with
    | fn g ys =>
      simp only [SV.beq, Bool.and_eq_true] at h
      rw [Nat.eq_of_beq_eq_true h.1, SV.beqs_eq h.2]
    | _ => simp [SV.beq] at h
theorem SV.beqs_eq : ∀ {a b : List SV}, SV.beqs a b = true → a = b
  | [], [], _ => rfl
  | [], _ :: _, h => by simp [SV.beqs] at h
  | _ :: _, [], h => by simp [SV.beqs] at h
  | x :: xs, y :: ys, h => by
    simp only [SV.beqs, Bool.and_eq_true] at h
    rw [SV.beq_eq h.1, SV.beqs_eq h.2]
end
/-! ### less is known -/
/-- z says no more than y. -/
def Wk (y z : AV) : Prop := ∀ μ c, VR μ y c → VR μ z c
theorem Wk.refl (x : AV) : Wk x x := fun _ _ h => h
theorem Wk.any (x : AV) : Wk x .any := fun _ c _ => .any c
inductive Wks : List AV → List AV → Prop where
  | nil : Wks [] []
  | cons {x y : AV} {xs ys : List AV} (h : Wk x y) (k : Wks xs ys) : Wks (x :: xs) (y :: ys)
theorem Wks.refl : ∀ l : List AV, Wks l l
  | [] => .nil
  | x :: xs => .cons (.refl x) (Wks.refl xs)
theorem Wks.vrs {μ : Mu} : ∀ {x y : List AV} {c : List Value}, Wks x y → VRs μ x c → VRs μ y c
  | _, _, _, .nil, .nil => .nil
  | _, _, _, .cons h k, .cons a b => .cons (h _ _ a) (Wks.vrs k b)
theorem Wks.length : ∀ {x y : List AV}, Wks x y → y.length = x.length
  | _, _, .nil => rfl
  | _, _, .cons _ k => by simp [Wks.length k]
theorem Wks.get : ∀ {x y : List AV}, Wks x y → ∀ (j : Nat) (v : AV), y[j]? = some v → ∃ u, x[j]? = some u ∧ Wk u v
  | _, _, .nil, j, v, h => by simp at h
  | _, _, .cons h k, 0, v, hj => by simp at hj; subst hj; exact ⟨_, rfl, h⟩
  | _, _, .cons h k, j + 1, v, hj => by
    obtain ⟨u, h1, h2⟩ := Wks.get k j v (by simpa using hj)
    exact ⟨u, by simpa using h1, h2⟩
theorem Wk.agg {x y : List AV} (h : Wks x y) : Wk (.agg x) (.agg y) := fun μ c k => by
  cases k with
  | agg k => exact .agg (h.vrs k)
theorem Wk.tup {x y : List AV} (h : Wks x y) : Wk (.tup x) (.tup y) := fun μ c k => by
  cases k with
  | tup k => exact .tup (h.vrs k)
theorem Wk.fn {f : Fn} {x y : List AV} (h : Wks x y) : Wk (.fn f x) (.fn f y) := fun μ c k => by
  cases k with
  | fn k => exact .fn (h.vrs k)
section
variable {E : En} {σ : St}
theorem INV.weak {μ : Mu} {a : Act} {w : World} {T' : List (Nat × AV)} {H' : Hp} (h : INV E μ σ a w) (hT : ∀ t, Wk (tk σ.T t) (tk T' t)) (hH : ∀ i cs', hget H' i = some cs' → ∃ cs, hget σ.H i = some cs ∧ Wks cs cs') : INV E μ ⟨T', H', σ.nx⟩ a w := by
  refine ⟨fun t => hT t _ _ (h.tmps t), h.size, h.defers, ⟨fun i cs' hi p hp => ?_, fun i cs' hi hne => ?_, fun i j cs ds hij hi hj => ?_, h.heap.rd, fun i cs p hi => ?_⟩, h.fresh, fun i cs' hi => ?_, h.kept, fun i cs' p hi => ?_, h.fzn, h.fzo, h.lno⟩
  · obtain ⟨cs, h1, h2⟩ := hH i cs' hi
    obtain ⟨c, t, g1, g2, g3, g4⟩ := h.heap.own i cs h1 p hp
    refine ⟨c, t, g1, g2, by rw [h2.length]; exact g3, fun j x hj => ?_⟩
    obtain ⟨u, hu, hw⟩ := h2.get j x hj
    obtain ⟨y, hy, hv⟩ := g4 j u hu
    exact ⟨y, hy, hw _ _ hv⟩
  · obtain ⟨cs, h1, h2⟩ := hH i cs' hi
    exact h.heap.there i cs h1 (fun e => hne (by subst e; exact List.eq_nil_of_length_eq_zero (by rw [h2.length]; rfl)))
  · obtain ⟨cs1, h1, _⟩ := hH i cs hi
    obtain ⟨cs2, h2, _⟩ := hH j ds hj
    exact h.heap.apart i j cs1 cs2 hij h1 h2
  · obtain ⟨cs1, h1, _⟩ := hH i cs hi
    exact h.heap.far i cs1 p h1
  · obtain ⟨cs, h1, _⟩ := hH i cs' hi
    exact h.low i cs h1
  · obtain ⟨cs, h1, _⟩ := hH i cs' hi
    exact h.may i cs p h1
theorem Gh.weak {T' : List (Nat × AV)} {H' : Hp} (hT : ∀ t, Wk (tk σ.T t) (tk T' t)) (hH : ∀ i cs', hget H' i = some cs' → ∃ cs, hget σ.H i = some cs ∧ Wks cs cs') : Gh E σ ⟨T', H', σ.nx⟩ := fun μ a w hi => ⟨μ, hi.weak hT hH, .refl μ⟩
end
mutual
/-- What names block i, which is the list a (of n elements), by value. -/
def SV.frz (i : Nat) (e : List CK) (a n : At) : SV → SV
  | .sl j lo k s => if Nat.beq j i = true then (if (isZ lo && At.beq k n && Nat.beq s e.length) = true then .dat (.sl e) a else .any) else .sl j lo k s
  | .ptrE j ix s off => if Nat.beq j i = true then (if Nat.beq s e.length = true then .pfz .good e a ix off else .any) else .ptrE j ix s off
  | .ptr j o => if Nat.beq j i = true then .any else .ptr j o
  | .agg xs => .agg (SV.frzs i e a n xs)
  | .tup xs => .tup (SV.frzs i e a n xs)
  | .fn f xs => .fn f (SV.frzs i e a n xs)
  | .any => .any
  | .dat k b => .dat k b
  | .lz q e' b => .lz q e' b
  | .K v => .K v
  | .nilS => .nilS
  | .e0 => .e0
  | .ifc a => .ifc a
  | .pfz l e' b ix off => .pfz l e' b ix off
  | .slD j e' b ix c => .slD j e' b ix c
def SV.frzs (i : Nat) (e : List CK) (a n : At) : List SV → List SV
  | [] => []
  | x :: xs => SV.frz i e a n x :: SV.frzs i e a n xs
end
mutual
theorem encC_frz (i : Nm) (cs : List AV) : ∀ (k : CK) (d : D), (encC k d).frz i cs = encC k d
  | .int k, .i n => by rw [encC]; rfl
  | .bool, .b x => by rw [encC]; rfl
  | .str, .s x => by rw [encC]; rfl
  | .sl e, .l xs => by
    rw [encC, AV.frz, frzs_map, List.map_flatMap]
    congr 2
    funext d
    exact encZ_frz i cs e _
  | .int _, .b _ => by simp [encC, AV.frz]
  | .int _, .s _ => by simp [encC, AV.frz]
  | .int _, .l _ => by simp [encC, AV.frz]
  | .bool, .i _ => by simp [encC, AV.frz]
  | .bool, .s _ => by simp [encC, AV.frz]
  | .bool, .l _ => by simp [encC, AV.frz]
  | .str, .i _ => by simp [encC, AV.frz]
  | .str, .b _ => by simp [encC, AV.frz]
  | .str, .l _ => by simp [encC, AV.frz]
  | .sl _, .i _ => by simp [encC, AV.frz]
  | .sl _, .b _ => by simp [encC, AV.frz]
  | .sl _, .s _ => by simp [encC, AV.frz]
theorem encZ_frz (i : Nm) (cs : List AV) : ∀ (e : List CK) (ds : List D), (encZ e ds).map (AV.frz i cs) = encZ e ds
  | [], _ => by simp [encZ]
  | k :: ks, [] => by simp [encZ, encZ_frz i cs ks, AV.frz]
  | k :: ks, d :: ds => by simp [encZ, encZ_frz i cs ks, encC_frz i cs k]
end
theorem encR_frz (i : Nm) (cs : List AV) (e : List CK) (xs : List D) : AV.frzs i cs (encR e xs) = encR e xs := by
  rw [frzs_map, encR, List.map_flatMap]
  congr 1
  funext d
  exact encZ_frz i cs e _
section
variable {env : List D} {i : Nat} {e : List CK} {a n : At} {xs : List D}
mutual
theorem SV.frz_wk (ha : a.den env = .l xs) (hn : n.den env = .i xs.length) : ∀ x : SV, Wk ((x.den env).frz i (encR e xs)) ((x.frz i e a n).den env)
  | .any => .refl _
  | .dat k b => by simp only [SV.frz, SV.den]; rw [encC_frz]; exact .refl _
  | .lz q e' b => by simp only [SV.frz, SV.den, AV.frz]; rw [lq_frz (encR_frz _ _ _ _)]; exact .refl _
  | .slD j e' b ix c => by
    simp only [SV.frz, SV.den, AV.frz, nbeq, Bool.and_eq_true]
    rw [if_neg (fun g => by simp at g)]
    exact .refl _
  | .K v => .refl _
  | .nilS => .refl _
  | .e0 => .refl _
  | .ifc a => by simp only [SV.frz, SV.den]; rw [ifcA_frz]; exact .refl _
  | .ptr j o => by
    simp only [SV.frz, SV.den, AV.frz, nbeq_st]
    split
    · exact .any _
    · exact .refl _
  | .ptrE j ix s off => by
    simp only [SV.frz, SV.den, AV.frz, nbeq_st]
    split
    · split
      · rename_i hs
        obtain rfl := Nat.eq_of_beq_eq_true hs
        simp only [SV.den, ha, D.items]
        exact .refl _
      · exact .any _
    · exact .refl _
  | .sl j lo k s => by
    simp only [SV.frz, SV.den, AV.frz, nbeq_st]
    by_cases hj : Nat.beq j i = true
    · rw [if_pos hj, if_pos hj]
      by_cases hb : (isZ lo && At.beq k n && Nat.beq s e.length) = true
      · rw [if_pos hb]
        simp only [Bool.and_eq_true] at hb
        obtain ⟨⟨h1, h2⟩, h3⟩ := hb
        obtain rfl := At.beq_eq h2
        obtain rfl := Nat.eq_of_beq_eq_true h3
        simp only [SV.den, isZ_den h1, hn, ha, D.nat, D.int, Int.toNat_zero, Nat.zero_mul, Int.toNat_natCast, Nat.zero_add, List.drop_zero]
        rw [← encR_length, List.take_length, encC_sl, if_pos (by simp)]
        exact .refl _
      · rw [if_neg hb]
        exact .any _
    · rw [if_neg hj, if_neg hj]
      exact .refl _
  | .pfz l e' b ix off => by
    simp only [SV.frz, SV.den, AV.frz]
    rw [frzs_map, List.map_drop, ← frzs_map, lq_frz (encR_frz _ _ _ _)]
    exact .refl _
  | .agg ys => by simp only [SV.frz, SV.den, AV.frz]; exact .agg (SV.frzs_wk ha hn ys)
  | .tup ys => by simp only [SV.frz, SV.den, AV.frz]; exact .tup (SV.frzs_wk ha hn ys)
  | .fn f ys => by simp only [SV.frz, SV.den, AV.frz]; exact .fn (SV.frzs_wk ha hn ys)
theorem SV.frzs_wk (ha : a.den env = .l xs) (hn : n.den env = .i xs.length) : ∀ ys : List SV, Wks (AV.frzs i (encR e xs) (SV.dens env ys)) (SV.dens env (SV.frzs i e a n ys))
  | [] => .nil
  | y :: ys => .cons (SV.frz_wk ha hn y) (SV.frzs_wk ha hn ys)
end
end
def frzTS (i : Nat) (e : List CK) (a n : At) : List (Nat × SV) → List (Nat × SV)
  | [] => []
  | (t, x) :: r => (t, x.frz i e a n) :: frzTS i e a n r
def SB.frz (i : Nat) (e : List CK) (a n : At) : SB → SB
  | .cells xs => .cells (SV.frzs i e a n xs)
  | .arr w e' b k => .arr w e' b k
def frzHS (i : Nat) (e : List CK) (a n : At) : List (Nat × SB) → List (Nat × SB)
  | [] => []
  | (t, x) :: r => (t, x.frz i e a n) :: frzHS i e a n r
/-- Block i frozen. -/
def SS.frz (σ : SS) (i : Nat) : Option SS :=
  match hgetS σ.H i with
  | some (.arr .pl e a n) => some ⟨frzTS i e a n σ.T, frzHS i e a n (hdelS σ.H i), σ.nx⟩
  | _ => none
theorem tkS_frz (i : Nat) (e : List CK) (a n : At) (t : Nat) : ∀ T : List (Nat × SV), tkS (frzTS i e a n T) t = (tkS T t).frz i e a n
  | [] => rfl
  | (d, x) :: r => by
    simp only [frzTS, tkS]
    split
    · rfl
    · exact tkS_frz i e a n t r
theorem hgetS_frz (i : Nat) (e : List CK) (a n : At) (t : Nat) : ∀ T : List (Nat × SB), hgetS (frzHS i e a n T) t = (hgetS T t).map (SB.frz i e a n)
  | [] => rfl
  | (d, x) :: r => by
    simp only [frzHS, hgetS]
    split
    · rfl
    · exact hgetS_frz i e a n t r
theorem frzs_app (i : Nm) (cs : List AV) (a b : List AV) : AV.frzs i cs (a ++ b) = AV.frzs i cs a ++ AV.frzs i cs b := by simp [frzs_map]
theorem encF_frz (i : Nat) (cs : List AV) (j p : Nat) (k : CK) (d : D) : (encF j p k d).frz (i, 0) cs = encF j p k d := by
  unfold encF
  split
  · simp only [AV.frz]
    rw [show nbeq (j, p + 1) (i, 0) = false from beq_ne (fun e => by have := congrArg Prod.snd e; simp at this)]
    rfl
  · exact encC_frz _ _ k d
theorem famZ_frz (i : Nat) (cs : List AV) (j : Nat) : ∀ (e : List CK) (ds : List D) (p : Nat), AV.frzs (i, 0) cs (famZ j p e ds) = famZ j p e ds
  | [], _, p => by simp [famZ, AV.frzs]
  | k :: ks, [], p => by simp only [famZ, AV.frzs]; rw [famZ_frz i cs j ks]; rfl
  | k :: ks, d :: ds, p => by simp only [famZ, AV.frzs]; rw [famZ_frz i cs j ks, encF_frz]
theorem famR_frz (i : Nat) (cs : List AV) (j : Nat) (e : List CK) : ∀ (xs : List D) (p : Nat), AV.frzs (i, 0) cs (famR j e p xs) = famR j e p xs
  | [], p => rfl
  | d :: ds, p => by simp only [famR]; rw [frzs_app, famZ_frz, famR_frz i cs j e ds]
theorem blkZ_val {i : Nat} {h : Nat → Bool} : ∀ {e : List CK} {ds : List D} {p : Nat} {j : Nm} {cs : List AV}, hget (blkZ i h p e ds) j = some cs → ∃ e' xs, cs = encR e' xs
  | [], ds, p, j, cs, g => by simp [blkZ, hget] at g
  | _ :: _, [], p, j, cs, g => by simp [blkZ, hget] at g
  | k :: ks, d :: ds, p, j, cs, g => by
    simp only [blkZ, hget_app] at g
    split at g
    · rename_i cs' g1
      obtain rfl := Option.some.inj g
      split at g1
      · split at g1
        · cases g1
        · simp only [hget] at g1
          split at g1
          · exact ⟨_, _, (Option.some.inj g1).symm⟩
          · cases g1
      · cases g1
    · exact blkZ_val g
theorem blkR_val {i : Nat} {h : Nat → Bool} {e : List CK} : ∀ {ds : List D} {p : Nat} {j : Nm} {cs : List AV}, hget (blkR i h e p ds) j = some cs → ∃ e' xs, cs = encR e' xs
  | [], p, j, cs, g => by simp [blkR, hget] at g
  | d :: ds, p, j, cs, g => by
    simp only [blkR, hget_app] at g
    split at g
    · rename_i g1
      obtain rfl := Option.some.inj g
      exact blkZ_val g1
    · exact blkR_val g
theorem more_val {env : List D} {i : Nat} {b : SB} {j : Nm} {cs : List AV} (h : hget (b.more env i) j = some cs) : ∃ e' xs, cs = encR e' xs := by
  cases b with
  | cells xs => cases h
  | arr w e a n =>
    cases w with
    | pl => cases h
    | ow hh => exact blkR_val h
theorem SB.frz_more {env : List D} {i j : Nat} {e : List CK} {a n : At} (b : SB) : (b.frz i e a n).more env j = b.more env j := by
  cases b <;> rfl
theorem SS.frz_ok {E : En} {env : List D} {σ σ' : SS} {i : Nat} (hg : σ.Good env) (h : σ.frz i = some σ') : Gh E (σ.den env) (σ'.den env) ∧ SInv env σ' := by
  unfold SS.frz at h
  split at h
  · rename_i e a n hh
    cases h
    obtain ⟨h1, h2⟩ := hg.A i _ e a n hh
    obtain ⟨xs, hx, _⟩ := okC_sl h1
    have hgt : hget (σ.den env).H i = some (encR e xs) := by
      show hget (denH env σ.H) i = _
      rw [hget_denH, hh]
      simp [SB.den, hx, D.items]
    have hn : n.den env = .i xs.length := by rw [h2, hx]; rfl
    refine ⟨(Gh.freeze hgt).trans ?_, fun j w' e' a' k hj => ?_⟩
    · refine Gh.weak (σ := (σ.den env).freeze i (encR e xs)) (fun t => ?_) (fun j cs' hj => ?_)
      · show Wk (tk (frzT i (encR e xs) (denT env σ.T)) t) (tk (denT env (frzTS i e a n σ.T)) t)
        rw [tk_frzT, tk_denT, tk_denT, tkS_frz]
        exact SV.frz_wk hx hn _
      · have hj' : hget (denH env (frzHS i e a n (hdelS σ.H i))) j = some cs' := hj
        show ∃ cs, hget (frzH i (encR e xs) (hdel (denH env σ.H) i)) j = some cs ∧ _
        rw [hget_frzH]
        have hex := (Ex.refl (env := env) σ.H).del i
        obtain ⟨t, p⟩ := j
        cases p with
        | zero =>
          rw [hget_denH, hgetS_frz] at hj'
          rw [hex.main]
          cases hb : hgetS (hdelS σ.H i) t with
          | none => rw [hb] at hj'; cases hj'
          | some b =>
            rw [hb] at hj'
            simp only [Option.map_some, Option.some.injEq] at hj'
            subst hj'
            refine ⟨_, rfl, ?_⟩
            cases b with
            | cells ys => exact SV.frzs_wk hx hn ys
            | arr w e' b k =>
              cases w with
              | pl =>
                simp only [SB.den, SB.frz]
                rw [encR_frz]
                exact .refl _
              | ow hh' =>
                simp only [SB.den, SB.frz]
                rw [famR_frz]
                exact .refl _
        | succ p =>
          rw [hget_denH1, hgetS_frz] at hj'
          cases hb : hgetS (hdelS σ.H i) t with
          | none => rw [hb] at hj'; cases hj'
          | some b =>
            rw [hb] at hj'
            simp only [Option.map_some, Option.bind_some, SB.frz_more] at hj'
            rw [hex.more t p b cs' hb hj']
            obtain ⟨e', ys, rfl⟩ := more_val hj'
            exact ⟨_, rfl, by rw [encR_frz]; exact .refl _⟩
    · simp only [hgetS_frz] at hj
      cases hb : hgetS (hdelS σ.H i) j with
      | none => rw [hb] at hj; cases hj
      | some b =>
        rw [hb] at hj
        simp only [Option.map_some, Option.some.injEq] at hj
        cases b with
        | cells ys => cases hj
        | arr w1 e1 b1 k1 =>
          cases hj
          exact (hg.A j w' e' a' k (hgetS_del hb)).2
  · cases h
end Go.BH

/- Blocks that come to be owned: many blocks under one new name. -/
set_option linter.unusedVariables false
set_option linter.unusedSimpArgs false
namespace Go.BH
open Go.RowKit
/-- Name (n, r) is what was f r. -/
def Mu.grp (μ : Mu) (n : Nat) (f : Nat → Option Nm) : Mu := ⟨fun i => if i.1 = n then (f i.2).bind μ.pl else μ.pl i, μ.fz, μ.ln⟩
theorem Mu.grp_rd (μ : Mu) (n : Nat) (f : Nat → Option Nm) (l : Bool) : (μ.grp n f).rd l = μ.rd l := by cases l <;> rfl
section
variable {P : Program} {E : En} {σ : St} {o : Oper} {kp : Nat → Bool}
theorem Mu.grp_sub {μ : Mu} {n : Nat} {f : Nat → Option Nm} (h : ∀ i : Nm, n ≤ i.1 → μ.pl i = none) : Sub μ (μ.grp n f) := by
  refine ⟨fun i a ha => ?_, fun l b cs hl => by rw [Mu.grp_rd]; exact hl⟩
  show (if i.1 = n then _ else _) = _
  rw [if_neg (fun e => by rw [h i (by omega)] at ha; cases ha)]
  exact ha
theorem Mu.grp_new {μ : Mu} {n : Nat} {f : Nat → Option Nm} {r : Nat} {j : Nm} (h : f r = some j) : (μ.grp n f).pl (n, r) = μ.pl j := by
  show (if n = n then (f r).bind μ.pl else _) = _
  rw [if_pos rfl, h]
  rfl
theorem INV.regroup {μ : Mu} {a : Act} {w : World} {f : Nat → Option Nm} {K : Hp} {dl : Nm → Bool} (h : INV E μ σ a w)
    (hK : ∀ i cs', hget K i = some cs' → i.1 = σ.nx ∧ ((cs' = [] ∧ f i.2 = none) ∨ ∃ j cs, f i.2 = some j ∧ hget σ.H j = some cs ∧ cs'.length = cs.length ∧ ∀ (k : Nat) (x' : AV), cs'[k]? = some x' → ∃ x, cs[k]? = some x ∧ ∀ c, VR μ x c → VR (μ.grp σ.nx f) x' c))
    (hdl : ∀ r j, f r = some j → dl j = true) (hinj : ∀ r r' j, f r = some j → f r' = some j → r = r') :
    INV E (μ.grp σ.nx f) ⟨σ.T, hrem dl σ.H ++ K, σ.nx + 1⟩ a w ∧ Sub μ (μ.grp σ.nx f) := by
  have hsub := Mu.grp_sub (f := f) h.fresh
  have hold : ∀ i cs, hget (hrem dl σ.H) i = some cs → dl i = false ∧ hget σ.H i = some cs ∧ (μ.grp σ.nx f).pl i = μ.pl i := fun i cs hi => by
    obtain ⟨h1, h2⟩ := hget_hrem_of hi
    refine ⟨h1, h2, ?_⟩
    show (if i.1 = σ.nx then _ else _) = _
    rw [if_neg (fun e => by have := (h.low i cs h2).1; omega)]
  have hnew : ∀ i cs' p, hget K i = some cs' → (μ.grp σ.nx f).pl i = some p → i.1 = σ.nx ∧ ∃ j cs, f i.2 = some j ∧ hget σ.H j = some cs ∧ (μ.grp σ.nx f).pl i = μ.pl j ∧ cs'.length = cs.length ∧ ∀ (k : Nat) (x' : AV), cs'[k]? = some x' → ∃ x, cs[k]? = some x ∧ ∀ c, VR μ x c → VR (μ.grp σ.nx f) x' c := fun i cs' p hi hp => by
    obtain ⟨h1, h2⟩ := hK i cs' hi
    obtain ⟨i1, i2⟩ := i
    obtain rfl : i1 = σ.nx := h1
    rcases h2 with ⟨_, h2⟩ | ⟨j, cs, h2, h3, h4, h5⟩
    · have : (μ.grp σ.nx f).pl (σ.nx, i2) = none := by
        show (if σ.nx = σ.nx then (f i2).bind μ.pl else _) = none
        rw [if_pos rfl, show f i2 = none from h2]
        rfl
      rw [this] at hp; cases hp
    · exact ⟨rfl, j, cs, h2, h3, Mu.grp_new h2, h4, h5⟩
  refine ⟨⟨fun t => (h.tmps t).mono hsub, h.size, h.defers, ⟨fun i cs hi p hp => ?_, fun i cs hi hne => ?_, fun i i' cs cs' hii hi hi' p q hp hq => ?_, fun l b cs hl => ?_, fun i cs p hi hp l => ?_⟩, fun i hi => ?_, fun i cs hi => ?_, h.kept, fun i cs p hi hp => ?_, h.fzn, h.fzo, h.lno.1, fun i hi => ?_, Nat.le_succ_of_le h.lno.2.2⟩, hsub⟩
  · rcases hget_append hi with hi | hi
    · obtain ⟨_, h2, h3⟩ := hold i cs hi
      rw [h3] at hp
      obtain ⟨c, t, g1, g2, g3, g4⟩ := h.heap.own i cs h2 p hp
      exact ⟨c, t, g1, g2, g3, fun k x hk => by
        obtain ⟨y, hy, hv⟩ := g4 k x hk
        exact ⟨y, hy, hv.mono hsub⟩⟩
    · obtain ⟨_, j, ds, _, h3, h4, h5, h6⟩ := hnew i cs p hi hp
      rw [h4] at hp
      obtain ⟨c, t, g1, g2, g3, g4⟩ := h.heap.own j ds h3 p hp
      refine ⟨c, t, g1, g2, by omega, fun k x' hk => ?_⟩
      obtain ⟨x, hx, hv⟩ := h6 k x' hk
      obtain ⟨y, hy, hv'⟩ := g4 k x hx
      exact ⟨y, hy, hv y hv'⟩
  · rcases hget_append hi with hi | hi
    · obtain ⟨_, h2, h3⟩ := hold i cs hi
      obtain ⟨p, hp⟩ := h.heap.there i cs h2 hne
      exact ⟨p, by rw [h3]; exact hp⟩
    · obtain ⟨h1, h2⟩ := hK i cs hi
      rcases h2 with ⟨h2, _⟩ | ⟨j, ds, h2, h3, h5, h6⟩
      · exact absurd h2 hne
      · obtain ⟨p, hp⟩ := h.heap.there j ds h3 (fun e => hne (by subst e; exact List.eq_nil_of_length_eq_zero (by simpa using h5)))
        obtain ⟨i1, i2⟩ := i
        obtain rfl : i1 = σ.nx := h1
        exact ⟨p, by rw [Mu.grp_new h2]; exact hp⟩
  · rcases hget_append hi with hi | hi
    · obtain ⟨h1, h2, h3⟩ := hold i cs hi
      rw [h3] at hp
      rcases hget_append hi' with hi' | hi'
      · obtain ⟨_, k2, k3⟩ := hold i' cs' hi'
        rw [k3] at hq
        exact h.heap.apart i i' cs cs' hii h2 k2 p q hp hq
      · obtain ⟨_, j, ds, k2, k3, k4, _⟩ := hnew i' cs' q hi' hq
        rw [k4] at hq
        exact h.heap.apart i j cs ds (fun e => by subst e; rw [hdl _ _ k2] at h1; cases h1) h2 k3 p q hp hq
    · obtain ⟨h1, j, ds, h2, h3, h4, _⟩ := hnew i cs p hi hp
      rw [h4] at hp
      rcases hget_append hi' with hi' | hi'
      · obtain ⟨k1, k2, k3⟩ := hold i' cs' hi'
        rw [k3] at hq
        exact h.heap.apart j i' ds cs' (fun e => by subst e; rw [hdl _ _ h2] at k1; cases k1) h3 k2 p q hp hq
      · obtain ⟨k1, j', ds', k2, k3, k4, _⟩ := hnew i' cs' q hi' hq
        rw [k4] at hq
        refine h.heap.apart j j' ds ds' (fun e => hii ?_) h3 k3 p q hp hq
        subst e
        exact Prod.ext (h1.trans k1.symm) (hinj _ _ _ h2 k2)
  · rw [Mu.grp_rd] at hl
    exact h.heap.rd l b cs hl
  · rw [Mu.grp_rd]
    rcases hget_append hi with hi | hi
    · obtain ⟨_, h2, h3⟩ := hold i cs hi
      rw [h3] at hp
      exact h.heap.far i cs p h2 hp l
    · obtain ⟨_, j, ds, _, h3, h4, _⟩ := hnew i cs p hi hp
      rw [h4] at hp
      exact h.heap.far j ds p h3 hp l
  · show (if i.1 = σ.nx then _ else _) = none
    simp only at hi
    rw [if_neg (by omega)]
    exact h.fresh i (by omega)
  · rcases hget_append hi with hi | hi
    · obtain ⟨_, h2, _⟩ := hold i cs hi
      obtain ⟨k1, k2⟩ := h.low i cs h2
      exact ⟨Nat.lt_succ_of_lt k1, k2⟩
    · obtain ⟨h1, _⟩ := hK i cs hi
      exact ⟨by simp only; omega, fun hm => absurd hm (by have := h.lno.2.2; omega)⟩
  · rcases hget_append hi with hi | hi
    · obtain ⟨_, h2, h3⟩ := hold i cs hi
      rw [h3] at hp
      exact h.may i cs p h2 hp
    · obtain ⟨_, j, ds, _, h3, h4, _⟩ := hnew i cs p hi hp
      rw [h4] at hp
      exact h.may j ds p h3 hp
  · have := h.lno.2.2
    show (if i.1 = σ.nx then _ else _) = _
    rw [if_neg (by omega)]
    exact h.lno.2.1 i hi
/-- An operation, and then a change of what is known that the world does not see. -/
theorem OX.after {R R' : AV → St → Prop} (h : OX P E kp o σ R) (k : ∀ v σ', R v σ' → ∀ μ a w, INV E μ σ' a w → ∃ v' σ'' μ', R' v' σ'' ∧ INV E μ' σ'' a w ∧ Sub μ μ' ∧ ∀ c, VR μ v c → VR μ' v' c) : OX P E kp o σ R' := fun μ a w hi K Q hK =>
  h μ a w hi K Q (fun v σ' c μ' w' hr hv hi' hs => by
    obtain ⟨v', σ'', μ2, h1, h2, h3, h4⟩ := k v σ' hr μ' a w' hi'
    exact hK v' σ'' c μ2 w' h1 (h4 c hv) h2 ⟨hs.sub.trans h3, hs.sm⟩)
/-- A fact that holds of every such state may be used. -/
theorem OX.known {R : AV → St → Prop} {p : Prop} (hp : ∀ μ a w, INV E μ σ a w → p) (h : p → OX P E kp o σ R) : OX P E kp o σ R := fun μ a w hi K Q hK => h (hp μ a w hi) μ a w hi K Q hK
end
end Go.BH

/- Rows that own their slices: a cell changed. -/
set_option linter.unusedVariables false
set_option linter.unusedSimpArgs false
namespace Go.BH
open Go.RowKit
theorem famZ_set {i : Nat} : ∀ {e : List CK} {ds : List D} (j p : Nat) {k : CK} (v : D), e[j]? = some k → ds.length = e.length → famZ i p e (ds.set j v) = (famZ i p e ds).set j (encF i (p + j) k v)
  | [], ds, j, p, k, v, h, _ => by simp at h
  | _ :: _, [], j, p, k, v, _, h => by simp at h
  | k0 :: ks, d :: ds, 0, p, k, v, h, _ => by
    simp at h
    subst h
    simp [famZ]
  | k0 :: ks, d :: ds, j + 1, p, k, v, h, hl => by
    simp only [List.set_cons_succ, famZ]
    rw [famZ_set j (p + 1) v (by simpa using h) (by simpa using hl), show p + 1 + j = p + (j + 1) by omega]
theorem blkZ_set {i : Nat} {h : Nat → Bool} : ∀ {e : List CK} {ds : List D} (j p : Nat) (v : D), isSl e j = false → ds.length = e.length → blkZ i h p e (ds.set j v) = blkZ i h p e ds
  | [], [], j, p, v, _, _ => by simp
  | [], _ :: _, j, p, v, _, h => by simp at h
  | _ :: _, [], j, p, v, _, h => by simp at h
  | k0 :: ks, d :: ds, 0, p, v, hn, _ => by
    simp only [List.set_cons_zero, blkZ]
    congr 1
    cases k0 with
    | sl e' => simp [isSl] at hn
    | _ => rfl
  | k0 :: ks, d :: ds, j + 1, p, v, hn, hl => by
    simp only [List.set_cons_succ, blkZ]
    rw [blkZ_set j (p + 1) v (by simpa [isSl] using hn) (by simpa using hl)]
theorem row_setRow {e : List CK} {j : Nat} {v d : D} (h : okE e d = true) : row e (setRow e j v d) = (row e d).set j v := by
  unfold setRow
  rw [row_unrow]
  rw [List.length_set]
  exact okZ_length h
theorem famR_modify {i : Nat} {e : List CK} {j : Nat} {k : CK} {v : D} (hk : e[j]? = some k) : ∀ {xs : List D} {r p : Nat}, (∀ x ∈ xs, okE e x = true) → r < xs.length → famR i e p (xs.modify r (setRow e j v)) = (famR i e p xs).set (r * e.length + j) (encF i (p + r * e.length + j) k v)
  | [], r, p, _, h => by simp at h
  | d :: ds, 0, p, ho, h => by
    have hd := ho d List.mem_cons_self
    have hj : j < e.length := by
      rcases Nat.lt_or_ge j e.length with g | g
      · exact g
      · rw [List.getElem?_eq_none g] at hk; cases hk
    simp only [List.modify_zero_cons, famR, Nat.zero_mul, Nat.zero_add, Nat.add_zero]
    rw [row_setRow hd, famZ_set j p v hk (okZ_length hd), List.set_append_left _ _ (by rw [famZ_length]; exact hj)]
  | d :: ds, r + 1, p, ho, h => by
    simp only [List.modify_succ_cons, famR]
    rw [famR_modify hk (fun x hx => ho x (List.mem_cons_of_mem _ hx)) (by simpa using h), List.set_append_right _ _ (by rw [famZ_length, Nat.add_mul]; omega), famZ_length]
    congr 2
    · rw [Nat.add_mul]; omega
    · rw [Nat.add_mul]; congr 1; omega
theorem blkR_modify {i : Nat} {h : Nat → Bool} {e : List CK} {j : Nat} {v : D} (hn : isSl e j = false) : ∀ {xs : List D} {r p : Nat}, (∀ x ∈ xs, okE e x = true) → blkR i h e p (xs.modify r (setRow e j v)) = blkR i h e p xs
  | [], r, p, _ => by simp
  | d :: ds, 0, p, ho => by
    have hd := ho d List.mem_cons_self
    simp only [List.modify_zero_cons, blkR]
    rw [row_setRow hd, blkZ_set j p v hn (okZ_length hd)]
  | d :: ds, r + 1, p, ho => by
    simp only [List.modify_succ_cons, blkR]
    rw [blkR_modify hn (fun x hx => ho x (List.mem_cons_of_mem _ hx))]
end Go.BH

/- A row stored in a list that owns its slices: plain cells anew, slices as they are. -/
set_option linter.unusedVariables false
set_option linter.unusedSimpArgs false
namespace Go.BH
open Go.RowKit
theorem atRC_modify {e : List CK} {j c : Nat} {v : D} (hcj : c ≠ j) {xs : List D} {r r' : Nat} (ho : ∀ x ∈ xs, okE e x = true) : atRC e c (.l (xs.modify r (setRow e j v))) r' = atRC e c (.l xs) r' := by
  simp only [atRC, D.items, List.getElem?_modify]
  by_cases hr : r = r'
  · subst hr
    cases h : xs[r]? with
    | none => rfl
    | some x =>
      simp only [if_true, Option.map_eq_map, Option.map_some]
      rw [row_setRow (ho x (List.mem_of_getElem? h)), List.getElem?_set_ne (Ne.symm hcj)]
  · have : (fun a => if r = r' then setRow e j v a else a) <$> xs[r']? = xs[r']? := by
      cases xs[r']? with
      | none => rfl
      | some x => simp [hr]
    rw [this]
/-- The cells of a row, from column j on: what must be reckoned, and the list behind it. -/
def setsO (e : List CK) (i : Nat) (ix a0 : At) : Nat → At → Nat → List SV → Option (List Nd × At)
  | _, a, _, [] => some ([], a)
  | m, a, j, x :: xs => match isSl e j with
    | true => (match x with
      | .slD i' e' a' ix' c => if (Nat.beq i' i && CK.beqs e' e && At.beq a' a0 && At.beq ix' ix && Nat.beq c j) = true then setsO e i ix a0 m a (j + 1) xs else none
      | _ => none)
    | false => (match x with
      | .dat k b => if CK.beq (e.getD j .bool) k = true then (match setsO e i ix a0 (m + 1) (.v m) (j + 1) xs with
        | some (nds, r) => some (.pr (.set e j) [a, ix, b] :: nds, r)
        | none => none) else none
      | _ => none)
section
variable {env : List D} {Φ : Fns}
theorem set_fact1 {m : Nat} {e : List CK} {j : Nat} {a ix b : At} (h : Fact env m (.set e j) [a, ix, b]) : ∃ xs z x, a.den env = .l xs ∧ ix.den env = .i z ∧ b.den env = x ∧ (∀ y ∈ xs, okE e y = true) ∧ 0 ≤ z ∧ z < xs.length ∧ okC (e.getD j .bool) x = true ∧ (At.v m).den env = .l (xs.modify z.toNat (setRow e j x)) := by
  obtain ⟨h1, h2⟩ := h
  simp only [List.map_cons, List.map_nil, Pr.args, okZ, Bool.and_eq_true, Bool.and_true] at h1 h2
  obtain ⟨xs, hx, hok⟩ := okC_sl h2.1
  obtain ⟨z, hz⟩ := okC_int h2.2.1
  rw [hx, hz] at h1
  simp only [Pr.eval] at h1
  split at h1
  · rename_i hh
    exact ⟨xs, z, _, hx, hz, rfl, hok, hh.1, hh.2, h2.2.2, (Option.some.inj h1).symm⟩
  · cases h1
theorem setsO_range {e : List CK} {i : Nat} {ix a0 : At} : ∀ {cs : List SV} {m j : Nat} {a : At} {nds : List Nd} {r : At}, setsO e i ix a0 m a j cs = some (nds, r) → nds ≠ [] → Facts Φ env m nds → ∃ xs z, a.den env = .l xs ∧ ix.den env = .i z ∧ (∀ y ∈ xs, okE e y = true) ∧ 0 ≤ z ∧ z < xs.length
  | [], m, j, a, nds, r, h, hn, _ => by
    simp only [setsO, Option.some.injEq, Prod.mk.injEq] at h
    exact absurd h.1.symm hn
  | x :: cs, m, j, a, nds, r, h, hn, hf => by
    unfold setsO at h
    split at h
    · split at h
      · split at h
        · exact setsO_range h hn hf
        · cases h
      · cases h
    · split at h
      · split at h
        · split at h
          · rename_i nds' r' hr
            cases h
            obtain ⟨xs, z, x, h1, h2, h3, h4, h5, h6, _⟩ := set_fact1 hf.1
            exact ⟨xs, z, h1, h2, h4, h5, h6⟩
          · cases h
        · cases h
      · cases h
theorem setsO_fact {e : List CK} {i : Nat} {ix a0 : At} {x0 : List D} {z : Int} (h0 : a0.den env = .l x0) (hz : ix.den env = .i z) (hz0 : 0 ≤ z) : ∀ {cs : List SV} {m j : Nat} {a : At} {nds : List Nd} {r : At} {xs : List D}, setsO e i ix a0 m a j cs = some (nds, r) → Facts Φ env m nds → j + cs.length ≤ e.length → a.den env = .l xs → (∀ y ∈ xs, okE e y = true) → z < xs.length → (∀ c, isSl e c = true → atRC e c (.l xs) z.toNat = atRC e c (.l x0) z.toNat) →
    ∃ ys, r.den env = .l ys ∧ (∀ y ∈ ys, okE e y = true) ∧ ys.length = xs.length ∧ famR i e 0 ys = upd (famR i e 0 xs) (z.toNat * e.length + j) (SV.dens env cs) ∧ (∀ h, blkR i h e 0 ys = blkR i h e 0 xs)
  | [], m, j, a, nds, r, xs, h, hf, hl, ha, hok, hlt, hc => by
    simp only [setsO, Option.some.injEq, Prod.mk.injEq] at h
    obtain ⟨rfl, rfl⟩ := h
    exact ⟨xs, ha, hok, rfl, rfl, fun _ => rfl⟩
  | x :: cs, m, j, a, nds, r, xs, h, hf, hl, ha, hok, hlt, hc => by
    simp only [List.length_cons] at hl
    have hj : j < e.length := by omega
    have hlt' : z.toNat < xs.length := by omega
    unfold setsO at h
    split at h
    · rename_i hsl
      split at h
      · rename_i i' e' a' ix' c
        split at h
        · rename_i hb
          simp only [Bool.and_eq_true] at hb
          obtain ⟨⟨⟨⟨b1, b2⟩, b3⟩, b4⟩, b5⟩ := hb
          obtain rfl := Nat.eq_of_beq_eq_true b1
          obtain rfl := CK.beqs_eq b2
          obtain rfl := At.beq_eq b3
          obtain rfl := At.beq_eq b4
          obtain rfl := Nat.eq_of_beq_eq_true b5
          obtain ⟨ys, g1, g2, g3, g4, g5⟩ := setsO_fact h0 hz hz0 h hf (by omega) ha hok hlt hc
          refine ⟨ys, g1, g2, g3, ?_, g5⟩
          rw [g4]
          simp only [SV.dens, upd]
          congr 1
          have hd : xs[z.toNat]? = some xs[z.toNat] := List.getElem?_eq_getElem hlt'
          have hk := isSl_get hsl
          obtain ⟨d, k1, k2⟩ := okZ_get (show okZ e' (row e' xs[z.toNat]) = true from hok _ (List.getElem_mem hlt')) c _ hk
          obtain ⟨ws, rfl, _⟩ := okC_sl k2
          have hcell : (famR i' e' 0 xs)[z.toNat * e'.length + c]? = some (encF i' (z.toNat * e'.length + c) (.sl (colE e' c)) (.l ws)) := by
            rw [famR_get hd hj, famZ_get c hk k1]
          have hval : SV.den env (.slD i' e' a' ix' c) = encF i' (z.toNat * e'.length + c) (.sl (colE e' c)) (.l ws) := by
            have e1 := hc c hsl
            rw [show atRC e' c (.l xs) z.toNat = ws by simp only [atRC, D.items, hd, k1]] at e1
            simp only [SV.den, h0, hz, D.nat, D.int, ← e1, encF]
          rw [hval]
          have hlt2 : z.toNat * e'.length + c < (famR i' e' 0 xs).length := by
            rcases Nat.lt_or_ge (z.toNat * e'.length + c) (famR i' e' 0 xs).length with g | g
            · exact g
            · rw [List.getElem?_eq_none g] at hcell; cases hcell
          rw [List.getElem?_eq_getElem hlt2] at hcell
          rw [← Option.some.inj hcell, List.set_getElem_self]
        · cases h
      · cases h
    · rename_i hsl
      split at h
      · rename_i k b
        split at h
        · rename_i hk
          split at h
          · rename_i nds' r' hr
            cases h
            obtain ⟨xs', z', v, q1, q2, q3, q4, q5, q6, q7, q8⟩ := set_fact1 hf.1
            rw [ha] at q1
            cases q1
            rw [hz] at q2
            cases q2
            have hkk : e[j]? = some (e.getD j .bool) := by simp [List.getD, hj]
            have hok' : ∀ y ∈ xs.modify z.toNat (setRow e j v), okE e y = true := fun y hy => by
              rcases mem_modify hy with g | ⟨y', g, rfl⟩
              · exact hok y g
              · exact setRow_ok (hok y' g) q7
            obtain ⟨ys, g1, g2, g3, g4, g5⟩ := setsO_fact h0 hz hz0 hr hf.2 (by omega) q8 hok' (by simpa using hlt) (fun c hcs => by
              rw [atRC_modify (fun e1 => by subst e1; rw [hcs] at hsl; cases hsl) hok]
              exact hc c hcs)
            refine ⟨ys, g1, g2, by rw [g3]; simp, ?_, fun h => by rw [g5, blkR_modify hsl hok]⟩
            rw [g4, famR_modify hkk hok hlt']
            simp only [SV.dens, upd, Nat.zero_add]
            have hval : encF i (z.toNat * e.length + j) (e.getD j .bool) v = (SV.dat k b).den env := by
              obtain rfl := CK.beq_eq hk
              rw [SV.den, q3]
              cases hq : e.getD j .bool with
              | sl e' =>
                rw [hq] at hkk
                simp [isSl, hkk] at hsl
              | int k => rfl
              | bool => rfl
              | str => rfl
            rw [hval]
            rfl
          · cases h
        · cases h
      · cases h
end
end Go.BH

/- Stores into rows that own their slices. -/
set_option linter.unusedVariables false
set_option linter.unusedSimpArgs false
namespace Go.BH
open Go.RowKit
def sStoreO (tab : TyTab) (ks : List Nat) (σ : SS) (m : Nat) (t : TypeId) (p x : SV) : Option (List Nd × SS) :=
  match tyGet tab t with
  | some T => if (aliveS σ ks && !Nat.beq T.size 0 && Nat.beq x.cells.length T.size && SV.ones x.cells) = true then (match p with
    | .ptrE i ix s off => if memN i ks = true then none else (match hgetS σ.H i with
      | some (.arr (.ow none) e a n) => if (Nat.beq s e.length && okSz off T.size e.length) = true then (match setsO e i ix a m a off x.cells with
          | some (nd :: nds, r) => some (nd :: nds, ⟨σ.T, hputS σ.H i (.arr (.ow none) e r n), σ.nx⟩)
          | _ => none) else none
      | _ => none)
    | _ => none) else none
  | none => none
section
variable {P : Program} {E : En} {σ : SS} {o : Oper} {ks : List Nat} {tab : TyTab} {env : List D} {m : Nat} {nds : List Nd} {v : SV} {Φ : Fns}
theorem sStoreO_ok {t : TypeId} {p x : Operand} {σ' : SS} (htab : TabOk P tab) (hg : σ.Good env) (ho : o.op = .store t p x) (h : sStoreO tab ks σ m t (σ.ev p) (σ.ev x) = some (nds, σ')) (hf : Facts Φ env m nds) : EffR P E ks o σ env .any σ' := by
  have hp := SS.ev_den env σ p
  unfold sStoreO at h
  split at h
  · rename_i T hT
    obtain ⟨dt, it, zt, tu, ti, tz, t1, t2, t3, t4, t5, t6⟩ := tyGet_ok htab hT
    split at h
    · rename_i hb
      simp only [Bool.and_eq_true, Bool.not_eq_true'] at hb
      obtain ⟨⟨⟨b1, b2⟩, b3⟩, b4⟩ := hb
      have b2' : it.size ≠ 0 := fun e0 => by rw [t1, e0] at b2; simp at b2
      have b3 := Nat.eq_of_beq_eq_true b3
      have hone := SV.ones_den b4 (goods_cells (ev_good hg x))
      rw [← SV.cells_den, ← SS.ev_den] at hone
      have hlen : ((σ.den env).ev x).cells.length = it.size := by
        rw [SS.ev_den, SV.cells_den, dens_len, b3, t1]
      have hkp : ∀ i, memN i ks ≠ true → ∀ j, kpOf ks j = true → (hget (σ.den env).H j).isSome = true ∧ j ≠ i := fun i hi j hj => ⟨alive_ok b1 j hj, fun e => hi (by rw [← e]; exact hj)⟩
      split at h
      · rename_i i ix s off ep
        rw [ep] at hp
        split at h
        · cases h
        · rename_i hmem
          split at h
          · rename_i e a n hh
            split at h
            · rename_i hsz
              simp only [Bool.and_eq_true] at hsz
              obtain rfl := Nat.eq_of_beq_eq_true hsz.1
              have hsz := Nat.le_of_ble_eq_true hsz.2
              split at h
              · rename_i nd nds' r hset
                cases h
                obtain ⟨xs, z, k1, k2, k3, k4, k5⟩ := setsO_range hset (by simp) hf
                obtain ⟨ys, g1, g2, g3, g4, g5⟩ := setsO_fact k1 k2 k4 hset hf (by rw [b3]; exact hsz) k1 k3 k5 (fun _ _ => rfl)
                have hgt : hget (σ.den env).H i = some (famR i e 0 xs) := by
                  show hget (denH env σ.H) i = _
                  rw [hget_denH, hh]
                  simp [SB.den, k1, D.items]
                simp only [SV.den, k2, D.nat, D.int] at hp
                have hle : z.toNat * e.length + off + it.size ≤ (famR i e 0 xs).length := by
                  rw [famR_length, ← t1]
                  have : (z.toNat + 1) * e.length ≤ xs.length * e.length := Nat.mul_le_mul_right _ (by omega)
                  rw [Nat.add_mul] at this
                  omega
                refine ⟨(OS0.store (P := P) (E := E) (σ := σ.den env) (kp := kpOf ks) ho ti b2' hp hgt hlen hle (ones_iff.1 hone) (hkp i hmem)).ox ⟨rfl, ?_⟩, sinv_put hg (fun w' e' a' k' h => ?_)⟩
                · have hm : (SB.arr (.ow none) e r n).more env i = (SB.arr (.ow none) e a n).more env i := by
                    simp only [SB.more, g1, k1, D.items, g5]
                  have := (Ex.refl (env := env) σ.H).put i (b := .arr (.ow none) e r n) (fun p cs _ k => by
                    rw [hm] at k
                    rw [hget_denH1, hh]
                    exact k)
                  simp only [SB.den, g1, D.items] at this
                  rw [g4, ← SV.cells_den, ← SS.ev_den] at this
                  exact this.leS
                · cases h
                  have := (hg.A i _ e a n hh).2
                  rw [this, k1, g1]
                  simp [D.items, g3]
              · cases h
            · cases h
          · cases h
      · cases h
    · cases h
  · cases h
end
end Go.BH

/- A block that is owned is taken out for a call, and put back. -/
set_option linter.unusedVariables false
set_option linter.unusedSimpArgs false
namespace Go.BH
open Go.RowKit
section
variable {P : Program} {E : En} {σ : St} {o : Oper} {kp : Nat → Bool}
/-- Block q under the name j, which lies in the same place. -/
theorem INV.swap {μ : Mu} {a : Act} {w : World} {q j : Nm} {cs : List AV} (h : INV E μ σ a w) (hq : hget σ.H q = some cs) (hj : hget σ.H j = none) (hp : μ.pl q = μ.pl j) (hl : j.1 < σ.nx ∧ (j.1 < E.m → E.al j)) : INV E μ ⟨σ.T, hdel σ.H q ++ [(j, cs)], σ.nx⟩ a w := by
  have hc : ∀ i ds, hget (hdel σ.H q ++ [(j, cs)]) i = some ds → (i ≠ q ∧ i ≠ j ∧ hget σ.H i = some ds) ∨ (i = j ∧ ds = cs) := fun i ds hi => by
    rcases hget_append hi with g | g
    · obtain ⟨h1, h2⟩ := hget_hdel g
      refine .inl ⟨Ne.symm h1, fun e => ?_, h2⟩
      rw [e, hj] at h2; cases h2
    · simp only [hget] at g
      split at g
      · rename_i e
        exact .inr ⟨(nbeq_eq e).symm, (Option.some.inj g).symm⟩
      · cases g
  refine ⟨h.tmps, h.size, h.defers, ⟨fun i ds hi p hp' => ?_, fun i ds hi hne => ?_, fun i i' ds ds' hii hi hi' p p' hp1 hp2 => ?_, h.heap.rd, fun i ds p hi hp' l => ?_⟩, h.fresh, fun i ds hi => ?_, h.kept, fun i ds p hi hp' => ?_, h.fzn, h.fzo, h.lno⟩
  · rcases hc i ds hi with ⟨_, _, g⟩ | ⟨rfl, rfl⟩
    · exact h.heap.own i ds g p hp'
    · exact h.heap.own q _ hq p (hp.trans hp')
  · rcases hc i ds hi with ⟨_, _, g⟩ | ⟨rfl, rfl⟩
    · exact h.heap.there i ds g hne
    · obtain ⟨p, hp'⟩ := h.heap.there q _ hq hne
      exact ⟨p, hp.symm.trans hp'⟩
  · rcases hc i ds hi with ⟨n1, n2, g⟩ | ⟨rfl, rfl⟩
    · rcases hc i' ds' hi' with ⟨_, _, g'⟩ | ⟨rfl, rfl⟩
      · exact h.heap.apart i i' ds ds' hii g g' p p' hp1 hp2
      · exact h.heap.apart i q ds _ n1 g hq p p' hp1 (hp.trans hp2)
    · rcases hc i' ds' hi' with ⟨n1, n2, g'⟩ | ⟨rfl, rfl⟩
      · exact h.heap.apart q i' _ ds' (Ne.symm n1) hq g' p p' (hp.trans hp1) hp2
      · exact absurd rfl hii
  · rcases hc i ds hi with ⟨_, _, g⟩ | ⟨rfl, rfl⟩
    · exact h.heap.far i ds p g hp' l
    · exact h.heap.far q _ p hq (hp.trans hp') l
  · rcases hc i ds hi with ⟨_, _, g⟩ | ⟨rfl, rfl⟩
    · exact h.low i ds g
    · exact hl
  · rcases hc i ds hi with ⟨_, _, g⟩ | ⟨rfl, rfl⟩
    · exact h.may i ds p g hp'
    · exact h.may q _ p hq (hp.trans hp')
theorem INV.rename' {μ : Mu} {a : Act} {w : World} (h : INV E μ σ a w) {i : Nm} {cs : List AV} (hi : hget σ.H i = some cs) : ∃ μ', INV E μ' ⟨σ.T, hdel σ.H i ++ [((σ.nx, 0), cs)], σ.nx + 1⟩ a w ∧ Sub μ μ' ∧ μ'.pl (σ.nx, 0) = μ.pl i ∧ ∀ n : Nm, n ≠ (σ.nx, 0) → μ'.pl n = μ.pl n := by
  have hd := h.del i
  have hno := h.fresh σ.nx (Nat.le_refl _)
  cases hp : μ.pl i with
  | none =>
    have hcs : cs = [] := by
      cases cs with
      | nil => rfl
      | cons x xs =>
        obtain ⟨a, ha⟩ := h.heap.there i _ hi (by simp)
        rw [hp] at ha; cases ha
    subst hcs
    exact ⟨μ, hd.ghost, .refl μ, hno, fun _ _ => rfl⟩
  | some p =>
    obtain ⟨c, t, g1, g2, g3, g4⟩ := h.heap.own i cs hi p hp
    refine ⟨μ.put σ.nx p, hd.name g1 g2 g3 g4 (fun j ds hj b hb => ?_) (fun l b ds hl => ?_) (Kept.refl _ _) (h.may i cs p hi hp), Mu.put_sub hno p, Mu.put_same _ _ _, fun n hn => Mu.put_ne _ _ hn⟩
    · obtain ⟨hne, hj'⟩ := hget_hdel hj
      exact ⟨(h.heap.apart i j cs ds hne hi hj' p b hp hb).symm, rfl⟩
    · refine ⟨fun e => ?_, rfl⟩
      subst e
      rw [h.heap.far i cs p hi hp l] at hl
      cases hl
/-- An operation with block j taken out under a fresh name, and put back behind it. -/
theorem OXp.hoist {R R' : AV → St → Prop} {j : Nm} {cs : List AV} (hj : hget σ.H j = some cs) (h : OXp P E kp o ⟨σ.T, hdel σ.H j ++ [((σ.nx, 0), cs)], σ.nx + 1⟩ R)
    (hR : ∀ v σ', R v σ' → ∃ cs' v' σ'', hget σ'.H (σ.nx, 0) = some cs' ∧ hget σ'.H j = none ∧ σ.nx < σ'.nx ∧ R' v' σ'' ∧ (∀ μ a w, μ.pl (σ.nx, 0) = μ.pl j → INV E μ ⟨σ'.T, hdel σ'.H (σ.nx, 0) ++ [(j, cs')], σ'.nx⟩ a w → INV E μ σ'' a w ∧ ∀ c, VR μ v c → VR μ v' c)) : OXp P E kp o σ R' := fun μ a w hi K Q hK => by
  obtain ⟨μ1, h1, h2, h3, h4⟩ := hi.rename' hj
  refine h μ1 a w h1 K Q (fun v σ' c μ' w' hr hv hi' hs hpl => ?_)
  obtain ⟨cs', v', σ'', g1, g2, g3, g4, g5⟩ := hR v σ' hr
  obtain ⟨k1, k2⟩ := hi.low j cs hj
  have hlt : ∀ i : Nm, i.1 < σ.nx → i ≠ (σ.nx, 0) := fun i hi e => by rw [e] at hi; simp at hi
  have hpj : μ'.pl (σ.nx, 0) = μ'.pl j := by
    rw [hpl (σ.nx, 0) (Nat.lt_succ_self _), hpl j (Nat.lt_succ_of_lt k1), h3, h4 j (hlt j k1)]
  have hsw := hi'.swap g1 g2 hpj ⟨by omega, k2⟩
  obtain ⟨q1, q2⟩ := g5 μ' a w' hpj hsw
  exact hK v' σ'' c μ' w' g4 (q2 c hv) q1 ⟨h2.trans hs.sub, ⟨fun i hk p hp => hs.sm.own i hk p (h2.pl _ _ hp), fun l b ds hl => hs.sm.rd l b ds (h2.rd l b ds hl)⟩⟩ (fun i hi' => (hpl i (Nat.lt_succ_of_lt hi')).trans (h4 i (hlt i hi')))
end
end Go.BH

/- Zero rows that own their (empty) slices. -/
set_option linter.unusedVariables false
set_option linter.unusedSimpArgs false
namespace Go.BH
open Go.RowKit
def zerosO : List CK → List SV → Option (List D)
  | [], [] => some []
  | k :: ks, x :: xs => match k, x with
    | .sl _, .nilS => (match zerosO ks xs with
      | some r => some (.l [] :: r)
      | none => none)
    | .sl _, _ => none
    | k, .dat k' (.k d) => if (CK.beq k' k && okC k d) = true then (match zerosO ks xs with
      | some r => some (d :: r)
      | none => none) else none
    | _, _ => none
  | _, _ => none
def D.isNil : D → Bool
  | .l [] => true
  | _ => false
/-- Its lists are empty. -/
def emptyZ : List CK → List D → Bool
  | .sl _ :: ks, d :: ds => d.isNil && emptyZ ks ds
  | _ :: ks, _ :: ds => emptyZ ks ds
  | _, _ => true
section
variable {env : List D}
theorem zerosO_ok {i : Nat} : ∀ {e : List CK} {xs : List SV} {z : List D}, zerosO e xs = some z → okZ e z = true ∧ emptyZ e z = true ∧ ∀ p, Wks (SV.dens env xs) (famZ i p e z)
  | [], [], z, h => by
    simp only [zerosO, Option.some.injEq] at h
    subst h
    exact ⟨rfl, rfl, fun p => .nil⟩
  | [], _ :: _, z, h => by simp [zerosO] at h
  | _ :: _, [], z, h => by simp [zerosO] at h
  | k :: ks, x :: xs, z, h => by
    unfold zerosO at h
    split at h
    · split at h
      · rename_i e' r hr
        cases h
        obtain ⟨h1, h2, h3⟩ := zerosO_ok (i := i) hr
        refine ⟨by simp only [okZ, Bool.and_eq_true]; exact ⟨rfl, h1⟩, by simp only [emptyZ, D.isNil, Bool.true_and]; exact h2, fun p => ?_⟩
        simp only [SV.dens, famZ]
        refine .cons (fun μ c hv => ?_) (h3 _)
        cases hv
        exact .sl0 _
      · cases h
    · cases h
    · rename_i k' d hk
      split at h
      · rename_i hb
        simp only [Bool.and_eq_true] at hb
        obtain rfl := CK.beq_eq hb.1
        split at h
        · rename_i r hr
          cases h
          obtain ⟨h1, h2, h3⟩ := zerosO_ok (i := i) hr
          refine ⟨by simp only [okZ, Bool.and_eq_true]; exact ⟨hb.2, h1⟩, ?_, fun p => ?_⟩
          · cases k' with
            | sl e' => exact absurd rfl (hk e')
            | _ => simp only [emptyZ]; exact h2
          · simp only [SV.dens, famZ]
            refine .cons ?_ (h3 _)
            have : encF i p k' d = (SV.dat k' (.k d)).den env := by
              cases k' with
              | sl e' => exact absurd rfl (hk e')
              | _ => rfl
            rw [this]
            exact .refl _
        · cases h
      · cases h
    · cases h
theorem Wks.app {a b c d : List AV} (h : Wks a b) (k : Wks c d) : Wks (a ++ c) (b ++ d) := by
  induction h with
  | nil => exact k
  | cons h _ ih => exact .cons h ih
theorem famR_zero {i : Nat} {e : List CK} {z : List D} {zs : List AV} (hl : z.length = e.length) (h : ∀ p, Wks zs (famZ i p e z)) : ∀ (n p : Nat), Wks (List.replicate n zs).flatten (famR i e p (List.replicate n (unrow e z)))
  | 0, p => .nil
  | n + 1, p => by
    simp only [List.replicate_succ, List.flatten_cons, famR]
    rw [row_unrow hl]
    exact (h p).app (famR_zero hl h n _)
theorem blkZ_empty {i : Nat} {h : Nat → Bool} : ∀ {e : List CK} {ds : List D} {p : Nat} {j : Nm} {cs : List AV}, emptyZ e ds = true → hget (blkZ i h p e ds) j = some cs → cs = []
  | [], ds, p, j, cs, _, g => by simp [blkZ, hget] at g
  | _ :: _, [], p, j, cs, _, g => by simp [blkZ, hget] at g
  | k :: ks, d :: ds, p, j, cs, he, g => by
    simp only [blkZ, hget_app] at g
    split at g
    · rename_i cs' g1
      obtain rfl := Option.some.inj g
      cases k with
      | sl e' =>
        simp only [emptyZ, Bool.and_eq_true] at he
        cases d with
        | l xs =>
          cases xs with
          | nil =>
            simp only at g1
            split at g1
            · cases g1
            · simp only [hget] at g1
              split at g1
              · exact (Option.some.inj g1).symm
              · cases g1
          | cons => simp [D.isNil] at he
        | _ => cases g1
      | _ => cases g1
    · refine blkZ_empty (p := p + 1) ?_ g
      cases k with
      | sl e' =>
        simp only [emptyZ, Bool.and_eq_true] at he
        exact he.2
      | _ => simpa only [emptyZ] using he
theorem blkR_empty {i : Nat} {h : Nat → Bool} {e : List CK} {z : List D} (hl : z.length = e.length) (he : emptyZ e z = true) : ∀ {n p : Nat} {j : Nm} {cs : List AV}, hget (blkR i h e p (List.replicate n (unrow e z))) j = some cs → cs = []
  | 0, p, j, cs, g => by simp [blkR, hget] at g
  | n + 1, p, j, cs, g => by
    simp only [List.replicate_succ, blkR, hget_app] at g
    rw [row_unrow hl] at g
    split at g
    · rename_i g1
      obtain rfl := Option.some.inj g
      exact blkZ_empty he g1
    · exact blkR_empty hl he g
end
end Go.BH

/- Rows that come to own their slices, whatever the blocks were before. -/
set_option linter.unusedVariables false
set_option linter.unusedSimpArgs false
namespace Go.BH
open Go.RowKit
/-! ### where a row's blocks are -/
theorem blkZ_inv {i : Nat} {h : Nat → Bool} : ∀ {e : List CK} {ds : List D} {p q : Nat} {cs : List AV}, hget (blkZ i h p e ds) (i, q + 1) = some cs → ∃ c e' ls, q = p + c ∧ e[c]? = some (.sl e') ∧ ds[c]? = some (.l ls) ∧ h q = false ∧ cs = encR e' ls
  | [], ds, p, q, cs, g => by simp [blkZ, hget] at g
  | _ :: _, [], p, q, cs, g => by simp [blkZ, hget] at g
  | k :: ks, d :: ds, p, q, cs, g => by
    simp only [blkZ, hget_app] at g
    split at g
    · rename_i cs' g1
      cases g
      split at g1
      · rename_i e' xs
        split at g1
        · cases g1
        · rename_i hh
          simp only [hget] at g1
          split at g1
          · rename_i e1
            have e2 := congrArg Prod.snd (nbeq_eq e1)
            simp only at e2
            obtain rfl : p = q := by omega
            exact ⟨0, e', xs, rfl, rfl, rfl, by simpa using hh, (Option.some.inj g1).symm⟩
          · cases g1
      · cases g1
    · obtain ⟨c, e', ls, h1, h2, h3, h4, h5⟩ := blkZ_inv g
      exact ⟨c + 1, e', ls, by omega, by simpa using h2, by simpa using h3, h4, h5⟩
theorem blkR_inv {i : Nat} {h : Nat → Bool} {e : List CK} : ∀ {ds : List D} {p q : Nat} {cs : List AV}, hget (blkR i h e p ds) (i, q + 1) = some cs → ∃ r c d e' ls, q = p + r * e.length + c ∧ ds[r]? = some d ∧ e[c]? = some (.sl e') ∧ (row e d)[c]? = some (.l ls) ∧ h q = false ∧ cs = encR e' ls
  | [], p, q, cs, g => by simp [blkR, hget] at g
  | d :: ds, p, q, cs, g => by
    simp only [blkR, hget_app] at g
    split at g
    · rename_i g1
      cases g
      obtain ⟨c, e', ls, h1, h2, h3, h4, h5⟩ := blkZ_inv g1
      exact ⟨0, c, d, e', ls, by omega, rfl, h2, h3, h4, h5⟩
    · obtain ⟨r, c, d', e', ls, h1, h2, h3⟩ := blkR_inv g
      exact ⟨r + 1, c, d', e', ls, by rw [Nat.add_mul]; omega, by simpa using h2, h3⟩
theorem blkZ_put {i : Nat} {h : Nat → Bool} {e' : List CK} {ls : List D} : ∀ {e : List CK} {ds : List D} {c p : Nat}, e[c]? = some (.sl e') → ds[c]? = some (.l ls) → h (p + c) = false → hget (blkZ i h p e ds) (i, p + c + 1) = some (encR e' ls)
  | [], ds, c, p, h1, _, _ => by simp at h1
  | _ :: _, [], c, p, _, h2, _ => by simp at h2
  | k :: ks, d :: ds, 0, p, h1, h2, h3 => by
    simp at h1 h2
    subst h1
    subst h2
    simp only [blkZ, hget_app]
    rw [if_neg (by simpa using h3)]
    simp [hget]
  | k :: ks, d :: ds, c + 1, p, h1, h2, h3 => by
    simp only [blkZ, hget_app]
    rw [show p + (c + 1) + 1 = (p + 1) + c + 1 by omega]
    have ih := blkZ_put (i := i) (h := h) (p := p + 1) (c := c) (e := ks) (ds := ds) (by simpa using h1) (by simpa using h2) (by rw [← h3]; congr 1; omega)
    split
    · rename_i g1
      exfalso
      split at g1
      · split at g1
        · cases g1
        · simp only [hget] at g1
          split at g1
          · rename_i e1
            have e2 := congrArg Prod.snd (nbeq_eq e1)
            simp only at e2
            omega
          · cases g1
      · cases g1
    · exact ih
theorem blkR_put {i : Nat} {h : Nat → Bool} {e e' : List CK} {d : D} {ls : List D} : ∀ {ds : List D} {r c p : Nat}, ds[r]? = some d → e[c]? = some (.sl e') → (row e d)[c]? = some (.l ls) → h (p + r * e.length + c) = false → hget (blkR i h e p ds) (i, p + r * e.length + c + 1) = some (encR e' ls)
  | [], r, c, p, h0, _, _, _ => by simp at h0
  | d0 :: ds, 0, c, p, h0, h1, h2, h3 => by
    simp at h0
    subst h0
    simp only [Nat.zero_mul, Nat.add_zero] at h3 ⊢
    simp only [blkR, hget_app, blkZ_put h1 h2 h3]
  | d0 :: ds, r + 1, c, p, h0, h1, h2, h3 => by
    simp only [blkR, hget_app]
    have ih := blkR_put (i := i) (h := h) (e := e) (p := p + e.length) (r := r) (c := c) (ds := ds) (by simpa using h0) h1 h2 (by rw [← h3, Nat.add_mul]; congr 1; omega)
    rw [show p + e.length + r * e.length + c + 1 = p + (r + 1) * e.length + c + 1 by rw [Nat.add_mul]; omega] at ih
    split
    · rename_i g1
      exfalso
      have := blkZ_name g1
      simp only at this
      rw [Nat.add_mul] at this
      omega
    · exact ih
theorem blkR_hole {i : Nat} {h : Nat → Bool} {e : List CK} {ds : List D} {p q : Nat} (hq : h q = true) : hget (blkR i h e p ds) (i, q + 1) = none := by
  cases g : hget (blkR i h e p ds) (i, q + 1) with
  | none => rfl
  | some cs =>
    obtain ⟨r, c, d, e', ls, _, _, _, _, h5, _⟩ := blkR_inv g
    rw [hq] at h5
    cases h5
theorem col_lt {e : List CK} {c : Nat} {k : CK} (h : e[c]? = some k) : c < e.length := by
  rcases Nat.lt_or_ge c e.length with g | g
  · exact g
  · rw [List.getElem?_eq_none g] at h; cases h
theorem famR_inv {i : Nat} {e : List CK} {ys : List D} {P : Nat} {x : AV} (hok : ∀ y ∈ ys, okE e y = true) (h : (famR i e 0 ys)[P]? = some x) : ∃ r c d k v, P = r * e.length + c ∧ ys[r]? = some d ∧ e[c]? = some k ∧ (row e d)[c]? = some v ∧ okC k v = true ∧ x = encF i P k v := by
  have hP : P < ys.length * e.length := by
    rw [← famR_length i e ys 0]
    rcases Nat.lt_or_ge P (famR i e 0 ys).length with g | g
    · exact g
    · rw [List.getElem?_eq_none g] at h; cases h
  have hw : 0 < e.length := by
    rcases Nat.eq_zero_or_pos e.length with g | g
    · rw [g] at hP; simp at hP
    · exact g
  have hr : P / e.length < ys.length := Nat.div_lt_of_lt_mul (by rw [Nat.mul_comm]; exact hP)
  have hc : P % e.length < e.length := Nat.mod_lt _ hw
  have hpe : P = P / e.length * e.length + P % e.length := by rw [Nat.mul_comm]; exact (Nat.div_add_mod _ _).symm
  have hd : ys[P / e.length]? = some ys[P / e.length] := List.getElem?_eq_getElem hr
  have hk : e[P % e.length]? = some e[P % e.length] := List.getElem?_eq_getElem hc
  obtain ⟨v, k1, k2⟩ := okZ_get (show okZ e (row e ys[P / e.length]) = true from hok _ (List.getElem_mem hr)) _ _ hk
  refine ⟨P / e.length, P % e.length, _, _, v, hpe, hd, hk, k1, k2, ?_⟩
  have h1 := famR_get (i := i) hd hc
  rw [← hpe, h, famZ_get _ hk k1, ← hpe] at h1
  exact Option.some.inj h1
/-! ### cells and where they came from -/
/-- A cell of kind k and datum d: a slice is the whole of block og, or empty. -/
def OCell (H : Hp) (og : Option Nm) (k : CK) (d : D) (x : AV) : Prop :=
  match k, d with
  | .sl e, .l ls => (∃ o, og = some o ∧ x = .sl o 0 ls.length e.length ∧ hget H o = some (encR e ls)) ∨ (og = none ∧ ls = [] ∧ (x = .v (.slice none 0 0) ∨ x = .e0))
  | k, d => x = encC k d
def fog (j0 : Nm) (og : Nat → Option Nm) : Nat → Option Nm
  | 0 => some j0
  | p + 1 => og p
theorem INV.group {E : En} {τ : St} {μ : Mu} {a : Act} {w : World} (h : INV E μ τ a w) {j0 : Nm} {cells : List AV} (hj : hget τ.H j0 = some cells) {e : List CK} {ys : List D} (hok : ∀ y ∈ ys, okE e y = true) (hlen : cells.length = ys.length * e.length) {og : Nat → Option Nm}
    (hc : ∀ r c d k v, ys[r]? = some d → e[c]? = some k → (row e d)[c]? = some v → ∃ x, cells[r * e.length + c]? = some x ∧ OCell τ.H (og (r * e.length + c)) k v x) {dl : Nm → Bool} (hd0 : dl j0 = true) (hdl : ∀ p o, og p = some o → dl o = true) (hinj : ∀ p p' o, og p = some o → og p' = some o → p = p') (hne : ∀ p, og p ≠ some j0) :
    INV E (μ.grp τ.nx (fog j0 og)) ⟨τ.T, hrem dl τ.H ++ (((τ.nx, 0), famR τ.nx e 0 ys) :: blkR τ.nx (fun _ => false) e 0 ys), τ.nx + 1⟩ a w ∧ Sub μ (μ.grp τ.nx (fog j0 og)) := by
  have hsub := Mu.grp_sub (f := fog j0 og) h.fresh
  refine h.regroup (K := ((τ.nx, 0), famR τ.nx e 0 ys) :: blkR τ.nx (fun _ => false) e 0 ys) (fun i cs' hi => ?_) (fun r j hf => ?_) (fun r r' j h1 h2 => ?_)
  · simp only [hget] at hi
    split at hi
    · rename_i e1
      obtain rfl := nbeq_eq e1
      cases hi
      refine ⟨rfl, .inr ⟨j0, cells, rfl, hj, by rw [famR_length, hlen], fun k x' hk => ?_⟩⟩
      obtain ⟨r, c, d, k0, v, rfl, h1, h2, h3, h4, rfl⟩ := famR_inv hok hk
      obtain ⟨x, g1, g2⟩ := hc r c d k0 v h1 h2 h3
      refine ⟨x, g1, fun val hv => ?_⟩
      cases k0 with
      | sl e' =>
        obtain ⟨ls, rfl, _⟩ := okC_sl h4
        rcases g2 with ⟨o, q1, rfl, q3⟩ | ⟨q1, rfl, q3⟩
        · show VR _ (.sl (τ.nx, r * e.length + c + 1) 0 ls.length e'.length) val
          generalize ls.length = n at hv ⊢
          cases hv with
          | sl hm hcap he => exact .sl (by rw [Mu.grp_new (f := fog j0 og) (r := r * e.length + c + 1) q1]; exact hm) hcap he
          | sl0 A => exact .sl0 A
        · rcases q3 with rfl | rfl
          · cases hv; exact .sl0 _
          · cases hv; exact .sl0 _
      | int k => obtain ⟨n, rfl⟩ := okC_int h4; rw [show x = _ from g2] at hv; exact hv.mono hsub
      | bool => obtain ⟨n, rfl⟩ := okC_bool h4; rw [show x = _ from g2] at hv; exact hv.mono hsub
      | str => obtain ⟨n, rfl⟩ := okC_str h4; rw [show x = _ from g2] at hv; exact hv.mono hsub
    · have hn := blkR_name hi
      obtain ⟨i1, i2⟩ := i
      obtain rfl : i1 = τ.nx := hn.1
      cases i2 with
      | zero => simp at hn
      | succ q =>
        refine ⟨rfl, ?_⟩
        obtain ⟨r, c, d, e', ls, h1, h2, h3, h4, _, rfl⟩ := blkR_inv hi
        obtain ⟨x, g1, g2⟩ := hc r c d _ _ h2 h3 h4
        rw [show r * e.length + c = q by omega] at g2
        rcases g2 with ⟨o, q1, _, q3⟩ | ⟨q1, rfl, _⟩
        · refine .inr ⟨o, _, q1, q3, rfl, fun k x' hk => ⟨x', hk, fun val hv => hv.mono hsub⟩⟩
        · exact .inl ⟨by simp [encR], q1⟩
  · cases r with
    | zero => cases hf; exact hd0
    | succ p => exact hdl p j hf
  · cases r with
    | zero =>
      cases r' with
      | zero => rfl
      | succ p' => cases h1; exact absurd h2 (hne p')
    | succ p =>
      cases r' with
      | zero => cases h2; exact absurd h1 (hne p)
      | succ p' => rw [hinj p p' j h1 h2]
end Go.BH

/- Calls, in letters. -/
set_option linter.unusedVariables false
set_option linter.unusedSimpArgs false
namespace Go.BH
open Go.RowKit
/-- What is known of a function: which it is, what it takes, what it gives. (Letters: those it takes, the lengths of its blocks; then those it gives, the lengths of the blocks behind it.) -/
structure Sig where
  fid : Nat
  ps : List CK
  args : List SV
  H : List (Nat × SB)
  rs : List CK
  res : List SV
  H' : List (Nat × SB)
  nx' : Nat
def lensOf (env : List D) : List (Nat × SB) → List D
  | [] => []
  | (_, .arr _ e a _) :: r => .i (a.den env).items.length :: lensOf env r
  | (_, .cells _) :: r => lensOf env r
def lenNds : List (Nat × SB) → List Nd
  | [] => []
  | (_, .arr _ e a _) :: r => .pr (.len e) [a] :: lenNds r
  | (_, .cells _) :: r => lenNds r
def envA (s : Sig) (vs : List D) : List D := vs ++ lensOf vs s.H
def envR (s : Sig) (vs rsv : List D) : List D := (vs ++ rsv) ++ lensOf (vs ++ rsv) s.H'
/-- The program has such a function, with a body. -/
def knownB (P : Program) (f : FuncId) : Bool :=
  match P.funcs[f]? with
  | some fn => fn.name != "runtime.NumGoroutine" && fn.body.isSome
  | none => false
theorem knownB_spec {P : Program} {f : FuncId} (h : knownB P f = true) : ∃ fn cc, P.funcs[f]? = some fn ∧ (fn.name == "runtime.NumGoroutine") = false ∧ fn.body = some cc := by
  unfold knownB at h
  split at h
  · rename_i fn e
    simp only [Bool.and_eq_true, Option.isSome_iff_exists] at h
    obtain ⟨h1, cc, h2⟩ := h
    exact ⟨fn, cc, e, by simpa using h1, h2⟩
  · cases h
/-- The functions do as their signs say. -/
def SigOk (P : Program) (Φ : Fns) (i : Nat) (s : Sig) : Prop := knownB P s.fid = true ∧ ∀ vs rsv, okZ s.ps vs = true → Φ i vs = some rsv → okZ s.rs rsv = true ∧
  FT P s.fid (SV.dens (envA s vs) s.args) (denH (envA s vs) s.H) s.H.length (fun r H' nx => r = oneOf (SV.dens (envR s vs rsv) s.res) ∧ Le (denH (envR s vs rsv) s.H') H' ∧ nx = s.nx')
/-! ### parts of slices that are handed over -/
mutual
def cutL (σ : SS) : SV → List (Nat × At × At)
  | .sl i lo n _ => if (isZ lo && whole σ i n) = true then [] else [(i, lo, n)]
  | .agg xs => cutLs σ xs
  | .any => []
  | .dat _ _ => []
  | .lz _ _ _ => []
  | .K _ => []
  | .nilS => []
  | .e0 => []
  | .ifc _ => []
  | .ptr _ _ => []
  | .ptrE _ _ _ _ => []
  | .pfz _ _ _ _ _ => []
  | .slD _ _ _ _ _ => []
  | .tup _ => []
  | .fn _ xs => cutLs σ xs
def cutLs (σ : SS) : List SV → List (Nat × At × At)
  | [] => []
  | x :: xs => cutL σ x ++ cutLs σ xs
end
def cutN (σ : SS) : Nat → List (Nat × At × At) → List Nd × List (Nat × At × At × At)
  | _, [] => ([], [])
  | m, (i, lo, n) :: r => match hgetS σ.H i with
    | some (.arr _ e a _) => (match cutN σ (m + 2) r with
      | (nds, cs) => (.pr .plus [lo, n] :: .pr (.cut e .i64 .i64) [a, lo, .v m] :: nds, (i, lo, n, .v (m + 1)) :: cs))
    | _ => cutN σ m r
def cutFind (i : Nat) (lo n : At) : List (Nat × At × At × At) → Option At
  | [] => none
  | (j, lo', n', c) :: r => if (Nat.beq j i && At.beq lo' lo && At.beq n' n) = true then some c else cutFind i lo n r
section
variable {P : Program} {E : En} {σ : SS} {o : Oper} {ks : List Nat} {tab : TyTab} {env : List D} {m : Nat} {nds : List Nd} {v : SV} {Φ : Fns}
def CutOk (σ : SS) (env : List D) (cs : List (Nat × At × At × At)) : Prop := ∀ i lo n c, cutFind i lo n cs = some c → ∃ w e a k xs zl zn, hgetS σ.H i = some (.arr w e a k) ∧ a.den env = .l xs ∧ lo.den env = .i zl ∧ n.den env = .i zn ∧ 0 ≤ zl ∧ 0 ≤ zn ∧ zl + zn ≤ xs.length ∧ c.den env = .l ((xs.drop zl.toNat).take zn.toNat)
theorem cutN_ok : ∀ {L : List (Nat × At × At)} {m : Nat}, Facts Φ env m (cutN σ m L).1 → CutOk σ env (cutN σ m L).2
  | [], m, _ => fun i lo n c h => by cases h
  | (j, lo', n') :: r, m, hf => by
    simp only [cutN] at hf ⊢
    split at hf
    · rename_i w e a k hh
      obtain ⟨x, y, p1, p2, p3, p4, p5⟩ := fact_plus hf.1
      obtain ⟨xs, za, zb, c1, c2, c3, c4, c5, c6, c7⟩ := fact_cut hf.2.1
      rw [p1] at c2
      cases c2
      rw [p5] at c3
      cases c3
      intro i lo n c h
      simp only [cutFind] at h
      split at h
      · rename_i hb
        simp only [Bool.and_eq_true] at hb
        obtain rfl := Nat.eq_of_beq_eq_true hb.1.1
        obtain rfl := At.beq_eq hb.1.2
        obtain rfl := At.beq_eq hb.2
        cases h
        exact ⟨w, e, a, k, xs, x, y, hh, c1, p1, p2, p3, p4, c6, by rw [c7]; congr 2; omega⟩
      · exact cutN_ok hf.2.2 i lo n c h
    · exact cutN_ok hf
/-! ### is it handed over as the sign says? -/
def idIs (ids : List Nat) (n i : Nat) : Bool := match ids[n]? with
  | some j => Nat.beq j i
  | none => false
mutual
def lndB (σ : SS) (θ : List At) (ids : List Nat) (cs : List (Nat × At × At × At)) (b : Bool) : SV → SV → Bool
  | _, .any => true
  | .dat k a, .dat k' a' => CK.beq k k' && At.beq a (a'.sub θ)
  | .nilS, .dat (.sl e) a' => At.beq (.k (.l [])) (a'.sub θ)
  | .e0, .dat (.sl e) a' => At.beq (.k (.l [])) (a'.sub θ)
  | .dat (.sl e) a, .lz _ e' a' => b && CK.beqs e e' && At.beq a (a'.sub θ)
  | .lz q e a, .lz q' e' a' => b && (!q || q') && CK.beqs e e' && At.beq a (a'.sub θ)
  | .nilS, .lz _ e a' => At.beq (.k (.l [])) (a'.sub θ)
  | .e0, .lz _ e a' => At.beq (.k (.l [])) (a'.sub θ)
  | .sl i lo n s, .lz q' e' a' => b && !memN i ids && (match hgetS σ.H i with
    | some (.arr .pl e a _) => CK.beqs e e' && Nat.beq s e.length && ((isZ lo && whole σ i n && At.beq a (a'.sub θ)) || (match cutFind i lo n cs with
      | some c => At.beq c (a'.sub θ)
      | none => false))
    | some (.arr (.ow none) e a _) => q' && CK.beqs e e' && Nat.beq s e.length && ((isZ lo && whole σ i n && At.beq a (a'.sub θ)) || (match cutFind i lo n cs with
      | some c => At.beq c (a'.sub θ)
      | none => false))
    | _ => false)
  | .e0, .e0 => true
  | .nilS, .nilS => true
  | .ptr i o, .ptr n o' => Nat.beq o o' && idIs ids n i
  | .sl i lo n s, .sl j lo' n' s' => idIs ids j i && At.beq lo (lo'.sub θ) && At.beq n (n'.sub θ) && Nat.beq s s'
  | .agg xs, .agg ys => lndBs σ θ ids cs b xs ys
  | .fn f xs, .fn g ys => Nat.beq f g && lndBs σ θ ids cs b xs ys
  | _, _ => false
def lndBs (σ : SS) (θ : List At) (ids : List Nat) (cs : List (Nat × At × At × At)) (b : Bool) : List SV → List SV → Bool
  | [], [] => true
  | x :: xs, y :: ys => lndB σ θ ids cs b x y && lndBs σ θ ids cs b xs ys
  | _, _ => false
end
def okI (ids : List Nat) (i : Nm) : Bool := !memN i.1 ids
/-- The callee's names for blocks that are handed over, with all that they own. -/
def idsA (H : Hp) (l : List Nat) (n : Nm) : Option Nm := match l[n.1]? with
  | some i => if (hget H (i, n.2)).isSome = true then some (i, n.2) else none
  | none => none
mutual
theorem encC_lnd {H : Hp} {ids : Nm → Option Nm} {ok : Nm → Bool} {b : Bool} : ∀ (k : CK) (d : D), Lnd H ids ok b (encC k d) (encC k d)
  | .int k, .i n => by rw [encC]; exact .v _
  | .bool, .b x => by rw [encC]; exact .v _
  | .str, .s x => by rw [encC]; exact .v _
  | .sl e, .l xs => by
    rw [encC]
    exact .fz (.inl rfl) (encL_lnd e xs)
  | .int _, .b _ => by simp [encC]; exact .any _
  | .int _, .s _ => by simp [encC]; exact .any _
  | .int _, .l _ => by simp [encC]; exact .any _
  | .bool, .i _ => by simp [encC]; exact .any _
  | .bool, .s _ => by simp [encC]; exact .any _
  | .bool, .l _ => by simp [encC]; exact .any _
  | .str, .i _ => by simp [encC]; exact .any _
  | .str, .b _ => by simp [encC]; exact .any _
  | .str, .l _ => by simp [encC]; exact .any _
  | .sl _, .i _ => by simp [encC]; exact .any _
  | .sl _, .b _ => by simp [encC]; exact .any _
  | .sl _, .s _ => by simp [encC]; exact .any _
theorem encZ_lnd {H : Hp} {ids : Nm → Option Nm} {ok : Nm → Bool} {b : Bool} : ∀ (e : List CK) (ds : List D), Lnds H ids ok b (encZ e ds) (encZ e ds)
  | [], ds => by rw [encZ]; exact .nil
  | k :: ks, [] => by rw [encZ]; exact .cons (.any _) (encZ_lnd ks [])
  | k :: ks, d :: ds => by rw [encZ]; exact .cons (encC_lnd k d) (encZ_lnd ks ds)
theorem encL_lnd {H : Hp} {ids : Nm → Option Nm} {ok : Nm → Bool} {b : Bool} (e : List CK) : ∀ (xs : List D), Lnds H ids ok b (xs.flatMap fun d => encZ e (row e d)) (xs.flatMap fun d => encZ e (row e d))
  | [] => .nil
  | x :: xs => by
    simp only [List.flatMap_cons]
    have happ : ∀ {a c : List AV}, Lnds H ids ok b a a → Lnds H ids ok b c c → Lnds H ids ok b (a ++ c) (a ++ c) := by
      intro a c h k
      induction a with
      | nil => exact k
      | cons y ys ih =>
        cases h with
        | cons h1 h2 => exact .cons h1 (ih h2)
    exact happ (encZ_lnd e _) (encL_lnd e xs)
end
theorem encR_lnd {H : Hp} {ids : Nm → Option Nm} {ok : Nm → Bool} {b : Bool} (e : List CK) (xs : List D) : Lnds H ids ok b (encR e xs) (encR e xs) := encL_lnd e xs
theorem lnds_app {H : Hp} {ids : Nm → Option Nm} {ok : Nm → Bool} {b : Bool} : ∀ {a a' c c' : List AV}, Lnds H ids ok b a a' → Lnds H ids ok b c c' → Lnds H ids ok b (a ++ c) (a' ++ c')
  | _, _, _, _, .nil, k => k
  | _, _, _, _, .cons h1 h2, k => .cons h1 (lnds_app h2 k)
theorem lnts_app (a b : List AV) : AV.lnts (a ++ b) = AV.lnts a ++ AV.lnts b := by simp [lnts_map]
mutual
theorem encC_lndT {H : Hp} {ids : Nm → Option Nm} {ok : Nm → Bool} {b : Bool} : ∀ (k : CK) (d : D), Lnd H ids ok b (encC k d).lnt (encC k d).lnt
  | .int k, .i n => by rw [encC]; exact .v _
  | .bool, .b x => by rw [encC]; exact .v _
  | .str, .s x => by rw [encC]; exact .v _
  | .sl e, .l xs => by
    rw [encC]
    exact .fz (.inl rfl) (encL_lndT e xs)
  | .int _, .b _ => by simp [encC, AV.lnt]; exact .any _
  | .int _, .s _ => by simp [encC, AV.lnt]; exact .any _
  | .int _, .l _ => by simp [encC, AV.lnt]; exact .any _
  | .bool, .i _ => by simp [encC, AV.lnt]; exact .any _
  | .bool, .s _ => by simp [encC, AV.lnt]; exact .any _
  | .bool, .l _ => by simp [encC, AV.lnt]; exact .any _
  | .str, .i _ => by simp [encC, AV.lnt]; exact .any _
  | .str, .b _ => by simp [encC, AV.lnt]; exact .any _
  | .str, .l _ => by simp [encC, AV.lnt]; exact .any _
  | .sl _, .i _ => by simp [encC, AV.lnt]; exact .any _
  | .sl _, .b _ => by simp [encC, AV.lnt]; exact .any _
  | .sl _, .s _ => by simp [encC, AV.lnt]; exact .any _
theorem encZ_lndT {H : Hp} {ids : Nm → Option Nm} {ok : Nm → Bool} {b : Bool} : ∀ (e : List CK) (ds : List D), Lnds H ids ok b (AV.lnts (encZ e ds)) (AV.lnts (encZ e ds))
  | [], ds => by rw [encZ]; exact .nil
  | k :: ks, [] => by rw [encZ]; exact .cons (.any _) (encZ_lndT ks [])
  | k :: ks, d :: ds => by rw [encZ]; exact .cons (encC_lndT k d) (encZ_lndT ks ds)
theorem encL_lndT {H : Hp} {ids : Nm → Option Nm} {ok : Nm → Bool} {b : Bool} (e : List CK) : ∀ (xs : List D), Lnds H ids ok b (AV.lnts (xs.flatMap fun d => encZ e (row e d))) (AV.lnts (xs.flatMap fun d => encZ e (row e d)))
  | [] => .nil
  | x :: xs => by
    simp only [List.flatMap_cons, lnts_app]
    exact lnds_app (encZ_lndT e _) (encL_lndT e xs)
end
mutual
theorem encC_lndU {H : Hp} {ids : Nm → Option Nm} {ok : Nm → Bool} : ∀ (k : CK) (d : D), Lnd H ids ok true (encC k d) (encC k d).lnt
  | .int k, .i n => by rw [encC]; exact .v _
  | .bool, .b x => by rw [encC]; exact .v _
  | .str, .s x => by rw [encC]; exact .v _
  | .sl e, .l xs => by
    rw [encC]
    exact .fz (.inr ⟨rfl, rfl⟩) (encL_lndU e xs)
  | .int _, .b _ => by simp [encC, AV.lnt]; exact .any _
  | .int _, .s _ => by simp [encC, AV.lnt]; exact .any _
  | .int _, .l _ => by simp [encC, AV.lnt]; exact .any _
  | .bool, .i _ => by simp [encC, AV.lnt]; exact .any _
  | .bool, .s _ => by simp [encC, AV.lnt]; exact .any _
  | .bool, .l _ => by simp [encC, AV.lnt]; exact .any _
  | .str, .i _ => by simp [encC, AV.lnt]; exact .any _
  | .str, .b _ => by simp [encC, AV.lnt]; exact .any _
  | .str, .l _ => by simp [encC, AV.lnt]; exact .any _
  | .sl _, .i _ => by simp [encC, AV.lnt]; exact .any _
  | .sl _, .b _ => by simp [encC, AV.lnt]; exact .any _
  | .sl _, .s _ => by simp [encC, AV.lnt]; exact .any _
theorem encZ_lndU {H : Hp} {ids : Nm → Option Nm} {ok : Nm → Bool} : ∀ (e : List CK) (ds : List D), Lnds H ids ok true (encZ e ds) (AV.lnts (encZ e ds))
  | [], ds => by rw [encZ]; exact .nil
  | k :: ks, [] => by rw [encZ]; exact .cons (.any _) (encZ_lndU ks [])
  | k :: ks, d :: ds => by rw [encZ]; exact .cons (encC_lndU k d) (encZ_lndU ks ds)
theorem encL_lndU {H : Hp} {ids : Nm → Option Nm} {ok : Nm → Bool} (e : List CK) : ∀ (xs : List D), Lnds H ids ok true (xs.flatMap fun d => encZ e (row e d)) (AV.lnts (xs.flatMap fun d => encZ e (row e d)))
  | [] => .nil
  | x :: xs => by
    simp only [List.flatMap_cons, lnts_app]
    exact lnds_app (encZ_lndU e _) (encL_lndU e xs)
end
theorem encR_lq {H : Hp} {ids : Nm → Option Nm} {ok : Nm → Bool} {q q' : Bool} (h : (!q || q') = true) (e : List CK) (xs : List D) : Lnds H ids ok true (lq q (encR e xs)) (lq q' (encR e xs)) := by
  cases q <;> cases q'
  · exact encR_lnd e xs
  · exact encL_lndU e xs
  · cases h
  · exact encL_lndT e xs
theorem famR_take (i : Nat) (e : List CK) : ∀ (n : Nat) (xs : List D) (p : Nat), (famR i e p xs).take (n * e.length) = famR i e p (xs.take n)
  | 0, xs, p => by simp [famR]
  | n + 1, [], p => by simp [famR]
  | n + 1, d :: ds, p => by
    simp only [famR, List.take_succ_cons]
    rw [List.take_append, famZ_length, Nat.add_mul, Nat.one_mul, List.take_of_length_le (by rw [famZ_length]; omega), Nat.add_sub_cancel, famR_take i e n ds]
theorem idIs_spec {ids : List Nat} {n i : Nat} (h : idIs ids n i = true) : ids[n]? = some i := by
  unfold idIs at h
  split at h
  · rename_i j e
    rw [e, Nat.eq_of_beq_eq_true h]
  · cases h
theorem idsA_of {ids : List Nat} {n i : Nat} (hal : aliveS σ ids = true) (h : ids[n]? = some i) : idsA (denH env σ.H) ids (n, 0) = some (i, 0) := by
  have := alive_ok (env := env) (σ := σ) (ks := ids) hal i (memN_iff.2 (List.mem_of_getElem? h))
  simp only [idsA, h]
  exact if_pos this
theorem famZ_lnd {H : Hp} {ids : Nm → Option Nm} {ok : Nm → Bool} {i : Nat} (hok : ∀ p, ok (i, p) = true) : ∀ {e : List CK} {ds : List D} {p : Nat}, okZ e ds = true → (∀ j cs, hget (blkZ i (fun _ => false) p e ds) j = some cs → hget H j = some cs) → Lnds H ids ok true (famZ i p e ds) (AV.lnts (encZ e ds))
  | [], ds, p, _, _ => by simp only [famZ, encZ]; exact .nil
  | _ :: _, [], p, h, _ => by simp [okZ] at h
  | k :: ks, d :: ds, p, h, hH => by
    simp only [okZ, Bool.and_eq_true] at h
    simp only [famZ, encZ, AV.lnts]
    refine .cons ?_ (famZ_lnd hok h.2 (fun j cs hj => hH j cs ?_))
    · cases k with
      | sl e' =>
        obtain ⟨xs, rfl, _⟩ := okC_sl h.1
        simp only [encF]
        rw [encC_sl, AV.lnt]
        refine Lnd.sl (o := 0) (n := xs.length) (s := e'.length) (cs := encR e' xs) rfl (hok (p + 1)) (hH (i, p + 1) (encR e' xs) ?_) (by rw [encR_length]; omega) ?_
        · simp [blkZ, hget]
        · rw [List.drop_zero, ← encR_length, List.take_length]
          exact encL_lndU e' xs
      | int k => exact encC_lndU _ _
      | bool => exact encC_lndU _ _
      | str => exact encC_lndU _ _
    · simp only [blkZ, hget_app]
      split
      · rename_i cs' g1
        exfalso
        have h1 : j = (i, p + 1) := by
          split at g1
          · simp only [Bool.false_eq_true, if_false, hget] at g1
            split at g1
            · rename_i e'; exact (nbeq_eq e').symm
            · cases g1
          · cases g1
        have h2 := blkZ_name hj
        rw [h1] at h2
        simp only at h2
        omega
      · exact hj
theorem famR_lnd {H : Hp} {ids : Nm → Option Nm} {ok : Nm → Bool} {i : Nat} {e : List CK} (hok : ∀ p, ok (i, p) = true) : ∀ {xs : List D} {p : Nat}, (∀ x ∈ xs, okE e x = true) → (∀ j cs, hget (blkR i (fun _ => false) e p xs) j = some cs → hget H j = some cs) → Lnds H ids ok true (famR i e p xs) (AV.lnts (encR e xs))
  | [], p, _, _ => by simp only [famR, encR, List.flatMap_nil]; exact .nil
  | d :: ds, p, h, hH => by
    simp only [famR, encR, List.flatMap_cons, lnts_app]
    refine lnds_app (famZ_lnd hok (h d List.mem_cons_self) (fun j cs hj => hH j cs ?_)) (famR_lnd hok (fun x hx => h x (List.mem_cons_of_mem _ hx)) (fun j cs hj => hH j cs ?_))
    · simp only [blkR, hget_app]
      rw [hj]
    · simp only [blkR, hget_app]
      split
      · rename_i g1
        exfalso
        have h1 := blkZ_name g1
        have h2 := blkR_name hj
        omega
      · exact hj
mutual
theorem lndB_ok {θ : List At} {ids : List Nat} {cs : List (Nat × At × At × At)} {b : Bool} (hg : σ.Good env) (hc : CutOk σ env cs) (hal : aliveS σ ids = true) : ∀ {x p : SV}, x.good env = true → lndB σ θ ids cs b x p = true → Lnd (denH env σ.H) (idsA (denH env σ.H) ids) (okI ids) b (x.den env) (p.den (θ.map (At.den env)))
  | .any, p, _, h => by
    cases p with
    | any => exact .any _
    | _ => simp [lndB] at h
  | .K v, p, _, h => by
    cases p with
    | any => exact .any _
    | _ => simp [lndB] at h
  | .ptrE i ix s o, p, _, h => by
    cases p with
    | any => exact .any _
    | _ => simp [lndB] at h
  | .pfz l e a ix o, p, _, h => by
    cases p with
    | any => exact .any _
    | _ => simp [lndB] at h
  | .slD i e a ix c, p, _, h => by
    cases p with
    | any => exact .any _
    | _ => simp [lndB] at h
  | .tup xs, p, _, h => by
    cases p with
    | any => exact .any _
    | _ => simp [lndB] at h
  | .dat k a, p, hx, h => by
    cases p with
    | any => exact .any _
    | dat k' a' =>
      simp only [lndB, Bool.and_eq_true] at h
      obtain rfl := CK.beq_eq h.1
      rw [SV.den, SV.den, At.beq_eq h.2, At.sub_den]
      exact encC_lnd _ _
    | lz q' e' a' =>
      cases k with
      | sl e =>
        simp only [lndB, Bool.and_eq_true] at h
        obtain ⟨⟨h1, h2⟩, h3⟩ := h
        subst h1
        obtain rfl := CK.beqs_eq h2
        obtain ⟨xs, e1, e2⟩ := okC_sl (show okC (.sl e) (a.den env) = true from hx)
        have : a'.den (θ.map (At.den env)) = .l xs := by rw [← At.sub_den, ← At.beq_eq h3]; exact e1
        rw [SV.den, SV.den, e1, encC_sl, this]
        exact .fz (.inr ⟨rfl, rfl⟩) (encR_lq (q := false) (by simp) e xs)
      | _ => simp [lndB] at h
    | _ => simp [lndB] at h
  | .nilS, p, hx, h => by
    cases p with
    | any => exact .any _
    | nilS => exact .v _
    | dat k' a' =>
      cases k' with
      | sl e =>
        simp only [lndB] at h
        rw [SV.den, SV.den, ← At.sub_den, ← At.beq_eq h]
        show Lnd _ _ _ _ _ (encC (.sl e) (.l []))
        rw [encC_sl]
        exact .nilF
      | _ => simp [lndB] at h
    | lz q' e a' =>
      simp only [lndB] at h
      rw [SV.den, SV.den, ← At.sub_den, ← At.beq_eq h]
      show Lnd _ _ _ _ _ (.fz true e.length 0 (lq q' []))
      rw [lq_nil]
      exact .nilF
    | _ => simp [lndB] at h
  | .ifc a, p, hx, h => by
    cases p with
    | any => exact .any _
    | _ => simp [lndB] at h
  | .e0, p, hx, h => by
    cases p with
    | any => exact .any _
    | e0 => exact .e0
    | dat k' a' =>
      cases k' with
      | sl e =>
        simp only [lndB] at h
        rw [SV.den, SV.den, ← At.sub_den, ← At.beq_eq h]
        show Lnd _ _ _ _ _ (encC (.sl e) (.l []))
        rw [encC_sl]
        exact .e0F
      | _ => simp [lndB] at h
    | lz q' e a' =>
      simp only [lndB] at h
      rw [SV.den, SV.den, ← At.sub_den, ← At.beq_eq h]
      show Lnd _ _ _ _ _ (.fz true e.length 0 (lq q' []))
      rw [lq_nil]
      exact .e0F
    | _ => simp [lndB] at h
  | .lz q e a, p, hx, h => by
    cases p with
    | any => exact .any _
    | lz q' e' a' =>
      simp only [lndB, Bool.and_eq_true] at h
      obtain ⟨⟨⟨h1, h0⟩, h2⟩, h3⟩ := h
      subst h1
      obtain rfl := CK.beqs_eq h2
      rw [SV.den, SV.den, ← At.sub_den, ← At.beq_eq h3]
      exact .fz (.inl rfl) (encR_lq h0 e _)
    | _ => simp [lndB] at h
  | .ptr i o, p, hx, h => by
    cases p with
    | any => exact .any _
    | ptr n o' =>
      simp only [lndB, Bool.and_eq_true] at h
      obtain rfl := Nat.eq_of_beq_eq_true h.1
      exact .ptr (idsA_of hal (idIs_spec h.2))
    | _ => simp [lndB] at h
  | .agg xs, p, hx, h => by
    cases p with
    | any => exact .any _
    | agg ys => exact .agg (lndBs_ok hg hc hal hx (by simpa only [lndB] using h))
    | _ => simp [lndB] at h
  | .fn f xs, p, hx, h => by
    cases p with
    | any => exact .any _
    | fn g ys =>
      simp only [lndB, Bool.and_eq_true] at h
      obtain rfl := Nat.eq_of_beq_eq_true h.1
      exact .fn (lndBs_ok hg hc hal hx h.2)
    | _ => simp [lndB] at h
  | .sl i lo n s, p, hx, h => by
    cases p with
    | any => exact .any _
    | sl j lo' n' s' =>
      simp only [lndB, Bool.and_eq_true] at h
      obtain ⟨⟨⟨h1, h2⟩, h3⟩, h4⟩ := h
      obtain rfl := Nat.eq_of_beq_eq_true h4
      rw [SV.den, SV.den, At.beq_eq h2, At.beq_eq h3, At.sub_den, At.sub_den]
      exact .slN (idsA_of hal (idIs_spec h1))
    | lz q' e' a' =>
      simp only [lndB, Bool.and_eq_true] at h
      obtain ⟨⟨h1, h2⟩, h3⟩ := h
      subst h1
      split at h3
      · rename_i e a k hh
        simp only [Bool.and_eq_true, Bool.or_eq_true] at h3
        obtain ⟨⟨h4, h5⟩, h6⟩ := h3
        obtain rfl := CK.beqs_eq h4
        obtain rfl := Nat.eq_of_beq_eq_true h5
        obtain ⟨xs, e1, e2⟩ := okC_sl (hg.A i _ e a k hh).1
        have hgt : hget (denH env σ.H) i = some (encR e xs) := by
          rw [hget_denH, hh]
          simp [SB.den, e1, D.items]
        rcases h6 with h6 | h6
        · obtain ⟨⟨w1, w2⟩, w3⟩ := h6
          obtain ⟨ow1, e', a1, n1, q1, q2⟩ := whole_inv hg w2
          rw [hh] at q1
          cases q1
          have : a'.den (θ.map (At.den env)) = .l xs := by rw [← At.sub_den, ← At.beq_eq w3]; exact e1
          rw [SV.den, SV.den, isZ_den w1, q2, e1, this]
          simp only [D.nat, D.int, D.items, Int.toNat_zero, Nat.zero_mul, Int.toNat_natCast]
          refine .sl rfl h2 hgt (by rw [encR_length]; omega) ?_
          rw [List.drop_zero, ← encR_length, List.take_length]
          exact encR_lq (q := false) (by simp) e xs
        · split at h6
          · rename_i c hc'
            obtain ⟨w', e', a1, k1, xs', zl, zn, q1, q2, q3, q4, q5, q6, q7, q8⟩ := hc i lo n c hc'
            rw [hh] at q1
            cases q1
            rw [e1] at q2
            cases q2
            have : a'.den (θ.map (At.den env)) = .l ((xs.drop zl.toNat).take zn.toNat) := by rw [← At.sub_den, ← At.beq_eq h6]; exact q8
            rw [SV.den, SV.den, q3, q4, this]
            simp only [D.nat, D.int, D.items]
            have hlen : ((xs.drop zl.toNat).take zn.toNat).length = zn.toNat := by simp; omega
            rw [hlen]
            refine .sl rfl h2 hgt ?_ ?_
            · rw [encR_length, ← Nat.add_mul]
              exact Nat.mul_le_mul_right _ (by omega)
            · rw [encR_drop, encR_take]
              exact encR_lq (q := false) (by simp) e _
          · cases h6
      · rename_i e a k hh
        simp only [Bool.and_eq_true, Bool.or_eq_true] at h3
        obtain ⟨⟨⟨hq, h4⟩, h5⟩, h6⟩ := h3
        subst hq
        obtain rfl := CK.beqs_eq h4
        obtain rfl := Nat.eq_of_beq_eq_true h5
        obtain ⟨xs, e1, e2⟩ := okC_sl (hg.A i _ e a k hh).1
        have hgt : hget (denH env σ.H) i = some (famR i e 0 xs) := by
          rw [hget_denH, hh]
          simp [SB.den, e1, D.items]
        rcases h6 with ⟨⟨w1, w2⟩, w3⟩ | h6
        · obtain ⟨ow1, e', a1, n1, q1, q2⟩ := whole_inv hg w2
          rw [hh] at q1
          cases q1
          have : a'.den (θ.map (At.den env)) = .l xs := by rw [← At.sub_den, ← At.beq_eq w3]; exact e1
          rw [SV.den, SV.den, isZ_den w1, q2, e1, this]
          simp only [D.nat, D.int, D.items, Int.toNat_zero, Nat.zero_mul, Int.toNat_natCast]
          refine .sl rfl (by simpa [okI] using h2) hgt (by rw [famR_length]; omega) ?_
          rw [List.drop_zero, show xs.length * e.length = (famR i e 0 xs).length from (famR_length i e xs 0).symm, List.take_length]
          refine famR_lnd (ok := okI ids) (i := i) (fun p => by simpa [okI] using h2) e2 (fun j cs hj => ?_)
          have hn := blkR_name hj
          obtain ⟨jt, jp⟩ := j
          obtain rfl : jt = i := hn.1
          cases jp with
          | zero => simp at hn
          | succ p =>
            rw [hget_denH1, hh]
            simp only [Option.bind_some, SB.more, e1, D.items]
            exact hj
        · split at h6
          · rename_i c hc'
            obtain ⟨w', e', a1, k1, xs', zl, zn, q1, q2, q3, q4, q5, q6, q7, q8⟩ := hc i lo n c hc'
            rw [hh] at q1
            cases q1
            rw [e1] at q2
            cases q2
            have : a'.den (θ.map (At.den env)) = .l ((xs.drop zl.toNat).take zn.toNat) := by rw [← At.sub_den, ← At.beq_eq h6]; exact q8
            rw [SV.den, SV.den, q3, q4, this]
            simp only [D.nat, D.int, D.items]
            have hlen : ((xs.drop zl.toNat).take zn.toNat).length = zn.toNat := by simp; omega
            rw [hlen]
            refine .sl rfl (by simpa [okI] using h2) hgt ?_ ?_
            · rw [famR_length, ← Nat.add_mul]
              exact Nat.mul_le_mul_right _ (by omega)
            · rw [famR_drop, famR_take, Nat.zero_add]
              refine famR_lnd (ok := okI ids) (i := i) (fun p => by simpa [okI] using h2) (fun x hx => e2 x (List.mem_of_mem_drop (List.mem_of_mem_take hx))) (fun j cs hj => ?_)
              have hn := blkR_name hj
              obtain ⟨jt, jp⟩ := j
              obtain rfl : jt = i := hn.1
              cases jp with
              | zero => simp at hn
              | succ p =>
                obtain ⟨r, cc, d, e3, ls, o1, o2, o3, o4, _, rfl⟩ := blkR_inv hj
                rw [hget_denH1, hh]
                simp only [Option.bind_some, SB.more, e1, D.items]
                have hd : xs[zl.toNat + r]? = some d := by
                  obtain ⟨h8, _⟩ := take_get o2
                  exact h8
                have := blkR_put (i := jt) (h := holeB env e none) (p := 0) hd o3 o4 rfl
                rw [o1, show zl.toNat * e.length + r * e.length + cc = 0 + (zl.toNat + r) * e.length + cc by rw [Nat.add_mul]; omega]
                exact this
          · cases h6
      · cases h3
    | _ => simp [lndB] at h
theorem lndBs_ok {θ : List At} {ids : List Nat} {cs : List (Nat × At × At × At)} {b : Bool} (hg : σ.Good env) (hc : CutOk σ env cs) (hal : aliveS σ ids = true) : ∀ {xs ps : List SV}, SV.goods env xs = true → lndBs σ θ ids cs b xs ps = true → Lnds (denH env σ.H) (idsA (denH env σ.H) ids) (okI ids) b (SV.dens env xs) (SV.dens (θ.map (At.den env)) ps)
  | [], [], _, _ => .nil
  | [], _ :: _, _, h => by simp [lndBs] at h
  | _ :: _, [], _, h => by simp [lndBs] at h
  | x :: xs, p :: ps, hx, h => by
    simp only [lndBs, Bool.and_eq_true] at h
    simp only [SV.goods, Bool.and_eq_true] at hx
    exact .cons (lndB_ok hg hc hal hx.1 h.1) (lndBs_ok hg hc hal hx.2 h.2)
end
end
end Go.BH
