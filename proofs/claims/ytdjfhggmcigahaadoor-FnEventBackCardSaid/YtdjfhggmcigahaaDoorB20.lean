/- Operations in letters: writes, appends, make. -/
import Derived.Test.YtdjfhggmcigahaaDoorB19
set_option linter.unusedVariables false
set_option linter.unusedSimpArgs false
namespace Go.BH
open Go.RowKit
theorem encZ_set : ∀ {e : List CK} {ds : List D} {j : Nat} {k : CK} {x : D}, e[j]? = some k → ds.length = e.length → (encZ e ds).set j (encC k x) = encZ e (ds.set j x)
  | [], ds, j, k, x, h, _ => by simp at h
  | _ :: _, [], j, k, x, _, h => by simp at h
  | k :: ks, d :: ds, 0, k', x, h, _ => by simp at h; subst h; simp [encZ]
  | k :: ks, d :: ds, j + 1, k', x, h, hl => by
    simp only [encZ, List.set_cons_succ]
    rw [encZ_set (by simpa using h) (by simpa using hl)]
theorem encR_set {e : List CK} {j : Nat} {x : D} (hj : j < e.length) : ∀ {xs : List D} {i : Nat}, i < xs.length → (∀ y ∈ xs, okE e y = true) → (encR e xs).set (i * e.length + j) (encC (e.getD j .bool) x) = encR e (xs.modify i (setRow e j x))
  | [], i, h, _ => by simp at h
  | d :: ds, 0, _, hok => by
    have hr : (row e d).length = e.length := okZ_length (hok d List.mem_cons_self)
    simp only [encR, List.flatMap_cons, Nat.zero_mul, Nat.zero_add, List.modify_zero_cons]
    rw [List.set_append_left _ _ (by rw [encZ_length]; exact hj)]
    congr 1
    rw [setRow, row_unrow (by simpa using hr)]
    exact encZ_set (by simp [List.getD, hj]) hr
  | d :: ds, i + 1, h, hok => by
    simp only [encR, List.flatMap_cons, List.modify_succ_cons]
    have hge : e.length ≤ (i + 1) * e.length + j := by rw [Nat.add_mul]; omega
    rw [List.set_append_right _ _ (by rw [encZ_length]; exact hge)]
    congr 1
    rw [encZ_length, show (i + 1) * e.length + j - e.length = i * e.length + j by rw [Nat.add_mul]; omega]
    exact encR_set hj (by simpa using h) (fun y hy => hok y (List.mem_cons_of_mem _ hy))
/-- The cells xs of element ix of the list a, from cell j on. -/
def setsN (e : List CK) (ix : At) : Nat → At → Nat → List At → List Nd × At
  | _, a, _, [] => ([], a)
  | m, a, j, x :: xs => match setsN e ix (m + 1) (.v m) (j + 1) xs with
    | (nds, r) => (.pr (.set e j) [a, ix, x] :: nds, r)
section
variable {P : Program} {E : En} {σ : SS} {o : Oper} {ks : List Nat} {tab : TyTab} {env : List D} {m : Nat} {nds : List Nd} {v : SV} {Φ : Fns}
theorem fact_set {e : List CK} {j : Nat} {a ix x : At} (hf : Fact env m (.set e j) [a, ix, x]) : ∃ xs i, a.den env = .l xs ∧ ix.den env = .i i ∧ 0 ≤ i ∧ i < xs.length ∧ (∀ y ∈ xs, okE e y = true) ∧ okC (e.getD j .bool) (x.den env) = true ∧ (At.v m).den env = .l (xs.modify i.toNat (setRow e j (x.den env))) := by
  obtain ⟨h1, h2⟩ := hf
  simp only [List.map_cons, List.map_nil, Pr.args, okZ, Bool.and_eq_true, Bool.and_true] at h1 h2
  obtain ⟨xs, hx, hok⟩ := okC_sl h2.1
  obtain ⟨i, hi⟩ := okC_int h2.2.1
  rw [hx, hi] at h1
  simp only [Pr.eval] at h1
  split at h1
  · rename_i hh
    exact ⟨xs, i, hx, hi, hh.1, hh.2, hok, h2.2.2, (Option.some.inj h1).symm⟩
  · cases h1
theorem sets_fact {e : List CK} {ix : At} : ∀ {as : List At} {m : Nat} {a : At} {j : Nat}, Facts Φ env m (setsN e ix m a j as).1 → j + as.length ≤ e.length → as ≠ [] → ∃ xs i ys, a.den env = .l xs ∧ ix.den env = .i i ∧ 0 ≤ i ∧ i < xs.length ∧ (setsN e ix m a j as).2.den env = .l ys ∧ ys.length = xs.length ∧ encR e ys = upd (encR e xs) (i.toNat * e.length + j) (encZ (e.drop j) (as.map (At.den env)) |>.take as.length)
  | [], _, _, _, _, _, h => absurd rfl h
  | x :: as, m, a, j, hf, hle, _ => by
    simp only [setsN] at hf ⊢
    simp only [List.length_cons] at hle
    obtain ⟨xs, i, h1, h2, h3, h4, h5, h6, h7⟩ := fact_set hf.1
    have hset := encR_set (x := x.den env) (j := j) (e := e) (by omega) (i := i.toNat) (by omega) h5
    have hdrop : e.drop j = e.getD j .bool :: e.drop (j + 1) := by
      rw [List.drop_eq_getElem_cons (by omega)]
      simp [List.getD, show j < e.length by omega]
    by_cases hne : as = []
    · subst hne
      refine ⟨xs, i, _, h1, h2, h3, h4, by simpa [setsN] using h7, by simp, ?_⟩
      rw [hdrop]
      simp only [List.map_cons, List.map_nil, encZ, List.length_cons, List.length_nil, List.take_succ_cons, List.take_zero, upd]
      exact hset.symm
    · obtain ⟨xs', i', ys, k1, k2, k3, k4, k5, k6, k7⟩ := sets_fact hf.2 (by omega) hne
      rw [h7] at k1
      cases k1
      rw [h2] at k2
      cases k2
      refine ⟨xs, i, ys, h1, h2, h3, h4, k5, by rw [k6]; simp, ?_⟩
      rw [hdrop, k7, ← hset]
      simp only [List.map_cons, encZ, List.length_cons, List.take_succ_cons, upd, Nat.add_assoc]
def sStore (tab : TyTab) (ks : List Nat) (σ : SS) (m : Nat) (t : TypeId) (p x : SV) : Option (List Nd × SS) :=
  match tyGet tab t with
  | some T => if (aliveS σ ks && !Nat.beq T.size 0 && Nat.beq x.cells.length T.size && SV.ones x.cells) = true then (match p with
    | .ptr i o => if memN i ks = true then none else (match hgetS σ.H i with
      | some (.cells xs) => if okSz o T.size xs.length = true then some ([], ⟨σ.T, hputS σ.H i (.cells (updS xs o x.cells)), σ.nx⟩) else none
      | _ => none)
    | .ptrE i ix s off => if memN i ks = true then none else (match hgetS σ.H i with
      | some (.arr e a n) => if (Nat.beq s e.length && okSz off T.size e.length) = true then (match atomsOf ((e.drop off).take T.size) x.cells with
          | some as => (match setsN e ix m a off as with
            | (nds, r) => some (nds, ⟨σ.T, hputS σ.H i (.arr e r n), σ.nx⟩))
          | none => none) else none
      | _ => none)
    | _ => none) else none
  | none => none
theorem sinv_put {b : SB} {i : Nat} {T : List (Nat × SV)} {n : Nat} (hg : σ.Good env) (hb : ∀ e a k, b = .arr e a k → k.den env = .i (a.den env).items.length) : SInv env ⟨T, hputS σ.H i b, n⟩ := fun j e a k h => by
  rcases hgetS_put h with ⟨_, h⟩ | ⟨_, h⟩
  · exact (hg.A j e a k h).2
  · exact hb e a k h.symm
theorem sStore_ok {t : TypeId} {p x : Operand} {σ' : SS} (htab : TabOk P tab) (hg : σ.Good env) (ho : o.op = .store t p x) (h : sStore tab ks σ m t (σ.ev p) (σ.ev x) = some (nds, σ')) (hf : Facts Φ env m nds) : EffR P E ks o σ env .any σ' := by
  have hp := SS.ev_den env σ p
  unfold sStore at h
  split at h
  · rename_i T hT
    obtain ⟨dt, it, zt, tu, ti, tz, t1, t2, t3, t4, t5, t6⟩ := tyGet_ok htab hT
    split at h
    · rename_i hb
      simp only [Bool.and_eq_true, Bool.not_eq_true'] at hb
      obtain ⟨⟨⟨b1, b2⟩, b3⟩, b4⟩ := hb
      have b2' : it.size ≠ 0 := fun e0 => by rw [t1, e0] at b2; simp at b2
      have b3 := Nat.eq_of_beq_eq_true b3
      have hone := SV.ones_den b4 (goods_cells (ev_good hg x))
      rw [← SV.cells_den, ← SS.ev_den] at hone
      have hlen : ((σ.den env).ev x).cells.length = it.size := by
        rw [SS.ev_den, SV.cells_den, dens_len, b3, t1]
      have hkp : ∀ i, memN i ks ≠ true → ∀ j, kpOf ks j = true → (hget (σ.den env).H j).isSome = true ∧ j ≠ i := fun i hi j hj => ⟨alive_ok b1 j hj, fun e => hi (by rw [← e]; exact hj)⟩
      split at h
      · rename_i i k ep
        rw [ep] at hp
        split at h
        · cases h
        · rename_i hmem
          split at h
          · rename_i xs hh
            split at h
            · rename_i hsz
              have hsz := Nat.le_of_ble_eq_true hsz
              cases h
              have hgt : hget (σ.den env).H i = some (SV.dens env xs) := by
                show hget (denH env σ.H) i = _
                rw [hget_denH, hh]; rfl
              refine ⟨(OS0.store (P := P) (E := E) (σ := σ.den env) (kp := kpOf ks) ho ti b2' hp hgt hlen (by rw [dens_len, ← t1]; exact hsz) (ones_iff.1 hone) (hkp i hmem)).ox ⟨rfl, ?_⟩, sinv_put hg (fun e a k h => by cases h)⟩
              simp only [SS.den, denH_put, SB.den, updS_den, ← SV.cells_den]
              rw [show (⟨denT env σ.T, denH env σ.H, σ.nx⟩ : St) = σ.den env from rfl, SS.ev_den]
            · cases h
          · cases h
      · rename_i i ix s off ep
        rw [ep] at hp
        split at h
        · cases h
        · rename_i hmem
          split at h
          · rename_i e a n hh
            split at h
            · rename_i hsz
              simp only [Bool.and_eq_true] at hsz
              obtain rfl := Nat.eq_of_beq_eq_true hsz.1
              have hsz := Nat.le_of_ble_eq_true hsz.2
              split at h
              · rename_i as has
                generalize hq : setsN e ix m a off as = q at h
                obtain ⟨ns, r⟩ := q
                cases h
                obtain ⟨a1, a2⟩ := atomsOf_den (env := env) has
                have a2' : as.length = T.size := by rw [a2]; simp; omega
                have hne : as ≠ [] := fun e0 => by
                  rw [e0] at a2'
                  rw [t1] at a2'
                  exact b2' a2'.symm
                have hf' : Facts Φ env m (setsN e ix m a off as).1 := by rw [hq]; exact hf
                obtain ⟨xs, z, ys, k1, k2, k3, k4, k5, k6, k7⟩ := sets_fact hf' (by omega) hne
                rw [hq] at k5
                simp only at k5
                have hgt : hget (σ.den env).H i = some (encR e xs) := by
                  show hget (denH env σ.H) i = _
                  rw [hget_denH, hh]
                  simp [SB.den, k1, D.items]
                simp only [SV.den, k2, D.nat, D.int] at hp
                have hcell : ((σ.den env).ev x).cells = (encZ (e.drop off) (as.map (At.den env))).take as.length := by
                  rw [SS.ev_den, SV.cells_den, a1, a2']
                  have : ∀ (n : Nat) (l : List CK) (ds : List D), encZ (l.take n) ds = (encZ l ds).take n := by
                    intro n
                    induction n with
                    | zero => intro l ds; simp [encZ]
                    | succ n ih =>
                      intro l ds
                      cases l with
                      | nil => simp [encZ]
                      | cons k l => cases ds <;> simp [encZ, ih]
                  exact this _ _ _
                have hle : z.toNat * e.length + off + it.size ≤ (encR e xs).length := by
                  rw [encR_length, ← t1]
                  have : (z.toNat + 1) * e.length ≤ xs.length * e.length := Nat.mul_le_mul_right _ (by omega)
                  rw [Nat.add_mul] at this
                  omega
                refine ⟨(OS0.store (P := P) (E := E) (σ := σ.den env) (kp := kpOf ks) ho ti b2' hp hgt hlen hle (ones_iff.1 hone) (hkp i hmem)).ox ⟨rfl, ?_⟩, sinv_put hg (fun e' a' k' h => ?_)⟩
                · simp only [SS.den, denH_put, SB.den, k5, D.items]
                  rw [k7, ← hcell]
                  rfl
                · cases h
                  have := (hg.A i e a n hh).2
                  rw [this, k1, k5]
                  simp [D.items, k6]
              · cases h
            · cases h
          · cases h
      · cases h
    · cases h
  · cases h
/-- What is appended, as a list; and what must be reckoned for it. -/
def sSrc (σ : SS) (m : Nat) (e : List CK) (y : SV) : Option At :=
  match y with
  | .nilS => some (.k (.l []))
  | .e0 => some (.k (.l []))
  | .sl i lo n s => if (isZ lo && whole σ i n && Nat.beq s e.length) = true then (match hgetS σ.H i with
    | some (.arr e' a _) => if CK.beqs e' e = true then some a else none
    | _ => none) else none
  | y => (match asSl y with
    | some (_, e', a) => if CK.beqs e' e = true then some a else none
    | none => none)
theorem sSrc_ok {e : List CK} {y : Operand} {a : At} {ys : List D} (hg : σ.Good env) (h : sSrc σ m e (σ.ev y) = some a) (ha : a.den env = .l ys) : Src (σ.den env) e.length ((σ.den env).ev y) ys.length (encR e ys) := by
  have hy := SS.ev_den env σ y
  have hgy := ev_good hg y
  unfold sSrc at h
  split at h
  · rename_i ey
    cases h
    cases ha
    rw [hy, ey]
    exact .nil
  · rename_i ey
    cases h
    cases ha
    rw [hy, ey]
    exact .e0
  · rename_i i lo n s ey
    split at h
    · rename_i hb
      simp only [Bool.and_eq_true] at hb
      obtain ⟨⟨b1, b2⟩, b3⟩ := hb
      obtain rfl := Nat.eq_of_beq_eq_true b3
      split at h
      · rename_i e' a' n' hh
        split at h
        · rename_i hk
          obtain rfl := CK.beqs_eq hk
          cases h
          obtain ⟨e1, a1, n1, w1, w2⟩ := whole_inv hg b2
          rw [hh] at w1
          cases w1
          rw [hy, ey, SV.den, isZ_den b1, w2, ha]
          have hgt : hget (σ.den env).H i = some (encR e' ys) := by
            show hget (denH env σ.H) i = _
            rw [hget_denH, hh]
            simp [SB.den, ha, D.items]
          have hs := Src.sl (σ := σ.den env) (s := e'.length) (i := i) (k := 0) (m := ys.length) hgt (by rw [encR_length]; omega)
          simp only [D.nat, D.int, D.items, Int.toNat_zero, Nat.zero_mul, Int.toNat_natCast]
          rw [List.drop_zero, ← encR_length, List.take_length] at hs
          exact hs
        · cases h
      · cases h
    · cases h
  · split at h
    · rename_i l e' a' ea
      split at h
      · rename_i hk
        obtain rfl := CK.beqs_eq hk
        cases h
        obtain ⟨xs, h0, h0', hden⟩ := asSl_den ea hgy
        rw [ha] at h0
        cases h0
        rw [hy, hden]
        exact .fz (by rw [encR_length])
      · cases h
    · cases h
def sApp (tab : TyTab) (ks : List Nat) (σ : SS) (m : Nat) (t : TypeId) (x y : SV) : Option (List Nd × SV × SS) :=
  match tyGet tab t with
  | some T => (match T.kind with
    | .slice e => (match tyGet tab e with
      | some F => if (aliveS σ ks && Nat.beq F.zero.length F.size && !Nat.beq F.size 0 && Nat.beq F.row.length F.size) = true then (match sSrc σ m F.row y with
        | some b => (match x with
          | .nilS => some ([.pr (.app F.row F.bytes) [.k (.l []), b], .pr (.len F.row) [.v m]], .sl σ.nx (.k (.i 0)) (.v (m + 1)) F.size, ⟨σ.T, σ.H ++ [(σ.nx, .arr F.row (.v m) (.v (m + 1)))], σ.nx + 1⟩)
          | .e0 => some ([.pr (.app F.row F.bytes) [.k (.l []), b], .pr (.len F.row) [.v m]], .sl σ.nx (.k (.i 0)) (.v (m + 1)) F.size, ⟨σ.T, σ.H ++ [(σ.nx, .arr F.row (.v m) (.v (m + 1)))], σ.nx + 1⟩)
          | .sl i lo n s => if (isZ lo && whole σ i n && Nat.beq s F.size && !memN i ks) = true then (match hgetS σ.H i with
            | some (.arr e' a _) => if CK.beqs e' F.row = true then some ([.pr (.app F.row F.bytes) [a, b], .pr (.len F.row) [.v m]], .sl σ.nx (.k (.i 0)) (.v (m + 1)) F.size, ⟨σ.T, hdelS σ.H i ++ [(σ.nx, .arr F.row (.v m) (.v (m + 1)))], σ.nx + 1⟩) else none
            | _ => none) else none
          | _ => none)
        | none => none) else none
      | none => none)
    | _ => none)
  | none => none
theorem fact_app {e : List CK} {bytes : Nat} {a b : At} (hf : Fact env m (.app e bytes) [a, b]) : ∃ xs ys, a.den env = .l xs ∧ b.den env = .l ys ∧ (∀ x ∈ xs, okE e x = true) ∧ (∀ x ∈ ys, okE e x = true) ∧ (xs.length + ys.length) * bytes ≤ 140737488355328 ∧ xs.length + ys.length < 9223372036854775808 ∧ (At.v m).den env = .l (xs ++ ys) := by
  obtain ⟨h1, h2⟩ := hf
  simp only [List.map_cons, List.map_nil, Pr.args, okZ, Bool.and_eq_true, Bool.and_true] at h1 h2
  obtain ⟨xs, hx, hok⟩ := okC_sl h2.1
  obtain ⟨ys, hy, hok'⟩ := okC_sl h2.2
  rw [hx, hy] at h1
  simp only [Pr.eval] at h1
  split at h1
  · rename_i hh
    exact ⟨xs, ys, hx, hy, hok, hok', hh.1, hh.2, (Option.some.inj h1).symm⟩
  · cases h1
theorem sApp_ok {t : TypeId} {x y : Operand} {σ' : SS} (htab : TabOk P tab) (hg : σ.Good env) (ho : o.op = .call ⟨.builtin .append, #[x, y], #[t, t]⟩) (h : sApp tab ks σ m t (σ.ev x) (σ.ev y) = some (nds, v, σ')) (hf : Facts Φ env m nds) : EffR P E ks o σ env v σ' := by
  have hx := SS.ev_den env σ x
  unfold sApp at h
  split at h
  · rename_i T hT
    obtain ⟨dt, it, zt, tu, ti, tz, t1, t2, t3, t4, t5, t6⟩ := tyGet_ok htab hT
    split at h
    · rename_i e hk
      rw [t4] at hk
      rw [kindD_slice hk] at tu
      split at h
      · rename_i F hF
        obtain ⟨df, jf, zf, fu, fi, fz', f1, f2, f3, f4, f5, f6⟩ := tyGet_ok htab hF
        split at h
        · rename_i hb
          simp only [Bool.and_eq_true, Bool.not_eq_true'] at hb
          obtain ⟨⟨⟨b1, b2⟩, b3⟩, b4⟩ := hb
          have b2 := Nat.eq_of_beq_eq_true b2
          have b4 := Nat.eq_of_beq_eq_true b4
          have hzl : zf.cells.size = jf.size := by
            have := congrArg List.length f5
            rw [b2, f1] at this
            simpa using this.symm
          have h0 : jf.size ≠ 0 := fun e0 => by rw [f1, e0] at b3; simp at b3
          split at h
          · rename_i b hb'
            have new : ∀ (hx0 : (σ.den env).ev x = .v (.slice none 0 0) ∨ (σ.den env).ev x = .e0), some ([Nd.pr (.app F.row F.bytes) [.k (.l []), b], .pr (.len F.row) [.v m]], SV.sl σ.nx (.k (.i 0)) (.v (m + 1)) F.size, (⟨σ.T, σ.H ++ [(σ.nx, .arr F.row (.v m) (.v (m + 1)))], σ.nx + 1⟩ : SS)) = some (nds, v, σ') → EffR P E ks o σ env v σ' := by
              intro hx0 h
              cases h
              obtain ⟨xs, ys, g1, g2, g3, g4, g5, g6, g7⟩ := fact_app hf.1
              cases g1
              obtain ⟨zs, l1, l2⟩ := fact_len hf.2.1
              rw [g7] at l1
              cases l1
              have hs := sSrc_ok hg hb' g2
              rw [b4, f1] at hs
              refine ⟨(OS.appendNew (P := P) (E := E) (σ := σ.den env) (kp := kpOf ks) ho tu fi fz' hzl h0 hx0 hs (encR_ones g4) (by simp only [List.length_nil] at g6; omega) (by rw [← f2]; simpa using g5) (alive_ok b1)).ox ⟨?_, ?_⟩, sinv_snoc hg (fun e a k h => ?_)⟩
              · simp only [SV.den, l2, isZ_den (show isZ (.k (.i 0)) = true from rfl), D.nat, D.int, Int.toNat_zero, Nat.zero_mul, Int.toNat_natCast, List.nil_append, f1]
                rfl
              · simp only [SS.den, denH_snoc, SB.den, g7, D.items, List.nil_append]
              · cases h
                rw [l2, g7]
                rfl
            split at h
            · rename_i ex
              rw [ex] at hx
              exact new (.inl hx) h
            · rename_i ex
              rw [ex] at hx
              exact new (.inr hx) h
            · rename_i i lo n s ex
              rw [ex] at hx
              split at h
              · rename_i hc
                simp only [Bool.and_eq_true, Bool.not_eq_true'] at hc
                obtain ⟨⟨⟨c1, c2⟩, c3⟩, c4⟩ := hc
                have c3 := Nat.eq_of_beq_eq_true c3
                split at h
                · rename_i e' a n' hh
                  split at h
                  · rename_i hk'
                    obtain rfl := CK.beqs_eq hk'
                    cases h
                    obtain ⟨xs, ys, g1, g2, g3, g4, g5, g6, g7⟩ := fact_app hf.1
                    obtain ⟨zs, l1, l2⟩ := fact_len hf.2.1
                    rw [g7] at l1
                    cases l1
                    obtain ⟨e1, a1, n1, w1, w2⟩ := whole_inv hg c2
                    rw [hh] at w1
                    cases w1
                    have hs := sSrc_ok hg hb' g2
                    rw [b4, f1] at hs
                    simp only [SV.den, isZ_den c1, w2, g1, D.nat, D.int, D.items, Int.toNat_zero, Nat.zero_mul, Int.toNat_natCast, c3, f1] at hx
                    have hgt : hget (σ.den env).H i = some (encR F.row xs) := by
                      show hget (denH env σ.H) i = _
                      rw [hget_denH, hh]
                      simp [SB.den, g1, D.items]
                    refine ⟨(OS.appendTo (P := P) (E := E) (σ := σ.den env) (kp := kpOf ks) ho tu fi fz' hzl h0 hx hgt (by rw [encR_length, b4, f1]) hs (encR_ones g4) g6 (by rw [← f2]; exact g5) (fun j hj => ⟨alive_ok b1 j hj, fun e => ?_⟩)).ox ⟨?_, ?_⟩, fun j e a k h => ?_⟩
                    · subst e
                      rw [show memN j ks = true from hj] at c4
                      cases c4
                    · simp only [SV.den, l2, isZ_den (show isZ (.k (.i 0)) = true from rfl), D.nat, D.int, Int.toNat_zero, Nat.zero_mul, Int.toNat_natCast, f1, List.length_append]
                      rfl
                    · simp only [SS.den, denH_snoc, denH_del, SB.den, g7, D.items, encR_append]
                    · rcases hgetS_snoc h with h | ⟨_, h⟩
                      · exact (hg.A j e a k (hgetS_del h)).2
                      · cases h
                        rw [l2, g7]
                        rfl
                  · cases h
                · cases h
              · cases h
            · cases h
          · cases h
        · cases h
      · cases h
    · cases h
  · cases h
/-- A part of a block of the call's own, which takes its place. -/
def sWin (tab : TyTab) (ks : List Nat) (σ : SS) (m : Nat) (t : TypeId) (x : SV) (lo hi : Option Operand) : Option (List Nd × SV × SS) :=
  match tyGet tab t with
  | some T => (match T.kind with
    | .slice e => (match tyGet tab e with
      | some F => (match x with
        | .sl i l0 n s => (match sBd σ (.k (.i 0)) lo, sBd σ n hi with
          | some (kl, al), some (kh, ah) => if (aliveS σ ks && isZ l0 && Nat.beq s F.size && !memN i ks) = true then (match hgetS σ.H i with
            | some (.arr e' a _) => if (CK.beqs e' F.row && Nat.beq F.row.length F.size) = true then some ([.pr (.rng kl kh) [al, ah, n], .pr (.cut F.row kl kh) [a, al, ah]], .sl σ.nx (.k (.i 0)) (.v m) s, ⟨σ.T, hdelS σ.H i ++ [(σ.nx, .arr F.row (.v (m + 1)) (.v m))], σ.nx + 1⟩) else none
            | _ => none) else none
          | _, _ => none)
        | _ => none)
      | none => none)
    | _ => none)
  | none => none
theorem sWin_ok {t : TypeId} {x : Operand} {lo hi : Option Operand} {σ' : SS} (htab : TabOk P tab) (hg : σ.Good env) (ho : o.op = .slice t x lo hi none) (h : sWin tab ks σ m t (σ.ev x) lo hi = some (nds, v, σ')) (hf : Facts Φ env m nds) : EffR P E ks o σ env v σ' := by
  have hx := SS.ev_den env σ x
  unfold sWin at h
  split at h
  · rename_i T hT
    obtain ⟨dt, it, zt, tu, ti, tz, t1, t2, t3, t4, t5, t6⟩ := tyGet_ok htab hT
    split at h
    · rename_i e hk
      rw [t4] at hk
      rw [kindD_slice hk] at tu
      split at h
      · rename_i F hF
        obtain ⟨df, jf, zf, fu, fi, fz', f1, f2, f3, f4, f5, f6⟩ := tyGet_ok htab hF
        split at h
        · rename_i i l0 n s ex
          rw [ex] at hx
          split at h
          · rename_i kl al kh ah hl hh
            split at h
            · rename_i hc
              simp only [Bool.and_eq_true, Bool.not_eq_true'] at hc
              obtain ⟨⟨⟨c1, c2⟩, c3⟩, c4⟩ := hc
              have c3 := Nat.eq_of_beq_eq_true c3
              split at h
              · rename_i e' a n' hha
                split at h
                · rename_i hk'
                  simp only [Bool.and_eq_true] at hk'
                  have b4 := Nat.eq_of_beq_eq_true hk'.2
                  obtain rfl := CK.beqs_eq hk'.1
                  cases h
                  obtain ⟨za, zb, zc, g1, g2, g3, g4, g5, g6, g7⟩ := fact_rng hf.1
                  obtain ⟨xs, xa, xb, q1, q2, q3, q4, q5, q6, q7⟩ := fact_cut hf.2.1
                  rw [g1] at q2
                  cases q2
                  rw [g2] at q3
                  cases q3
                  simp only [SV.den, isZ_den c2, g3, D.nat, D.int, Int.toNat_zero, Nat.zero_mul, c3, f1] at hx
                  have b1 := sBd_ok (n := 0) hl g1 g4 rfl
                  have b2 := sBd_ok (n := zc.toNat) hh g2 (by omega) (by rw [Int.toNat_of_nonneg (by omega)]; exact g3)
                  have hgt : hget (σ.den env).H i = some (encR F.row xs) := by
                    show hget (denH env σ.H) i = _
                    rw [hget_denH, hha]
                    simp [SB.den, q1, D.items]
                  have hle : zb.toNat * jf.size ≤ (encR F.row xs).length := by
                    rw [encR_length, b4, f1]
                    exact Nat.mul_le_mul_right _ (by omega)
                  refine ⟨(OS.win (P := P) (E := E) (σ := σ.den env) (kp := kpOf ks) ho tu fi hx hgt hle b1 b2 (by omega) (by omega)).ox ⟨?_, ?_⟩, fun j e a k h => ?_⟩
                  · simp only [SV.den, g7, isZ_den (show isZ (.k (.i 0)) = true from rfl), D.nat, D.int, Int.toNat_zero, Nat.zero_mul, c3, f1]
                    rw [show (zb - za).toNat = zb.toNat - za.toNat by omega]
                    rfl
                  · simp only [SS.den, denH_snoc, denH_del, SB.den, q7, D.items, ← f1, ← b4, encR_drop, encR_take]
                  · rcases hgetS_snoc h with h | ⟨_, h⟩
                    · exact (hg.A j e a k (hgetS_del h)).2
                    · cases h
                      rw [g7, q7]
                      simp only [D.items, List.length_take, List.length_drop, D.i.injEq]
                      omega
                · cases h
              · cases h
            · cases h
          · cases h
        · cases h
      · cases h
    · cases h
  · cases h
def sMake (tab : TyTab) (ks : List Nat) (σ : SS) (m : Nat) (t : TypeId) (l c : SV) : Option (List Nd × SV × SS) :=
  match tyGet tab t with
  | some T => (match T.kind with
    | .slice e => (match tyGet tab e with
      | some F => (match l, c with
        | .dat (.int k) a, .dat (.int k') a' => if (aliveS σ ks && At.beq a a' && Nat.beq F.zero.length F.size && Nat.beq F.row.length F.size && !Nat.beq F.size 0) = true then (match atomsOf F.row (F.zero.map zSV) with
          | some as => (match constD as with
            | some z => some ([.pr (.mkz F.row k F.bytes z) [a], .pr (.len F.row) [.v m]], .sl σ.nx (.k (.i 0)) (.v (m + 1)) F.size, ⟨σ.T, σ.H ++ [(σ.nx, .arr F.row (.v m) (.v (m + 1)))], σ.nx + 1⟩)
            | none => none)
          | none => none) else none
        | _, _ => none)
      | none => none)
    | _ => none)
  | none => none
theorem encR_rep (e : List CK) (z : List D) (hz : z.length = e.length) : ∀ n, encR e (List.replicate n (unrow e z)) = (List.replicate n (encZ e z)).flatten
  | 0 => by simp [encR]
  | n + 1 => by
    have := encR_rep e z hz n
    simp only [encR, List.replicate_succ, List.flatMap_cons, List.flatten_cons] at this ⊢
    rw [this, row_unrow hz]
theorem sMake_ok {t : TypeId} {lx cx : Operand} {σ' : SS} (htab : TabOk P tab) (hg : σ.Good env) (ho : o.op = .makeSlice t lx cx) (h : sMake tab ks σ m t (σ.ev lx) (σ.ev cx) = some (nds, v, σ')) (hf : Facts Φ env m nds) : EffR P E ks o σ env v σ' := by
  have hl := SS.ev_den env σ lx
  have hc := SS.ev_den env σ cx
  unfold sMake at h
  split at h
  · rename_i T hT
    obtain ⟨dt, it, zt, tu, ti, tz, t1, t2, t3, t4, t5, t6⟩ := tyGet_ok htab hT
    split at h
    · rename_i e hk
      rw [t4] at hk
      rw [kindD_slice hk] at tu
      split at h
      · rename_i F hF
        obtain ⟨df, jf, zf, fu, fi, fz', f1, f2, f3, f4, f5, f6⟩ := tyGet_ok htab hF
        split at h
        · rename_i k a k' a' e1 e2
          rw [e1] at hl
          rw [e2] at hc
          split at h
          · rename_i hb
            simp only [Bool.and_eq_true, Bool.not_eq_true'] at hb
            obtain ⟨⟨⟨⟨b1, b2⟩, b3⟩, b4⟩, b5⟩ := hb
            obtain rfl := At.beq_eq b2
            have b3 := Nat.eq_of_beq_eq_true b3
            have b4 := Nat.eq_of_beq_eq_true b4
            split at h
            · rename_i as has
              split at h
              · rename_i z hz
                cases h
                obtain ⟨g1, g2⟩ := hf.1
                simp only [List.map_cons, List.map_nil, Pr.args, okZ, Bool.and_eq_true, Bool.and_true] at g1 g2
                obtain ⟨n, hn⟩ := okC_int g2
                rw [hn] at g1
                simp only [Pr.eval] at g1
                split at g1
                · rename_i hh
                  obtain ⟨c1, c2, c3⟩ := hh
                  obtain ⟨zs, l1, l2⟩ := fact_len hf.2.1
                  rw [← Option.some.inj g1] at l1
                  cases l1
                  obtain ⟨a1, a2⟩ := atomsOf_den (env := env) has
                  rw [zSVs_den, constD_den hz] at a1
                  have hzl : z.length = F.row.length := by
                    rw [← constD_den (env := env) hz, List.length_map, a2]
                  rw [SV.den, hn, encC_int] at hl hc
                  have hl' : (σ.den env).ev lx = .v (.int k n.toNat) := by rw [Int.toNat_of_nonneg c1]; exact hl
                  have hc' : (σ.den env).ev cx = .v (.int k' n.toNat) := by rw [Int.toNat_of_nonneg c1]; exact hc
                  refine ⟨(OS.makeSlice (P := P) (E := E) (σ := σ.den env) (kp := kpOf ks) ho tu fi fz' hl' hc' (by omega) (by rw [← f2]; exact c2) (alive_ok b1)).ox ⟨?_, ?_⟩, sinv_snoc hg (fun e a k h => ?_)⟩
                  · simp only [SV.den, l2, isZ_den (show isZ (.k (.i 0)) = true from rfl), D.nat, D.int, Int.toNat_zero, Nat.zero_mul, Int.toNat_natCast, f1, List.length_replicate]
                    rfl
                  · simp only [SS.den, denH_snoc, SB.den, ← Option.some.inj g1, D.items]
                    rw [encR_rep _ _ hzl, ← a1]
                    congr 4
                    unfold madeCells
                    rw [Array.toList_map, Array.toList_range, ← f1, ← b3]
                    have e2 : (fun j => zf.cells[j % zf.cells.size]!) = (fun j => zf.cells.toList[j % zf.cells.toList.length]!) := funext (fun j => by
                      rw [Array.length_toList, ← Array.getElem!_toList])
                    rw [e2, ← f5, zrep]
                    simp [vals]
                  · cases h
                    rw [l2, ← Option.some.inj g1]
                    rfl
                · cases g1
              · cases h
            · cases h
          · cases h
        · cases h
      · cases h
    · cases h
  · cases h
end
end Go.BH
