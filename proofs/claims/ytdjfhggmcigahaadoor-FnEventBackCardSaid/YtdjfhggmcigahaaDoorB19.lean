/- Operations in letters that make or write blocks. -/
import Derived.Test.YtdjfhggmcigahaaDoorB18
import Derived.Laws.OwnMore
set_option linter.unusedVariables false
set_option linter.unusedSimpArgs false
namespace Go.BH
open Go.RowKit
def memN (i : Nat) : List Nat → Bool
  | [] => false
  | j :: r => Nat.beq j i || memN i r
def kpOf (ks : List Nat) (i : Nat) : Bool := memN i ks
theorem memN_iff {i : Nat} {l : List Nat} : memN i l = true ↔ i ∈ l := by
  induction l with
  | nil => simp [memN]
  | cons j r ih =>
    simp only [memN, Bool.or_eq_true, ih, List.mem_cons]
    constructor
    · rintro (h | h)
      · exact .inl (Nat.eq_of_beq_eq_true h).symm
      · exact .inr h
    · rintro (h | h)
      · exact .inl (by rw [h]; simp)
      · exact .inr h
def aliveS (σ : SS) : List Nat → Bool
  | [] => true
  | j :: r => (match hgetS σ.H j with
    | some _ => true
    | none => false) && aliveS σ r
def u8sB : List UInt8 → List UInt8 → Bool
  | [], [] => true
  | x :: xs, y :: ys => Nat.beq x.toNat y.toNat && u8sB xs ys
  | _, _ => false
theorem u8sB_eq : ∀ {a b : List UInt8}, u8sB a b = true → a = b
  | [], [], _ => rfl
  | [], _ :: _, h => by simp [u8sB] at h
  | _ :: _, [], h => by simp [u8sB] at h
  | x :: xs, y :: ys, h => by
    simp only [u8sB, Bool.and_eq_true] at h
    rw [UInt8.toNat_inj.1 (Nat.eq_of_beq_eq_true h.1), u8sB_eq h.2]
def At.beq : At → At → Bool
  | .v a, .v b => Nat.beq a b
  | .k (.i a), .k (.i b) => decide (a = b)
  | .k (.b a), .k (.b b) => (match a, b with
    | true, true => true
    | false, false => true
    | _, _ => false)
  | .k (.l []), .k (.l []) => true
  | .k (.s a), .k (.s b) => u8sB a.data.toList b.data.toList
  | _, _ => false
theorem At.beq_eq {a b : At} (h : At.beq a b = true) : a = b := by
  unfold At.beq at h
  split at h
  · rw [Nat.eq_of_beq_eq_true h]
  · rw [of_decide_eq_true h]
  · split at h
    · rfl
    · rfl
    · cases h
  · rfl
  · rename_i a b
    have := Array.toList_inj.1 (u8sB_eq h)
    rw [show a = b from ByteArray.ext this]
  · cases h
/-- Cells that are data of the kinds said. -/
def atomsOf : List CK → List SV → Option (List At)
  | [], [] => some []
  | k :: ks, .dat k' a :: xs => if CK.beq k' k = true then (match atomsOf ks xs with
    | some r => some (a :: r)
    | none => none) else none
  | _, _ => none
def repCK (e : List CK) : Nat → List CK
  | 0 => []
  | n + 1 => e ++ repCK e n
def repSV (e : List SV) : Nat → List SV
  | 0 => []
  | n + 1 => e ++ repSV e n
def constD : List At → Option (List D)
  | [] => some []
  | .k d :: r => (match constD r with
    | some ds => some (d :: ds)
    | none => none)
  | .v _ :: _ => none
section
variable {P : Program} {E : En} {σ : SS} {o : Oper} {ks : List Nat} {tab : TyTab} {env : List D} {m : Nat} {nds : List Nd} {v : SV} {Φ : Fns}
theorem repCK_eq (e : List CK) : ∀ n, repCK e n = (List.replicate n e).flatten
  | 0 => rfl
  | n + 1 => by simp [repCK, repCK_eq e n, List.replicate_succ]
theorem atomsOf_den : ∀ {ks : List CK} {xs : List SV} {as : List At}, atomsOf ks xs = some as → SV.dens env xs = encZ ks (as.map (At.den env)) ∧ as.length = ks.length
  | [], [], as, h => by cases h; exact ⟨rfl, rfl⟩
  | k :: ks, .dat k' a :: xs, as, h => by
    simp only [atomsOf] at h
    split at h
    · rename_i hk
      obtain rfl := CK.beq_eq hk
      split at h
      · rename_i r hr
        cases h
        obtain ⟨h1, h2⟩ := atomsOf_den hr
        exact ⟨by simp only [SV.dens, SV.den, List.map_cons, encZ, h1], by simp [h2]⟩
      · cases h
    · cases h
  | [], _ :: _, as, h => by simp [atomsOf] at h
  | _ :: _, [], as, h => by simp [atomsOf] at h
  | _ :: _, .any :: _, as, h => by simp [atomsOf] at h
  | _ :: _, .lz _ _ :: _, as, h => by simp [atomsOf] at h
  | _ :: _, .K _ :: _, as, h => by simp [atomsOf] at h
  | _ :: _, .nilS :: _, as, h => by simp [atomsOf] at h
  | _ :: _, .e0 :: _, as, h => by simp [atomsOf] at h
  | _ :: _, .ptr _ _ :: _, as, h => by simp [atomsOf] at h
  | _ :: _, .ptrE _ _ _ _ :: _, as, h => by simp [atomsOf] at h
  | _ :: _, .sl _ _ _ _ :: _, as, h => by simp [atomsOf] at h
  | _ :: _, .pfz _ _ _ _ _ :: _, as, h => by simp [atomsOf] at h
  | _ :: _, .agg _ :: _, as, h => by simp [atomsOf] at h
  | _ :: _, .tup _ :: _, as, h => by simp [atomsOf] at h
  | _ :: _, .fn _ _ :: _, as, h => by simp [atomsOf] at h
theorem constD_den : ∀ {as : List At} {ds : List D}, constD as = some ds → as.map (At.den env) = ds
  | [], ds, h => by cases h; rfl
  | .k d :: r, ds, h => by
    simp only [constD] at h
    split at h
    · rename_i ds' hr
      cases h
      simp [constD_den hr, At.den]
    · cases h
  | .v _ :: _, ds, h => by simp [constD] at h
theorem encZ_append : ∀ {a b : List CK} {xs : List D}, a.length ≤ xs.length → encZ (a ++ b) xs = encZ a (xs.take a.length) ++ encZ b (xs.drop a.length)
  | [], b, xs, _ => by simp [encZ]
  | k :: ks, b, [], h => by simp at h
  | k :: ks, b, x :: xs, h => by
    simp only [List.cons_append, encZ, List.length_cons, List.take_succ_cons, List.drop_succ_cons, List.cons.injEq, true_and]
    exact encZ_append (by simpa using h)
theorem encR_rowsOf (e : List CK) : ∀ (n : Nat) (ds : List D), ds.length = n * e.length → encR e (rowsOf e n ds) = encZ (repCK e n) ds
  | 0, ds, h => by simp [rowsOf, encR, repCK, encZ]
  | n + 1, ds, h => by
    have hl : e.length ≤ ds.length := by rw [h, Nat.add_mul]; omega
    simp only [rowsOf, encR, List.flatMap_cons, repCK]
    rw [row_unrow (by simp; omega), encZ_append hl]
    congr 1
    have := encR_rowsOf e n (ds.drop e.length) (by simp [h, Nat.add_mul])
    exact this
theorem rowsOf_length (e : List CK) : ∀ (n : Nat) (ds : List D), (rowsOf e n ds).length = n
  | 0, _ => rfl
  | n + 1, ds => by simp [rowsOf, rowsOf_length e n]
/-- What is shown of an operation that makes or writes blocks. -/
def EffR (P : Program) (E : En) (ks : List Nat) (o : Oper) (σ : SS) (env : List D) (v : SV) (σ' : SS) : Prop :=
  OX P E (kpOf ks) o (σ.den env) (fun r τ => r = v.den env ∧ τ = σ'.den env) ∧ SInv env σ'
theorem alive_ok (h : aliveS σ ks = true) : ∀ j, kpOf ks j = true → (hget (σ.den env).H j).isSome = true := by
  intro j hj
  have key : ∀ ks, aliveS σ ks = true → j ∈ ks → ((hgetS σ.H j).map (SB.den env)).isSome = true := by
    intro ks
    induction ks with
    | nil => intro _ hj; cases hj
    | cons i r ih =>
      intro h hj
      simp only [aliveS, Bool.and_eq_true] at h
      rcases List.mem_cons.1 hj with rfl | hj
      · have h1 := h.1
        split at h1
        · rename_i b hb; rw [hb]; rfl
        · cases h1
      · exact ih h.2 hj
  show (hget (denH env σ.H) j).isSome = true
  rw [hget_denH]
  exact key ks h (memN_iff.1 hj)
theorem hgetS_snoc {i : Nat} {b : SB} : ∀ {H : List (Nat × SB)} {j : Nat} {c : SB}, hgetS (H ++ [(i, b)]) j = some c → hgetS H j = some c ∨ (j = i ∧ c = b)
  | [], j, c, h => by
    simp only [List.nil_append, hgetS] at h
    split at h
    · rename_i e
      exact .inr ⟨(Nat.eq_of_beq_eq_true e).symm, (Option.some.inj h).symm⟩
    · cases h
  | (k, x) :: r, j, c, h => by
    simp only [List.cons_append, hgetS] at h ⊢
    split at h
    · rename_i e; rw [if_pos e]; exact .inl h
    · rename_i e; rw [if_neg e]; exact hgetS_snoc h
theorem hgetS_put {i : Nat} {b : SB} : ∀ {H : List (Nat × SB)} {j : Nat} {c : SB}, hgetS (hputS H i b) j = some c → (j ≠ i ∧ hgetS H j = some c) ∨ (j = i ∧ c = b)
  | [], j, c, h => by cases h
  | (k, x) :: r, j, c, h => by
    simp only [hputS] at h
    split at h
    · rename_i e
      obtain rfl := Nat.eq_of_beq_eq_true e
      simp only [hgetS] at h ⊢
      split at h
      · rename_i e'
        exact .inr ⟨(Nat.eq_of_beq_eq_true e').symm, (Option.some.inj h).symm⟩
      · rename_i e'
        rw [if_neg e']
        exact .inl ⟨fun g => e' (by rw [g]; simp), h⟩
    · rename_i e
      simp only [hgetS] at h ⊢
      split at h
      · rename_i e'
        rw [if_pos e']
        obtain rfl := Nat.eq_of_beq_eq_true e'
        exact .inl ⟨fun g => e (by rw [g]; simp), h⟩
      · rename_i e'
        rw [if_neg e']
        exact hgetS_put h
theorem hgetS_del {i : Nat} : ∀ {H : List (Nat × SB)} {j : Nat} {c : SB}, hgetS (hdelS H i) j = some c → hgetS H j = some c
  | [], j, c, h => by cases h
  | (k, x) :: r, j, c, h => by
    simp only [hdelS] at h
    split at h
    · rename_i e
      have := hgetS_del h
      simp only [hgetS]
      split
      · rename_i e'
        have e1 := Nat.eq_of_beq_eq_true e
        have e2 := Nat.eq_of_beq_eq_true e'
        exfalso
        have : ∀ {H : List (Nat × SB)}, hgetS (hdelS H i) i = none := by
          intro H
          induction H with
          | nil => rfl
          | cons p r ih =>
            obtain ⟨k, x⟩ := p
            simp only [hdelS]
            split
            · exact ih
            · rename_i e3
              simp only [hgetS, if_neg e3]
              exact ih
        rw [show j = i by rw [← e2, e1], this] at h
        cases h
      · exact this
    · rename_i e
      simp only [hgetS] at h ⊢
      split at h
      · rename_i e'; rw [if_pos e']; exact h
      · rename_i e'; rw [if_neg e']; exact hgetS_del h
theorem sinv_snoc {b : SB} {T : List (Nat × SV)} {n : Nat} (hg : σ.Good env) (hb : ∀ e a k, b = .arr e a k → k.den env = .i (a.den env).items.length) : SInv env ⟨T, σ.H ++ [(σ.nx, b)], n⟩ := fun i e a k h => by
  rcases hgetS_snoc h with h | ⟨_, h⟩
  · exact (hg.A i e a k h).2
  · exact hb e a k h.symm
def sAlloc (tab : TyTab) (ks : List Nat) (σ : SS) (t : TypeId) : Option (SV × SS) :=
  match tyGet tab t with
  | some T => if aliveS σ ks = true then some (.ptr σ.nx 0, ⟨σ.T, σ.H ++ [(σ.nx, .cells (T.zero.map zSV))], σ.nx + 1⟩) else none
  | none => none
theorem sAlloc_ok {t : TypeId} {σ' : SS} (htab : TabOk P tab) (hg : σ.Good env) (ho : o.op = .alloc t) (h : sAlloc tab ks σ t = some (v, σ')) : EffR P E ks o σ env v σ' := by
  unfold sAlloc at h
  split at h
  · rename_i T hT
    obtain ⟨dt, it, zt, tu, ti, tz, t1, t2, t3, t4, t5, t6⟩ := tyGet_ok htab hT
    split at h
    · rename_i hal
      cases h
      refine ⟨(OS.alloc (E := E) (σ := σ.den env) (kp := kpOf ks) ho ti tz (alive_ok hal)).ox ⟨rfl, ?_⟩, sinv_snoc hg (fun e a k h => by cases h)⟩
      simp only [SS.den, denH_snoc, SB.den, zSVs_den, t5]
    · cases h
  · cases h
def sBox (ks : List Nat) (σ : SS) (x : SV) : Option (SV × SS) :=
  if (aliveS σ ks && SV.ones x.cells) = true then some (.ptr σ.nx 0, ⟨σ.T, σ.H ++ [(σ.nx, .cells x.cells)], σ.nx + 1⟩) else none
theorem sBox_ok {t : TypeId} {x : Operand} {σ' : SS} (hg : σ.Good env) (ho : o.op = .box t x) (h : sBox ks σ (σ.ev x) = some (v, σ')) : EffR P E ks o σ env v σ' := by
  unfold sBox at h
  split at h
  · rename_i hal
    simp only [Bool.and_eq_true] at hal
    cases h
    have h1 := SV.ones_den hal.2 (goods_cells (ev_good hg x))
    rw [← SV.cells_den, ← SS.ev_den] at h1
    refine ⟨(OS.box (P := P) (E := E) (σ := σ.den env) (kp := kpOf ks) ho (ones_iff.1 h1) (alive_ok hal.1)).ox ⟨rfl, ?_⟩, sinv_snoc hg (fun e a k h => by cases h)⟩
    simp only [SS.den, denH_snoc, SB.den, ← SV.cells_den]
    rw [show (⟨denT env σ.T, denH env σ.H, σ.nx⟩ : St) = σ.den env from rfl, SS.ev_den]
  · cases h
def sMkSlice (tab : TyTab) (ks : List Nat) (σ : SS) (m : Nat) (t : TypeId) (n : Nat) (ps : List (Nat × Operand)) : Option (List Nd × SV × SS) :=
  match tyGet tab t with
  | some T => (match T.kind with
    | .slice e => (match tyGet tab e with
      | some F => if aliveS σ ks = true then (match n, ps with
        | 0, [] => some ([], .e0, σ)
        | n, ps => if (Nat.ble (n * F.size) 16777216 && !Nat.beq (n * F.size) 0 && Nat.beq F.zero.length F.size) = true then
          (match fillS (fun i => some (i * F.size, F.size)) (repSV (F.zero.map zSV) n) (partsS σ ps) with
          | some ds => (match atomsOf (repCK F.row n) ds with
            | some as => if Nat.beq F.row.length F.size = true then some ([.pr (.mk F.row n) as], .sl σ.nx (.k (.i 0)) (.k (.i n)) F.size, ⟨σ.T, σ.H ++ [(σ.nx, .arr F.row (.v m) (.k (.i n)))], σ.nx + 1⟩) else none
            | none => some ([], .sl σ.nx (.k (.i 0)) (.k (.i n)) F.size, ⟨σ.T, σ.H ++ [(σ.nx, .cells ds)], σ.nx + 1⟩))
          | none => none) else none) else none
      | none => none)
    | _ => none)
  | none => none
theorem zrep (z : List Value) : ∀ n : Nat, (List.range (n * z.length)).map (fun j => z[j % z.length]!) = (List.replicate n z).flatten
  | 0 => by simp
  | n + 1 => by
    have ih := zrep z n
    rcases Nat.eq_zero_or_pos z.length with h0 | h0
    · have hz : z = [] := List.eq_nil_of_length_eq_zero h0
      subst hz
      simp
    · rw [List.replicate_succ, List.flatten_cons, Nat.add_mul, Nat.one_mul, Nat.add_comm, List.range_add, List.map_append]
      congr 1
      · refine List.ext_getElem (by simp) (fun j h1 h2 => ?_)
        simp only [List.length_map, List.length_range] at h1
        simp [Nat.mod_eq_of_lt h1, h1]
      · rw [List.map_map, ← ih]
        refine List.map_congr_left (fun j _ => ?_)
        simp
theorem repSV_den (z : List Value) : ∀ n, SV.dens env (repSV (z.map zSV) n) = vals ((List.replicate n z).flatten)
  | 0 => rfl
  | n + 1 => by
    simp only [repSV, List.replicate_succ, List.flatten_cons]
    rw [dens_map, List.map_append, ← dens_map, ← dens_map, repSV_den z n, zSVs_den]
    simp [vals]
theorem repSV_length (e : List SV) : ∀ n, (repSV e n).length = n * e.length
  | 0 => by simp [repSV]
  | n + 1 => by simp [repSV, repSV_length e n, Nat.add_mul]; omega
theorem sMkSlice_ok {t : TypeId} {n : Nat} {ps : List (Nat × Operand)} {σ' : SS} (htab : TabOk P tab) (hg : σ.Good env) (ho : o.op = .buildSlice t n ps.toArray) (h : sMkSlice tab ks σ m t n ps = some (nds, v, σ')) (hf : Facts Φ env m nds) : EffR P E ks o σ env v σ' := by
  unfold sMkSlice at h
  split at h
  · rename_i T hT
    obtain ⟨dt, it, zt, tu, ti, tz, t1, t2, t3, t4, t5, t6⟩ := tyGet_ok htab hT
    split at h
    · rename_i e hk
      rw [t4] at hk
      rw [kindD_slice hk] at tu
      split at h
      · rename_i F hF
        obtain ⟨df, jf, zf, fu, fi, fz', f1, f2, f3, f4, f5, f6⟩ := tyGet_ok htab hF
        split at h
        · rename_i hal
          split at h
          · cases h
            exact ⟨(OS.buildSlice0 (P := P) (E := E) (σ := σ.den env) (kp := kpOf ks) ho tu fi (alive_ok hal)).ox ⟨rfl, rfl⟩, fun i e a k hh => (hg.A i e a k hh).2⟩
          · split at h
            · rename_i hb
              simp only [Bool.and_eq_true, Bool.not_eq_true'] at hb
              obtain ⟨⟨b1, b2⟩, b3⟩ := hb
              have b1 := Nat.le_of_ble_eq_true b1
              have b2' : n * F.size ≠ 0 := fun e0 => by rw [e0] at b2; simp at b2
              have b3 := Nat.eq_of_beq_eq_true b3
              split at h
              · rename_i ds hds
                obtain ⟨k1, k2⟩ := fillS_ok _ _ _ (partsS_good hg ps) hds
                rw [repSV_den, partsS_den, ← zrep, b3, f5, f1] at k1
                have hzl : zf.cells.size = jf.size := by
                  have := congrArg List.length f5
                  rw [b3, f1] at this
                  simpa using this.symm
                have hB := fun (ds' : List AV) (hd : ds' = SV.dens env ds) => OS.buildSlice (P := P) (E := E) (σ := σ.den env) (kp := kpOf ks) (n := n) (ds := ds') ho tu fi fz' (by rw [← f1]; exact b1) (by rw [← f1]; exact b2') hzl (by
                  rw [hd]
                  have e2 : (fun j => zf.cells[j % zf.cells.size]!) = (fun j => zf.cells.toList[j % zf.cells.toList.length]!) := funext (fun j => by
                    rw [Array.length_toList, ← Array.getElem!_toList])
                  rw [e2]
                  have e3 : zf.cells.toList.length = jf.size := by simpa using hzl
                  rw [e3]
                  exact k1) (alive_ok hal)
                split at h
                · rename_i as has
                  split at h
                  · rename_i hr
                    have hr := Nat.eq_of_beq_eq_true hr
                    cases h
                    obtain ⟨g1, g2⟩ := hf.1
                    simp only [Pr.eval, Option.some.injEq] at g1
                    obtain ⟨a1, a2⟩ := atomsOf_den (env := env) has
                    have hlen : (as.map (At.den env)).length = n * F.row.length := by
                      rw [List.length_map, a2]
                      rw [repCK_eq]
                      simp
                    refine ⟨(hB (encR F.row (rowsOf F.row n (as.map (At.den env)))) (by rw [encR_rowsOf _ _ _ hlen, a1])).ox ⟨?_, ?_⟩, sinv_snoc hg (fun e a k h => ?_)⟩
                    · simp only [SV.den, At.den, D.nat, D.int, Int.toNat_zero, Nat.zero_mul, Int.toNat_natCast, f1]
                      rfl
                    · simp only [SS.den, denH_snoc, SB.den, ← g1, D.items]
                    · cases h
                      rw [← g1]
                      simp [D.items, rowsOf_length, At.den]
                  · cases h
                · cases h
                  refine ⟨(hB (SV.dens env ds) rfl).ox ⟨?_, ?_⟩, sinv_snoc hg (fun e a k h => by cases h)⟩
                  · simp only [SV.den, At.den, D.nat, D.int, Int.toNat_zero, Nat.zero_mul, Int.toNat_natCast, f1]
                    rfl
                  · simp only [SS.den, denH_snoc, SB.den]
              · cases h
            · cases h
        · cases h
      · cases h
    · cases h
  · cases h
end
end Go.BH
