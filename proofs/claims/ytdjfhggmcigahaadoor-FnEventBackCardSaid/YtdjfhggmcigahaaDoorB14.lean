/- Operations on whole numbers, truths, texts and structs of whole numbers, one by one. -/
import Derived.Test.YtdjfhggmcigahaaDoorB13
set_option linter.unusedVariables false
set_option linter.unusedSimpArgs false
namespace Go.BH
open Go.RowKit
section
variable {P : Program} {E : En} {σ : St} {o : Oper} {kp : Nat → Bool}
theorem eqGuard_int {op : BinOp} {t : TypeId} {x y : Operand} {k k' : IntKind} {a b : Int} (w : World) : (eqGuard op t x y (.int k a) (.int k' b)).run P w = .ok () w := by
  unfold eqGuard
  split <;> rfl
theorem eqGuard_bool {op : BinOp} {t : TypeId} {x y : Operand} {a b : Bool} (w : World) : (eqGuard op t x y (.bool a) (.bool b)).run P w = .ok () w := by
  unfold eqGuard
  split <;> rfl
theorem eqGuard_str {op : BinOp} {t : TypeId} {x y : Operand} {a b : ByteArray} (w : World) : (eqGuard op t x y (.string a) (.string b)).run P w = .ok () w := by
  unfold eqGuard
  split <;> rfl
theorem OP.int {op : BinOp} {t t' : TypeId} {x y : Operand} {k : IntKind} {a b r : Int} (ho : o.op = .binOp op t x y t') (hx : σ.ev x = .v (.int k a)) (hy : σ.ev y = .v (.int k b)) (h : binI op k a b = some r) : OP P E kp o σ (.v (.int k r)) :=
  .bin ho hx hy (fun w => by
    simp only [Sem.run_bind, eqGuard_int, Result.andThen_ok]
    unfold binI at h
    split at h
    all_goals first
      | (obtain rfl := Option.some.inj h; simp [binOp, Op.intArith, Op.intBits]; done)
      | (split at h
         · cases h
         · rename_i hb
           obtain rfl := Option.some.inj h
           simp [binOp, Op.intDiv, hb])
      | cases h)
theorem OP.cmp {op : BinOp} {t t' : TypeId} {x y : Operand} {k : IntKind} {a b : Int} {r : Bool} (ho : o.op = .binOp op t x y t') (hx : σ.ev x = .v (.int k a)) (hy : σ.ev y = .v (.int k b)) (h : cmpI op a b = some r) : OP P E kp o σ (.v (.bool r)) :=
  .bin ho hx hy (fun w => by
    simp only [Sem.run_bind, eqGuard_int, Result.andThen_ok]
    unfold cmpI at h
    split at h
    all_goals first
      | (obtain rfl := Option.some.inj h; simp [binOp, Op.intCmp]; done)
      | cases h)
theorem OP.sh {op : BinOp} {t t' : TypeId} {x y : Operand} {k k' : IntKind} {a b r : Int} (ho : o.op = .binOp op t x y t') (hx : σ.ev x = .v (.int k a)) (hy : σ.ev y = .v (.int k' b)) (h : shI op k a b = some r) : OP P E kp o σ (.v (.int k r)) :=
  .bin ho hx hy (fun w => by
    simp only [Sem.run_bind, eqGuard_int, Result.andThen_ok]
    unfold shI at h
    split at h
    · cases h
    · rename_i hb
      split at h
      all_goals first
        | (obtain rfl := Option.some.inj h; simp [binOp, Op.shift, hb]; done)
        | cases h)
theorem OP.str {op : BinOp} {t t' : TypeId} {x y : Operand} {a b : ByteArray} {r : Bool} (ho : o.op = .binOp op t x y t') (hx : σ.ev x = .v (.string a)) (hy : σ.ev y = .v (.string b)) (h : cmpT op a b = some r) : OP P E kp o σ (.v (.bool r)) :=
  .bin ho hx hy (fun w => by
    simp only [Sem.run_bind, eqGuard_str, Result.andThen_ok]
    unfold cmpT at h
    split at h
    all_goals first
      | (obtain rfl := Option.some.inj h; simp [binOp, Op.stringOp]; done)
      | cases h)
theorem OP.cat {t t' : TypeId} {x y : Operand} {a b : ByteArray} (ho : o.op = .binOp .add t x y t') (hx : σ.ev x = .v (.string a)) (hy : σ.ev y = .v (.string b)) (h : ¬ ((a.size + b.size : Nat) : Int) > 9223372036854775807) : OP P E kp o σ (.v (.string (a ++ b))) :=
  .bin ho hx hy (fun w => by
    simp only [Sem.run_bind, eqGuard_str, Result.andThen_ok]
    have h' : ¬ ((a.size + b.size : Nat) : Int) > IntKind.i64.max := h
    simp only [binOp, Op.stringOp, if_neg h', Sem.run_pure])
theorem equalIn_bool {t : TypeId} {a b : Bool} (w : World) (d : Nat) (ht : P.underlying t = some .bool) : (Op.equalIn (d + 1) t (.bool a) (.bool b)).run P w = .ok (a == b) w := by
  unfold Op.equalIn
  simp only [Sem.run_bind, run_underlying ht, Result.andThen_ok, Sem.run_pure]
theorem OP.eqb {op : BinOp} {t t' : TypeId} {x y : Operand} {a b r : Bool} (ho : o.op = .binOp op t x y t') (ht : P.underlying t = some .bool) (hx : σ.ev x = .v (.bool a)) (hy : σ.ev y = .v (.bool b)) (h : (op = .eql ∧ r = (a == b)) ∨ (op = .neq ∧ r = !(a == b))) : OP P E kp o σ (.v (.bool r)) :=
  .bin ho hx hy (fun w => by
    simp only [Sem.run_bind, eqGuard_bool, Result.andThen_ok]
    have he : (Op.equal t (.bool a) (.bool b)).run P w = .ok (a == b) w := equalIn_bool w 9999 ht
    rcases h with ⟨rfl, rfl⟩ | ⟨rfl, rfl⟩ <;> simp only [binOp, Sem.run_bind, he, Result.andThen_ok, Sem.run_pure])
theorem OP.convI {s d : TypeId} {x : Operand} {k k' : IntKind} {a : Int} {u : TypeDesc} (ho : o.op = .convert s d x) (hs : P.underlying s = some u) (hd : P.underlying d = some (.int k')) (hx : σ.ev x = .v (.int k a)) : OP P E kp o σ (.v (.int k' (k'.wrap a))) :=
  .conv ho hx (fun w => by
    simp [convert, run_underlying hs, run_underlying hd, Conv.intToInt])
/-! ### structs of whole numbers, compared -/
def fstP (ps : List (IntKind × Int × Int)) : List Value := ps.map fun p => .int p.1 p.2.1
def sndP (ps : List (IntKind × Int × Int)) : List Value := ps.map fun p => .int p.1 p.2.2
def allEq : List (IntKind × Int × Int) → Bool
  | [] => true
  | p :: r => (p.2.1 == p.2.2) && allEq r
theorem eqFields_run (w : World) (d : Nat) (all : List (IntKind × Int × Int)) : ∀ (fs : List Field) (m : Nat), fs.map (·.offset) = List.range' m fs.length → fs.all (intF P) = true → m + fs.length = all.length →
    (Op.eqFields (d + 1) (fstP all).toArray (sndP all).toArray fs).run P w = .ok (allEq (all.drop m)) w
  | [], m, _, _, h => by
    simp only [List.length_nil, Nat.add_zero] at h
    subst h
    simp [Op.eqFields, allEq]
  | f :: fs, m, ho, hi, h => by
    simp only [List.map_cons, List.length_cons, List.range'_succ, List.cons.injEq] at ho
    simp only [List.all_cons, Bool.and_eq_true] at hi
    simp only [List.length_cons] at h
    obtain ⟨ho1, ho2⟩ := ho
    have hm : m < all.length := by omega
    have hd : all.drop m = all[m] :: all.drop (m + 1) := List.drop_eq_getElem_cons hm
    have hx : (fstP all).toArray[m]? = some (.int all[m].1 all[m].2.1) := by simp [fstP, hm]
    have hy : (sndP all).toArray[m]? = some (.int all[m].1 all[m].2.2) := by simp [sndP, hm]
    have ih := eqFields_run w d all fs (m + 1) ho2 hi.2 (by omega)
    have hf := hi.1
    unfold intF at hf
    split at hf
    · rename_i k hu
      have p1 : (part f.type (fstP all).toArray f.offset).run P w = .ok (.int all[m].1 all[m].2.1) w := by
        simp [part, isAgg, run_underlying hu, ho1, hx]
      have p2 : (part f.type (sndP all).toArray f.offset).run P w = .ok (.int all[m].1 all[m].2.2) w := by
        simp [part, isAgg, run_underlying hu, ho1, hy]
      have hn : f.name ≠ "_" := by simpa using hf
      simp only [Op.eqFields, hn, ne_eq, not_false_eq_true, if_true, Sem.run_bind, p1, p2, Result.andThen_ok, run_equalIn_int w d f.type _ k _ _ hu, Sem.run_ite, ih, hd, allEq]
      cases e : (all[m].2.1 == all[m].2.2) <;> simp
    · cases hf
theorem eqInts_run {t : TypeId} {ps : List (IntKind × Int × Int)} (h : eqIntsB P t ps.length = true) (x y : Operand) (w : World) :
    (∀ o, (eqGuard o t x y (.agg (fstP ps).toArray) (.agg (sndP ps).toArray)).run P w = .ok () w) ∧ (binOp .eql t (.agg (fstP ps).toArray) (.agg (sndP ps).toArray)).run P w = .ok (.bool (allEq ps)) w ∧ (binOp .neq t (.agg (fstP ps).toArray) (.agg (sndP ps).toArray)).run P w = .ok (.bool (!allEq ps)) w := by
  unfold eqIntsB at h
  simp only [Bool.and_eq_true, Bool.not_eq_true'] at h
  obtain ⟨⟨h1, h2⟩, h3⟩ := h
  split at h3
  · rename_i fs hu
    simp only [Bool.and_eq_true, beq_iff_eq] at h3
    have hfo : P.fieldsOf t = fs := by simp [Program.fieldsOf, hu]
    have hlen : fs.toList.length = ps.length := by
      have := congrArg List.length h3.1
      simpa using this
    have hr : (Op.equalIn 10000 t (.agg (fstP ps).toArray) (.agg (sndP ps).toArray)).run P w = .ok (allEq ps) w := by
      rw [run_equalIn_agg w 9999 t _ _ (by rw [hfo]; exact hu) h2, hfo]
      simpa using eqFields_run w 9998 ps fs.toList 0 (by rw [hlen]; exact h3.1) h3.2 (by omega)
    refine ⟨fun o => run_eqGuard_agg w o t x y _ _ h1, ?_, ?_⟩
    · rw [run_eql_struct, hr]; rfl
    · rw [run_neq_struct, hr]; rfl
  · cases h3
theorem VR.vals_agg {μ : Mu} {l : List Value} {c : Value} (h : VR μ (.agg (vals l)) c) : c = .agg l.toArray := by
  cases h with
  | agg h =>
    rename_i cs
    have : ∀ (l cs : List Value), VRs μ (vals l) cs → cs = l := by
      intro l
      induction l with
      | nil => intro cs h; cases h; rfl
      | cons x xs ih => intro cs h; cases h with | cons a b => rw [a.val, ih _ b]
    rw [this _ _ h]
theorem OP.binAgg {op : BinOp} {t t' : TypeId} {x y : Operand} {ps : List (IntKind × Int × Int)} {r : Bool} (ho : o.op = .binOp op t x y t') (hx : σ.ev x = .agg (vals (fstP ps))) (hy : σ.ev y = .agg (vals (sndP ps))) (h : eqIntsB P t ps.length = true) (hop : (op = .eql ∧ r = allEq ps) ∨ (op = .neq ∧ r = !allEq ps)) : OP P E kp o σ (.v (.bool r)) := fun μ a w hi => by
  have h1 := hi.ev x
  have h2 := hi.ev y
  rw [hx] at h1
  rw [hy] at h2
  refine ⟨_, .v _, fun w' _ => ?_⟩
  obtain ⟨e1, e2, e3⟩ := eqInts_run h x y w'
  rcases hop with ⟨rfl, rfl⟩ | ⟨rfl, rfl⟩
  · simp only [execOp, ho, h1.vals_agg, h2.vals_agg, Sem.run_bind, e1, e2, Result.andThen_ok, Sem.run_pure]
  · simp only [execOp, ho, h1.vals_agg, h2.vals_agg, Sem.run_bind, e1, e3, Result.andThen_ok, Sem.run_pure]
/-- An interface value compared with nil. -/
theorem VR.ifc {μ : Mu} {b : Bool} {c : Value} (h : VR μ (ifcA (.b b)) c) : (b = true ∧ c = .nilIface) ∨ (b = false ∧ ∃ t x, c = .iface t x) := by
  cases b with
  | true => exact .inl ⟨rfl, VR.val h⟩
  | false =>
    have h' : VR μ .ifs c := h
    cases h' with
    | ifs t x => exact .inr ⟨rfl, t, x, rfl⟩
theorem OP.ifcNil {op : BinOp} {t t' : TypeId} {x : Operand} {b r : Bool} {ms : Array (String × TypeId)} (ho : o.op = .binOp op t x (.const .nilIface) t') (ht : P.underlying t = some (.interface ms)) (hx : σ.ev x = ifcA (.b b)) (h : (op = .eql ∧ r = b) ∨ (op = .neq ∧ r = !b)) : OP P E kp o σ (.v (.bool r)) := fun μ a w hi => by
  have hv := hi.ev x
  rw [hx] at hv
  have hm : P.underlying t = some (.interface (P.methodsAt t)) := by simp [Program.methodsAt, ht]
  have hy : a.eval (.const .nilIface) = .nilIface := rfl
  refine ⟨.bool r, .v _, fun w' _ => ?_⟩
  rcases hv.ifc with ⟨rfl, hc⟩ | ⟨rfl, u, z, hc⟩
  · rcases h with ⟨rfl, rfl⟩ | ⟨rfl, rfl⟩
    · simp only [execOp, ho, hc, hy, eqGuard_nil_constR, Sem.run_bind, Sem.run_pure, Result.andThen_ok, run_eql_nil_nil w' t hm]
    · simp only [execOp, ho, hc, hy, eqGuard_nil_constR, Sem.run_bind, Sem.run_pure, Result.andThen_ok, run_neq_nil_nil w' t hm, Bool.not_true]
  · rcases h with ⟨rfl, rfl⟩ | ⟨rfl, rfl⟩
    · simp only [execOp, ho, hc, hy, eqGuard_at_iface, Sem.run_bind, Sem.run_pure, Result.andThen_ok, run_eql_held_nil w' t u z hm]
    · simp only [execOp, ho, hc, hy, eqGuard_at_iface, Sem.run_bind, Sem.run_pure, Result.andThen_ok, run_neq_held_nil w' t u z hm, Bool.not_false]
/-! ### nil checks, function values -/
theorem OP.nilPtr {x : Operand} {i k : Nat} (ho : o.op = .nilCheck x) (hx : σ.ev x = .ptr i k) : OP P E kp o σ (.ptr i k) := fun μ a w hi => by
  have h := hi.ev x
  rw [hx] at h
  generalize hc : a.eval x = c at h
  cases h with
  | ptr hm => exact ⟨_, .ptr hm, fun w' _ => by simp [execOp, ho, hc]⟩
theorem OP.nilPfz {x : Operand} {l : Bool} {xs : List AV} (ho : o.op = .nilCheck x) (hx : σ.ev x = .pfz l xs) : OP P E kp o σ (.pfz l xs) := fun μ a w hi => by
  have h := hi.ev x
  rw [hx] at h
  generalize hc : a.eval x = c at h
  cases h with
  | pfz hm hk => exact ⟨_, .pfz hm hk, fun w' _ => by simp [execOp, ho, hc]⟩
theorem OP.nilFn {x : Operand} {f : FuncId} {xs : List AV} (ho : o.op = .nilCheck x) (hx : σ.ev x = .fn (.func f) xs) : OP P E kp o σ (.fn (.func f) xs) := fun μ a w hi => by
  have h := hi.ev x
  rw [hx] at h
  generalize hc : a.eval x = c at h
  cases h with
  | fn hm => exact ⟨_, .fn hm, fun w' _ => by simp [execOp, ho, hc]⟩
theorem OP.makeFunc {f : FuncId} {caps : List Operand} (ho : o.op = .makeFunc (.func f) #[] caps.toArray) : OP P E kp o σ (.fn (.func f) (evs σ caps)) := fun μ a w hi =>
  ⟨.func (.func f) #[] (caps.map a.eval).toArray, .fn (hi.evs caps), fun w' _ => by simp [execOp, ho, Instr.makeFunc]⟩
/-- Text of bytes. -/
theorem OP.bstr {s d e : TypeId} {x : Operand} {ns : List Int} {news : List AV} {m : Nat} (ho : o.op = .convert s d x) (hs : P.underlying s = some (.slice e)) (he : P.underlying e = some (.int .u8)) (hd : P.underlying d = some .string) (hy : Src σ 1 (σ.ev x) m news) (hn : news = vals (ns.map (Value.int .u8)))
    (hst : ∀ i k n s', σ.ev x = .sl i k n s' → kp i = true) : OP P E kp o σ (.v (.string (ns.foldl (fun r n => r.push (UInt8.ofNat n.toNat)) ByteArray.empty))) := fun μ a w hi => by
  have hv := hi.ev x
  have hvals : ∀ {l : List Value} {cs : List Value}, VRs μ (vals l) cs → cs = l := by
    intro l
    induction l with
    | nil => intro cs h; cases h; rfl
    | cons x xs ih => intro cs h; cases h with | cons a b => rw [a.val, ih b]
  refine ⟨_, .v _, fun w' hw' => ?_⟩
  have key : ∃ b n l, a.eval x = .slice b m n ∧ l.length = m ∧ VRs μ news l ∧ (0 < m → ∃ p, b = some p ∧ ∀ (j : Nat) (v : Value), l[j]? = some v → w'.cell? (p.add j) = some v) := by
    cases hy' : σ.ev x with
    | sl i k n s' =>
      have hk := hst i k n s' hy'
      rw [hy'] at hy hv
      cases hy with
      | @sl _ _ _ cs hg hle =>
        rcases Nat.eq_zero_or_pos m with e0 | e0
        · subst e0
          generalize a.eval x = c at hv ⊢
          cases hv with
          | sl hm hc he' => exact ⟨_, _, [], rfl, rfl, by simp; exact .nil, by omega⟩
          | sl0 A => exact ⟨_, _, [], rfl, rfl, by simp; exact .nil, by omega⟩
        · obtain ⟨b, hb⟩ := hi.heap.there i cs hg (fun h0 => by rw [h0] at hle; simp at hle; omega)
          obtain ⟨c0, t0, g1, g2, g3, g4⟩ := hi.heap.own i cs hg b hb
          have hrel := (rel_cells g4 (by omega)).seg k (m * 1)
          rw [take_drop_take _ _ _ _ hle, List.drop_drop] at hrel
          obtain ⟨hll, hcell⟩ := seg_cells (w := w) (k := b.base + k) (n := m * 1) g1 (by omega)
          generalize a.eval x = c at hv ⊢
          cases hv with
          | sl hm hcap he' =>
            rename_i d'
            obtain rfl : b = d' := Option.some.inj (hb.symm.trans hm)
            refine ⟨_, _, _, rfl, by rw [hll]; omega, hrel, fun _ => ⟨_, rfl, fun j v hj => ?_⟩⟩
            rw [addr_add, ← cell_block (hw'.own i hk b hb)]
            exact hcell j v hj
          | sl0 => omega
    | fz l s' n xs =>
      rw [hy'] at hy hv
      cases hy with
      | fz hl =>
        generalize a.eval x = c at hv ⊢
        cases hv with
        | @fz _ _ _ cap off b cs _ hr hl' hcap hk =>
          obtain ⟨c0, t0, r0, g1, g2⟩ := hi.heap.rd _ _ _ hr
          subst g2
          have hlen := hk.length
          refine ⟨_, _, _, rfl, by rw [hlen, hl]; omega, hk, fun _ => ⟨_, rfl, fun j v hj => ?_⟩⟩
          obtain ⟨h1, h2⟩ := take_get hj
          rw [addr_add, ← cell_block (hw'.rd _ _ _ hr)]
          exact cell_of g1 (by simpa using h1)
        | fz0 A c => exact ⟨_, _, [], rfl, rfl, .nil, by omega⟩
    | v y =>
      rw [hy'] at hy hv
      cases hy
      rw [hv.val]
      exact ⟨_, _, [], rfl, rfl, .nil, by omega⟩
    | e0 =>
      rw [hy'] at hy hv
      cases hy
      generalize a.eval x = c at hv ⊢
      cases hv
      exact ⟨_, _, [], rfl, rfl, .nil, by omega⟩
    | any => rw [hy'] at hy; cases hy
    | ptr => rw [hy'] at hy; cases hy
    | pfz => rw [hy'] at hy; cases hy
    | agg => rw [hy'] at hy; cases hy
    | tup => rw [hy'] at hy; cases hy
    | fn => rw [hy'] at hy; cases hy
    | ifs => rw [hy'] at hy; cases hy
  obtain ⟨b, n, l, hc, hl, hr, hp⟩ := key
  subst hn
  obtain rfl := hvals hr
  rw [List.length_map] at hl
  simp only [execOp, ho, Sem.run_bind, hc, run_convert_bytes_string w' s d e b m n hs he hd]
  rcases Nat.eq_zero_or_pos m with e0 | e0
  · have : ns = [] := List.eq_nil_of_length_eq_zero (by omega)
    subst this
    subst e0
    cases b with
    | none => simp [Conv.bytesToString]
    | some p =>
      rw [run_bytesToString w' p 0 n [] (by simp [loadCells, loadCellsFrom])]
      simp
  · obtain ⟨p, rfl, hcells⟩ := hp e0
    have hld := run_loadCells_list (P := P) w' p (ns.map (Value.int .u8)) hcells
    rw [List.length_map, hl] at hld
    rw [run_bytesToString w' p m n ns hld]
    simp
end
end Go.BH
