/- The picture by value, 8: make, cuts, strings, what is frozen. -/
import Derived.Test.YtdjfhggmcigahaaDoorB7
import Derived.Laws.MakeOwn
import Derived.Laws.Cover3
import Derived.Laws.BytesString
set_option linter.unusedVariables false
set_option linter.unusedSimpArgs false
namespace Go.BH
open Go.RowKit
section
variable {P : Program} {E : En} {σ : St} {o : Oper} {kp : Nat → Bool}
theorem OS.makeSlice {t e : TypeId} {lx cx : Operand} {info : TypeInfo} {z : Value} {k k' : IntKind} {n : Nat} (ho : o.op = .makeSlice t lx cx) (ht : P.underlying t = some (.slice e)) (hs : P.info? e = some info) (hz : info.zero = some z) (hl : σ.ev lx = .v (.int k n)) (hc : σ.ev cx = .v (.int k' n)) (hn : n < 9223372036854775808) (hb : info.bytes * n ≤ 281474976710656) (hk : ∀ j, kp j = true → (hget σ.H j).isSome = true) :
    OS P E kp o σ (.sl σ.nx 0 n info.size) ⟨σ.T, σ.H ++ [(σ.nx, vals (madeCells z.cells (n * info.size)).toList)], σ.nx + 1⟩ := fun μ a w hi => by
  have h1 := hi.ev lx
  have h2 := hi.ev cx
  rw [hl] at h1
  rw [hc] at h2
  have hal := hi.alloc (VRs.vals (madeCells z.cells (n * info.size)).toList) #[] e
  have hrun := run_make (P := P) w t e info z ht hs hz k k' (n : Int) (n : Int) (by omega) (Int.le_refl _) (by rw [← Int.natCast_mul]; exact Int.ofNat_le.2 hb) (by omega)
  simp only [Int.toNat_natCast] at hrun
  refine ⟨.slice (some ⟨w.heap.size, 0, none⟩) n n, _, _, ?_, ?_, hal, smk_alloc hi hk _ _⟩
  · simp only [execOp, ho, h1.val, h2.val, Sem.run_bind, hrun, Result.andThen_ok, Sem.run_pure, Array.append_empty]
  · refine .sl (o := 0) (Mu.put_same _ _ _) (Nat.le_refl _) ?_
    simp [size_madeCells]
/-- A bound of a cut: what it is, if nothing is said. -/
def bd (σ : St) (dflt : Nat) : Option Operand → Nat → Prop
  | none, l => l = dflt
  | some x, l => ∃ k, σ.ev x = .v (.int k l)
theorem run_cut {P : Program} {t e : TypeId} {info : TypeInfo} (ht : P.underlying t = some (.slice e)) (hs : P.info? e = some info) {μ : Mu} {a : Act} {w0 : World} (hi : INV E μ σ a w0) {lo hh : Option Operand} {A : Option Addr} {n c l h : Nat} (hl : bd σ 0 lo l) (hd : bd σ n hh h) (h1 : l ≤ h) (h2 : h ≤ n) (h3 : n ≤ c) (w : World) :
    (Instr.sliceAt t (.slice A n c) (lo.map a.eval) (hh.map a.eval) none).run P w = .ok (sliced A l h c info.size) w := by
  have hel : P.elem t = e := by simp [Program.elem, ht]
  have ht' : P.underlying t = some (.slice (P.elem t)) := by rw [hel]; exact ht
  have hsz : (sizeOf (P.elem t)).run P w = .ok info.size w := by rw [hel]; exact run_sizeOf' hs w
  have hc : ∀ (x : Operand) (k : IntKind) (m : Nat), σ.ev x = .v (.int k m) → a.eval x = .int k m := fun x k m hx => by
    have := hi.ev x
    rw [hx] at this
    exact this.val
  rw [run_sliceAt_slice _ _ _ _ _ _ ht']
  cases lo with
  | none =>
    obtain rfl : l = 0 := hl
    cases hh with
    | none =>
      obtain rfl : h = n := hd
      rw [show (none : Option Operand).map a.eval = none from rfl, run_slice_all w t A h c ht', hsz, Result.andThen_ok]
    | some y =>
      obtain ⟨k, hy⟩ := hd
      rw [show (none : Option Operand).map a.eval = none from rfl, Option.map_some, hc y k h hy, run_slice_h w t A n c ht' k h (by omega) (by omega), hsz, Result.andThen_ok, Int.toNat_natCast]
  | some x =>
    obtain ⟨k, hx⟩ := hl
    cases hh with
    | none =>
      obtain rfl : h = n := hd
      rw [show (none : Option Operand).map a.eval = none from rfl, Option.map_some, hc x k l hx, run_slice_l w t A h c ht' k l (by omega) (by omega), hsz, Result.andThen_ok, Int.toNat_natCast]
    | some y =>
      obtain ⟨k', hy⟩ := hd
      rw [Option.map_some, Option.map_some, hc x k l hx, hc y k' h hy, run_slice_lh w t A n c ht' k k' l h (by omega) (by omega) (by omega), hsz, Result.andThen_ok, Int.toNat_natCast, Int.toNat_natCast]
theorem OP.cut {t e : TypeId} {x : Operand} {lo hh : Option Operand} {info : TypeInfo} {i k n l h : Nat} (ho : o.op = .slice t x lo hh none) (ht : P.underlying t = some (.slice e)) (hs : P.info? e = some info) (hx : σ.ev x = .sl i k n info.size) (hl : bd σ 0 lo l) (hd : bd σ n hh h) (h1 : l ≤ h) (h2 : h ≤ n) :
    OP P E kp o σ (.sl i (k + l * info.size) (h - l) info.size) := fun μ a w hi => by
  have hv := hi.ev x
  rw [hx] at hv
  generalize hc : a.eval x = c at hv
  cases hv with
  | @sl _ _ _ cap _ b hm hcap he =>
    refine ⟨sliced (some ⟨b.block, b.base + k, none⟩) l h cap info.size, ?_, fun w' _ => ?_⟩
    · unfold sliced
      by_cases e : cap = l
      · have : h - l = 0 := by omega
        rw [this, if_pos e]
        have : cap - l = 0 := by omega
        rw [this]
        exact .sl0 _
      · rw [if_neg e]
        simp only [Option.map_some, addr_add, Nat.add_assoc]
        refine .sl hm (by omega) ?_
        have : k + l * info.size + (cap - l) * info.size = k + cap * info.size := by rw [Nat.add_assoc, ← Nat.add_mul]; congr 2; omega
        omega
    · simp only [execOp, ho, hc, Option.map_none, run_cut ht hs hi hl hd h1 h2 hcap w', Sem.run_bind, Result.andThen_ok, Sem.run_pure]
  | sl0 A =>
    obtain rfl : h = 0 := by omega
    obtain rfl : l = 0 := by omega
    refine ⟨.slice A 0 0, ?_, fun w' _ => ?_⟩
    · simp only [Nat.sub_self]; exact .sl0 A
    · simp only [execOp, ho, hc, Option.map_none, run_cut ht hs hi hl hd h1 h2 (Nat.le_refl _) w', Sem.run_bind, Result.andThen_ok, Sem.run_pure]
      simp [sliced]
/-- A cut of a block of the call's own: the part has a new name, the old one is gone. -/
theorem OS.win {t e : TypeId} {x : Operand} {lo hh : Option Operand} {info : TypeInfo} {i n l h : Nat} {cs : List AV} (ho : o.op = .slice t x lo hh none) (ht : P.underlying t = some (.slice e)) (hs : P.info? e = some info) (hx : σ.ev x = .sl i 0 n info.size) (hg : hget σ.H i = some cs) (hcs : h * info.size ≤ cs.length) (hl : bd σ 0 lo l) (hd : bd σ n hh h) (h1 : l ≤ h) (h2 : h ≤ n) :
    OS P E kp o σ (.sl σ.nx 0 (h - l) info.size) ⟨σ.T, hdel σ.H i ++ [(σ.nx, (cs.drop (l * info.size)).take ((h - l) * info.size))], σ.nx + 1⟩ := fun μ a w hi => by
  obtain ⟨c, hv, hrun⟩ := OP.cut (P := P) (kp := kp) ho ht hs hx hl hd h1 h2 μ a w hi
  have hle : l * info.size + (h - l) * info.size ≤ cs.length := by
    rw [← Nat.add_mul, show l + (h - l) = h by omega]; exact hcs
  obtain ⟨μ', k1, k2, k3⟩ := hi.window hg (l * info.size) ((h - l) * info.size) hle
  refine ⟨c, w, μ', hrun w (SM.refl _ _ _), ?_, k1, k2, SM.refl _ _ _⟩
  rw [Nat.zero_add] at hv
  generalize h - l = r at hv
  cases hv with
  | @sl _ _ _ cap _ b hm hcap he => exact .sl (o := 0) (k3 b hm) hcap (by simp only; omega)
  | sl0 A => exact .sl0 A
theorem OP.cutF {t e : TypeId} {x : Operand} {lo hh : Option Operand} {info : TypeInfo} {b : Bool} {n l h : Nat} {xs : List AV} (ho : o.op = .slice t x lo hh none) (ht : P.underlying t = some (.slice e)) (hs : P.info? e = some info) (hx : σ.ev x = .fz b info.size n xs) (hl : bd σ 0 lo l) (hd : bd σ n hh h) (h1 : l ≤ h) (h2 : h ≤ n) :
    OP P E kp o σ (.fz b info.size (h - l) ((xs.drop (l * info.size)).take ((h - l) * info.size))) := fun μ a w hi => by
  have hv := hi.ev x
  rw [hx] at hv
  generalize hc : a.eval x = c at hv
  cases hv with
  | @fz _ _ _ cap off bk cs _ hr hlen hcap hk =>
    refine ⟨sliced (some ⟨bk, off, none⟩) l h cap info.size, ?_, fun w' _ => ?_⟩
    · unfold sliced
      by_cases e : h - l = 0
      · have : (xs.drop (l * info.size)).take ((h - l) * info.size) = [] := by rw [e]; simp
        rw [this, e]
        split
        · exact .fz0 _ _
        · exact .fz0 _ _
      · rw [if_neg (show ¬ cap = l by omega)]
        simp only [Option.map_some, addr_add]
        have hle : (h - l) * info.size + l * info.size ≤ n * info.size := by rw [← Nat.add_mul]; exact Nat.mul_le_mul_right _ (by omega)
        refine .fz hr (by simp; omega) (by omega) ?_
        have := (hk.drop (l * info.size)).take ((h - l) * info.size)
        rw [List.drop_take, List.take_take, List.drop_drop, Nat.min_eq_left (by omega)] at this
        exact this
    · simp only [execOp, ho, hc, Option.map_none, run_cut ht hs hi hl hd h1 h2 hcap w', Sem.run_bind, Result.andThen_ok, Sem.run_pure]
  | fz0 A cap =>
    obtain rfl : h = 0 := by omega
    obtain rfl : l = 0 := by omega
    refine ⟨sliced A 0 0 cap info.size, ?_, fun w' _ => ?_⟩
    · simp only [List.drop_nil, List.take_nil, sliced, Nat.sub_self]; exact .fz0 _ _
    · simp only [execOp, ho, hc, Option.map_none, run_cut ht hs hi hl hd h1 h2 (Nat.zero_le _) w', Sem.run_bind, Result.andThen_ok, Sem.run_pure]
/-- Comparison with nil, of a slice that is not empty. -/
theorem OP.eqNilS {op : BinOp} {t e t' : TypeId} {x : Operand} {i j n s : Nat} {r : Bool} (ho : o.op = .binOp op t x (.const (.slice none 0 0)) t') (ht : P.underlying t = some (.slice e)) (hx : σ.ev x = .sl i j n s ∨ ∃ l xs, σ.ev x = .fz l s n xs) (hn : n ≠ 0) (hr : (op = .eql ∧ r = false) ∨ (op = .neq ∧ r = true)) : OP P E kp o σ (.v (.bool r)) := fun μ a w hi => by
  have hv := hi.ev x
  obtain ⟨b, c, hc⟩ : ∃ b c, a.eval x = .slice (some b) n c := by
    rcases hx with hx | ⟨l, xs, hx⟩ <;> rw [hx] at hv <;> (generalize a.eval x = cx at hv ⊢; cases hv) <;> first | exact ⟨_, _, rfl⟩ | exact absurd rfl hn
  refine ⟨.bool r, .v _, fun w' _ => ?_⟩
  have he := run_equal_slice_nil (P := P) w' t e (some b) n c ht
  have hy : a.eval (.const (.slice none 0 0)) = .slice none 0 0 := rfl
  rcases hr with ⟨rfl, rfl⟩ | ⟨rfl, rfl⟩ <;> (simp only [execOp, ho, hc, hy]; simp [eqGuard, binOp, he])
/-- .. of one that is frozen: where it is empty, either may be the answer. -/
theorem OX.nilB {t e t' : TypeId} {x : Operand} {l : Bool} {n s : Nat} {xs : List AV} {R : AV → St → Prop} (ho : o.op = .binOp .eql t x (.const (.slice none 0 0)) t') (ht : P.underlying t = some (.slice e)) (hx : σ.ev x = .fz l s n xs) (hf : R (.v (.bool false)) σ) (htr : n = 0 → R (.v (.bool true)) σ) : OX P E kp o σ R := by
  intro μ a w hi K Q hK
  have hv := hi.ev x
  rw [hx] at hv
  have hy : a.eval (.const (.slice none 0 0)) = .slice none 0 0 := rfl
  have key : ∀ (A : Option Addr) (c : Nat), a.eval x = .slice A n c → (A = none → n = 0) → o.wp P a w K Q := fun A c hc hA => by
    cases A with
    | none =>
      have he := run_equal_slice_nil (P := P) w t e none n c ht
      have hrun : (execOp a.eval o).run P w = .ok (.value (.bool true)) w := by
        simp only [execOp, ho, hc, hy]; simp [eqGuard, binOp, he]
      simp only [Oper.wp, hrun, Oper.upon]
      exact hK _ σ _ μ w (htr (hA rfl)) (.v _) hi (.refl _ _ _)
    | some b =>
      have he := run_equal_slice_nil (P := P) w t e (some b) n c ht
      have hrun : (execOp a.eval o).run P w = .ok (.value (.bool false)) w := by
        simp only [execOp, ho, hc, hy]; simp [eqGuard, binOp, he]
      simp only [Oper.wp, hrun, Oper.upon]
      exact hK _ σ _ μ w hf (.v _) hi (.refl _ _ _)
  generalize hcx : a.eval x = cx at hv
  cases hv with
  | fz h hl hc k => exact key _ _ hcx (fun h => by cases h)
  | fz0 A c => exact key _ _ hcx (fun _ => rfl)
theorem OP.indexStr {t : TypeId} {x ix : Operand} {z : ByteArray} {kd : IntKind} {i : Int} {b : UInt8} (ho : o.op = .index t x ix) (ht : P.underlying t = some .string) (hx : σ.ev x = .v (.string z)) (hz : σ.ev ix = .v (.int kd i)) (h0 : 0 ≤ i) (hb : z[i.toNat]? = some b) : OP P E kp o σ (.v (.int .u8 b.toNat)) := fun μ a w hi => by
  have h1 := hi.ev x
  have h2 := hi.ev ix
  rw [hx] at h1
  rw [hz] at h2
  refine ⟨_, .v _, fun w' _ => ?_⟩
  simp [execOp, ho, h1.val, h2.val, Instr.index, asIntOf, run_underlying ht, if_pos h0, hb]
theorem run_cutStr {P : Program} {t : TypeId} (ht : P.underlying t = some .string) {μ : Mu} {a : Act} {w0 : World} (hi : INV E μ σ a w0) {lo hh : Option Operand} {z : ByteArray} {l h : Nat} (hl : bd σ 0 lo l) (hd : bd σ z.size hh h) (h1 : l ≤ h) (h2 : h ≤ z.size) (w : World) :
    (Instr.sliceAt t (.string z) (lo.map a.eval) (hh.map a.eval) none).run P w = .ok (.string (z.extract l h)) w := by
  have hc : ∀ (x : Operand) (k : IntKind) (m : Nat), σ.ev x = .v (.int k m) → a.eval x = .int k m := fun x k m hx => by
    have := hi.ev x
    rw [hx] at this
    exact this.val
  rw [run_sliceAt_string _ _ _ _ _ _ ht]
  cases lo with
  | none =>
    obtain rfl : l = 0 := hl
    cases hh with
    | none =>
      obtain rfl : h = z.size := hd
      simp [Instr.slice, run_underlying ht, Instr.sliceBounds]
    | some y =>
      obtain ⟨k, hy⟩ := hd
      simp [Instr.slice, run_underlying ht, Instr.sliceBounds, hc y k h hy, run_sliceBound w k h z.size _ (Int.natCast_nonneg _) (by omega)]
  | some x =>
    obtain ⟨k, hx⟩ := hl
    cases hh with
    | none =>
      obtain rfl : h = z.size := hd
      simp [Instr.slice, run_underlying ht, Instr.sliceBounds, hc x k l hx, run_sliceBound w k l z.size _ (Int.natCast_nonneg _) (by omega)]
    | some y =>
      obtain ⟨k', hy⟩ := hd
      simp [Instr.slice, run_underlying ht, Instr.sliceBounds, hc x k l hx, hc y k' h hy, run_sliceBound w k' h z.size _ (Int.natCast_nonneg _) (by omega), run_sliceBound w k l h _ (Int.natCast_nonneg _) (by omega)]
theorem OP.cutStr {t : TypeId} {x : Operand} {lo hh : Option Operand} {z : ByteArray} {l h : Nat} (ho : o.op = .slice t x lo hh none) (ht : P.underlying t = some .string) (hx : σ.ev x = .v (.string z)) (hl : bd σ 0 lo l) (hd : bd σ z.size hh h) (h1 : l ≤ h) (h2 : h ≤ z.size) : OP P E kp o σ (.v (.string (z.extract l h))) := fun μ a w hi => by
  have h3 := hi.ev x
  rw [hx] at h3
  refine ⟨_, .v _, fun w' _ => ?_⟩
  simp only [execOp, ho, h3.val, Option.map_none, run_cutStr ht hi hl hd h1 h2 w', Sem.run_bind, Result.andThen_ok, Sem.run_pure]
/-! ### a block frozen -/
end
mutual
/-- What names block i (which holds cs) by value. -/
def AV.frz (i : Nat) (cs : List AV) : AV → AV
  | .any => .any
  | .v x => .v x
  | .ptr j o => if Nat.beq j i = true then .pfz false (cs.drop o) else .ptr j o
  | .sl j o n s => if Nat.beq j i = true then (if Nat.ble (o + n * s) cs.length = true then .fz false s n ((cs.drop o).take (n * s)) else .any) else .sl j o n s
  | .e0 => .e0
  | .ifs => .ifs
  | .fz l s n xs => .fz l s n (AV.frzs i cs xs)
  | .pfz l xs => .pfz l (AV.frzs i cs xs)
  | .agg xs => .agg (AV.frzs i cs xs)
  | .tup xs => .tup (AV.frzs i cs xs)
  | .fn g xs => .fn g (AV.frzs i cs xs)
def AV.frzs (i : Nat) (cs : List AV) : List AV → List AV
  | [] => []
  | x :: xs => AV.frz i cs x :: AV.frzs i cs xs
end
theorem frzs_map (i : Nat) (cs : List AV) (l : List AV) : AV.frzs i cs l = l.map (AV.frz i cs) := by
  induction l with
  | nil => rfl
  | cons x xs ih => simp [AV.frzs, ih]
mutual
theorem VR.frz {i : Nat} {cs : List AV} {μ ν : Mu} (h : Sub μ ν) (hp : ∀ a, μ.pl i = some a → ∃ l, ν.fz a.block = some l ∧ VRs ν cs ((l.drop a.base).take cs.length)) : ∀ {x : AV} {c : Value}, VR μ x c → VR ν (x.frz i cs) c
  | _, _, .any c => .any c
  | _, _, .v x => .v x
  | .ptr j o, _, .ptr k => by
    simp only [AV.frz]
    split
    · rename_i e
      obtain rfl := Nat.eq_of_beq_eq_true e
      obtain ⟨l, h1, h2⟩ := hp _ k
      refine .pfz (l := false) h1 ?_
      have := h2.drop o
      rw [List.drop_take, List.drop_drop] at this
      rw [List.length_drop]
      exact this
    · exact .ptr (h.pl _ _ k)
  | .sl j o n s, _, .sl k hc he => by
    simp only [AV.frz]
    split
    · rename_i e
      obtain rfl := Nat.eq_of_beq_eq_true e
      split
      · rename_i e2
        have e2 := Nat.le_of_ble_eq_true e2
        obtain ⟨l, h1, h2⟩ := hp _ k
        refine .fz (l := false) h1 (by simp; omega) hc ?_
        have := h2.seg o (n * s)
        rw [take_drop_take _ _ _ _ e2, List.drop_drop] at this
        exact this
      · exact .any _
    · exact .sl (h.pl _ _ k) hc he
  | .sl j o _ s, _, .sl0 A => by
    simp only [AV.frz]
    split
    · split
      · simp only [Nat.zero_mul, List.take_zero]; exact .fz0 A 0
      · exact .any _
    · exact .sl0 A
  | _, _, .e0 A => .e0 A
  | _, _, .ifs t x => .ifs t x
  | .fz l s n xs, _, .fz k hl hc m => by
    simp only [AV.frz]
    exact .fz (h.rd _ _ _ k) (by rw [frzs_map, List.length_map]; exact hl) hc (VRs.frz h hp m)
  | _, _, .fz0 A c => .fz0 A c
  | .pfz l xs, _, .pfz k m => by
    simp only [AV.frz]
    refine .pfz (h.rd _ _ _ k) ?_
    rw [frzs_map, List.length_map, ← frzs_map]
    exact VRs.frz h hp m
  | .agg _, _, .agg k => .agg (VRs.frz h hp k)
  | .tup _, _, .tup k => .tup (VRs.frz h hp k)
  | .fn _ _, _, .fn m => .fn (VRs.frz h hp m)
theorem VRs.frz {i : Nat} {cs : List AV} {μ ν : Mu} (h : Sub μ ν) (hp : ∀ a, μ.pl i = some a → ∃ l, ν.fz a.block = some l ∧ VRs ν cs ((l.drop a.base).take cs.length)) : ∀ {x : List AV} {c : List Value}, VRs μ x c → VRs ν (AV.frzs i cs x) c
  | _, _, .nil => .nil
  | _, _, .cons k m => .cons (VR.frz h hp k) (VRs.frz h hp m)
end
def frzT (i : Nat) (cs : List AV) : List (Nat × AV) → List (Nat × AV)
  | [] => []
  | (t, x) :: r => (t, x.frz i cs) :: frzT i cs r
theorem tk_frzT (i : Nat) (cs : List AV) (t : Nat) : ∀ T : List (Nat × AV), tk (frzT i cs T) t = (tk T t).frz i cs
  | [] => rfl
  | (d, x) :: r => by
    simp only [frzT, tk]
    split
    · rfl
    · exact tk_frzT i cs t r
def frzH (i : Nat) (cs : List AV) : Hp → Hp
  | [] => []
  | (k, x) :: r => (k, AV.frzs i cs x) :: frzH i cs r
theorem hget_frzH (i : Nat) (cs : List AV) (t : Nat) : ∀ T : Hp, hget (frzH i cs T) t = (hget T t).map (AV.frzs i cs)
  | [] => rfl
  | (d, x) :: r => by
    simp only [frzH, hget]
    split
    · rfl
    · exact hget_frzH i cs t r
def St.freeze (σ : St) (i : Nat) (cs : List AV) : St := ⟨frzT i cs σ.T, frzH i cs (hdel σ.H i), σ.nx⟩
section
variable {E : En} {σ : St}
theorem Gh.freeze {i : Nat} {cs : List AV} (hg : hget σ.H i = some cs) : Gh E σ (σ.freeze i cs) := fun μ a w hi => by
  obtain ⟨ν, hsub, hHR, hpl, hln, hfz, hp⟩ : ∃ ν : Mu, Sub μ ν ∧ HR ν (hdel σ.H i) w ∧ ν.pl = μ.pl ∧ ν.ln = μ.ln ∧ (∀ b l, ν.fz b = some l → μ.fz b = some l ∨ E.w.heap.size ≤ b ∨ E.may b) ∧ (∀ p, μ.pl i = some p → ∃ l, ν.fz p.block = some l ∧ VRs ν cs ((l.drop p.base).take cs.length)) := by
    cases hp : μ.pl i with
    | none => exact ⟨μ, .refl μ, hi.heap.del i, rfl, rfl, fun b l h => .inl h, fun p h => by cases h⟩
    | some p =>
      obtain ⟨c, t, g1, g2, g3, g4⟩ := hi.heap.own i cs hg p hp
      obtain ⟨h1, h2⟩ := hi.heap.freeze hg hp g1
      refine ⟨_, h1, h2, rfl, rfl, fun b l h => ?_, fun q hq => ?_⟩
      · by_cases e : b = p.block
        · subst e; exact .inr (hi.may i cs p hg hp)
        · have : (if b = p.block then some c.toList else μ.fz b) = some l := h
          rw [if_neg e] at this
          exact .inl this
      · obtain rfl := Option.some.inj hq
        refine ⟨c.toList, if_pos rfl, ?_⟩
        exact (rel_cells g4 (by omega)).mono h1
  have hget : ∀ j ds, hget (σ.freeze i cs).H j = some ds → ∃ es, hget (hdel σ.H i) j = some es ∧ ds = AV.frzs i cs es := fun j ds hj => by
    rw [show (σ.freeze i cs).H = frzH i cs (hdel σ.H i) from rfl, hget_frzH] at hj
    obtain ⟨es, h1, h2⟩ := Option.map_eq_some_iff.1 hj
    exact ⟨es, h1, h2.symm⟩
  refine ⟨ν, ⟨fun t => ?_, hi.size, hi.defers, ⟨fun j ds hj b hb => ?_, fun j ds hj hne => ?_, fun j k ds es hjk hj hk => ?_, hHR.rd, fun j ds b hj hb => ?_⟩, fun j hj => by rw [hpl]; exact hi.fresh j hj, fun j ds hj => ?_, hi.kept, fun j ds p hj hp' => ?_, fun b l h => ?_, fun b l h => hsub.rd false b l (hi.fzo b l h), hln.trans hi.lno.1, fun j hj => by rw [hpl]; exact hi.lno.2.1 j hj, hi.lno.2.2⟩, hsub⟩
  · rw [show (σ.freeze i cs).T = frzT i cs σ.T from rfl, tk_frzT]
    exact (hi.tmps t).frz hsub hp
  · obtain ⟨es, h1, rfl⟩ := hget j ds hj
    rw [hpl] at hb
    obtain ⟨c, t, g1, g2, g3, g4⟩ := hi.heap.own j es (hget_hdel h1).2 b hb
    refine ⟨c, t, g1, g2, by rw [frzs_map, List.length_map]; exact g3, fun m x hm => ?_⟩
    rw [frzs_map, List.getElem?_map] at hm
    obtain ⟨y, hy, rfl⟩ := Option.map_eq_some_iff.1 hm
    obtain ⟨z, hz, hv⟩ := g4 m y hy
    exact ⟨z, hz, hv.frz hsub hp⟩
  · obtain ⟨es, h1, rfl⟩ := hget j ds hj
    exact hHR.there j es h1 (fun e => hne (by rw [e]; rfl))
  · obtain ⟨ds', h1, _⟩ := hget j ds hj
    obtain ⟨es', h2, _⟩ := hget k es hk
    exact hHR.apart j k ds' es' hjk h1 h2
  · obtain ⟨ds', h1, _⟩ := hget j ds hj
    exact hHR.far j ds' b h1 hb
  · obtain ⟨ds', h1, _⟩ := hget j ds hj
    exact hi.low j ds' (hget_hdel h1).2
  · obtain ⟨ds', h1, _⟩ := hget j ds hj
    rw [hpl] at hp'
    exact hi.may j ds' p (hget_hdel h1).2 hp'
  · rcases hfz b l h with k | k
    · exact hi.fzn b l k
    · exact .inr k
theorem Gh.ghost : Gh E σ ⟨σ.T, σ.H ++ [(σ.nx, [])], σ.nx + 1⟩ := fun μ a w hi => ⟨μ, hi.ghost, .refl μ⟩
end
end Go.BH
