/- The picture by value, 7: names changed, blocks frozen, append, cuts. -/
import Derived.Test.YtdjfhggmcigahaaDoorB6
import Derived.Laws.Append
import Derived.Laws.AppendOwn
import Derived.ArgAppend
import Derived.Laws.IdiomCopy
import Derived.Laws.Slices
set_option linter.unusedVariables false
set_option linter.unusedSimpArgs false
namespace Go.BH
open Go.RowKit
theorem hdel_snoc {i n : Nat} {cs : List AV} (h : n ≠ i) : ∀ H : Hp, hdel (H ++ [(n, cs)]) i = hdel H i ++ [(n, cs)]
  | [] => by simp [hdel, beq_ne h]
  | (k, es) :: r => by
    simp only [List.cons_append, hdel]
    by_cases e : k = i
    · subst e; simp [hdel_snoc h r]
    · simp [beq_ne e, hdel_snoc h r]
theorem hdel_hput {i : Nat} {cs : List AV} : ∀ H : Hp, hdel (hput H i cs) i = hdel H i
  | [] => rfl
  | (k, es) :: r => by
    by_cases e : k = i
    · subst e; simp [hput, hdel]
    · simp [hput, hdel, beq_ne e, hdel_hput r]
theorem hdel_none : ∀ {H : Hp} {i j : Nat}, hget H j = none → hget (hdel H i) j = none := fun {H i j} h => by
  cases e : hget (hdel H i) j with
  | none => rfl
  | some cs => rw [(hget_hdel e).2] at h; cases h
section
variable {P : Program} {E : En} {σ : St} {o : Oper} {kp : Nat → Bool}
theorem INV.del {μ : Mu} {a : Act} {w : World} (h : INV E μ σ a w) (i : Nat) : INV E μ ⟨σ.T, hdel σ.H i, σ.nx⟩ a w := { h with
  heap := h.heap.del i
  low := fun j cs hj => h.low j cs (hget_hdel hj).2
  may := fun j cs p hj => h.may j cs p (hget_hdel hj).2 }
theorem INV.ghost {μ : Mu} {a : Act} {w : World} (h : INV E μ σ a w) : INV E μ ⟨σ.T, σ.H ++ [(σ.nx, [])], σ.nx + 1⟩ a w := by
  have hn := no_name h
  have hno := h.fresh σ.nx (Nat.le_refl _)
  have hcase : ∀ j ds, hget (σ.H ++ [(σ.nx, [])]) j = some ds → (j = σ.nx ∧ ds = []) ∨ hget σ.H j = some ds := fun j ds hj => by
    rw [hget_snoc hn] at hj
    by_cases e : j = σ.nx
    · rw [if_pos e] at hj; exact .inl ⟨e, (Option.some.inj hj).symm⟩
    · rw [if_neg e] at hj; exact .inr hj
  refine ⟨h.tmps, h.size, h.defers, ⟨fun j ds hj b hb => ?_, fun j ds hj hne => ?_, fun j k ds es hjk hj hk b d hb hd => ?_, h.heap.rd, fun j ds b hj hb => ?_⟩, fun j hj => h.fresh j (by simp only at hj; omega), fun j ds hj => ?_, h.kept, fun j ds p hj hp => ?_, h.fzn, h.fzo, h.lno.1, h.lno.2.1, Nat.le_succ_of_le h.lno.2.2⟩
  · rcases hcase j ds hj with ⟨rfl, rfl⟩ | hj
    · rw [hno] at hb; cases hb
    · exact h.heap.own j ds hj b hb
  · rcases hcase j ds hj with ⟨rfl, rfl⟩ | hj
    · exact absurd rfl hne
    · exact h.heap.there j ds hj hne
  · rcases hcase j ds hj with ⟨rfl, rfl⟩ | hj
    · rw [hno] at hb; cases hb
    · rcases hcase k es hk with ⟨rfl, rfl⟩ | hk
      · rw [hno] at hd; cases hd
      · exact h.heap.apart j k ds es hjk hj hk b d hb hd
  · rcases hcase j ds hj with ⟨rfl, rfl⟩ | hj
    · rw [hno] at hb; cases hb
    · exact h.heap.far j ds b hj hb
  · rcases hcase j ds hj with ⟨rfl, rfl⟩ | hj
    · exact Nat.lt_succ_self _
    · exact Nat.lt_succ_of_lt (h.low j ds hj)
  · rcases hcase j ds hj with ⟨rfl, rfl⟩ | hj
    · rw [hno] at hp; cases hp
    · exact h.may j ds p hj hp
/-- Block i under the next name. -/
theorem INV.rename {μ : Mu} {a : Act} {w : World} (h : INV E μ σ a w) {i : Nat} {cs : List AV} (hi : hget σ.H i = some cs) : ∃ μ', INV E μ' ⟨σ.T, hdel σ.H i ++ [(σ.nx, cs)], σ.nx + 1⟩ a w ∧ Sub μ μ' ∧ μ'.pl σ.nx = μ.pl i := by
  have hd := h.del i
  have hno := h.fresh σ.nx (Nat.le_refl _)
  cases hp : μ.pl i with
  | none =>
    have hcs : cs = [] := by
      cases cs with
      | nil => rfl
      | cons x xs =>
        obtain ⟨a, ha⟩ := h.heap.there i _ hi (by simp)
        rw [hp] at ha; cases ha
    subst hcs
    exact ⟨μ, hd.ghost, .refl μ, hno⟩
  | some p =>
    obtain ⟨c, t, g1, g2, g3, g4⟩ := h.heap.own i cs hi p hp
    refine ⟨μ.put σ.nx p, hd.name g1 g2 g3 g4 (fun j ds hj b hb => ?_) (fun l b ds hl => ?_) (Kept.refl _ _) (h.may i cs p hi hp), Mu.put_sub hno p, Mu.put_same _ _ _⟩
    · obtain ⟨hne, hj'⟩ := hget_hdel hj
      exact ⟨(h.heap.apart i j cs ds hne hi hj' p b hp hb).symm, rfl⟩
    · refine ⟨fun e => ?_, rfl⟩
      subst e
      rw [h.heap.far i cs p hi hp l] at hl
      cases hl
/-- A part of block i under the next name; the old name is gone. -/
theorem INV.window {μ : Mu} {a : Act} {w : World} (h : INV E μ σ a w) {i : Nat} {cs : List AV} (hi : hget σ.H i = some cs) (o n : Nat) (hon : o + n ≤ cs.length) : ∃ μ', INV E μ' ⟨σ.T, hdel σ.H i ++ [(σ.nx, (cs.drop o).take n)], σ.nx + 1⟩ a w ∧ Sub μ μ' ∧ (∀ p, μ.pl i = some p → μ'.pl σ.nx = some ⟨p.block, p.base + o, p.ext - o⟩) := by
  have hd := h.del i
  have hno := h.fresh σ.nx (Nat.le_refl _)
  cases hp : μ.pl i with
  | none =>
    have hcs : cs = [] := by
      cases cs with
      | nil => rfl
      | cons x xs =>
        obtain ⟨a, ha⟩ := h.heap.there i _ hi (by simp)
        rw [hp] at ha; cases ha
    subst hcs
    simp only [List.drop_nil, List.take_nil]
    exact ⟨μ, hd.ghost, .refl μ, fun p hp' => by cases hp'⟩
  | some p =>
    obtain ⟨c, t, g1, g2, g3, g4⟩ := h.heap.own i cs hi p hp
    refine ⟨μ.put σ.nx ⟨p.block, p.base + o, p.ext - o⟩, hd.name g1 (by simp only; omega) (by simp; omega) (fun j x hj => ?_) (fun j ds hj b hb => ?_) (fun l b ds hl => ?_) (Kept.refl _ _) (h.may i cs p hi hp), Mu.put_sub hno _, fun q hq => ?_⟩
    · obtain ⟨h1, h2⟩ := take_get hj
      obtain ⟨y, hy, hv⟩ := g4 _ x h1
      exact ⟨y, by rw [Nat.add_assoc]; exact hy, hv⟩
    · obtain ⟨hne, hj'⟩ := hget_hdel hj
      exact ⟨(h.heap.apart i j cs ds hne hi hj' p b hp hb).symm, rfl⟩
    · refine ⟨fun e => ?_, rfl⟩
      subst e
      rw [h.heap.far i cs p hi hp l] at hl
      cases hl
    · obtain rfl := Option.some.inj hq
      exact Mu.put_same _ _ _
theorem INV.extend1 {μ : Mu} {a : Act} {w : World} {i : Nat} {cs : List AV} (h : INV E μ σ a w) (hi : hget σ.H i = some cs) {b : Pl} (hb : μ.pl i = some b) (ho : cs.length < b.ext) {x : AV} {c : Value} (hx : VR μ x c) :
    INV E μ ⟨σ.T, hput σ.H i (cs ++ [x]), σ.nx⟩ a (w.setCell ⟨b.block, b.base + cs.length, none⟩ c) := by
  refine ⟨h.tmps, h.size, h.defers, h.heap.extend1 hi hb ho hx, h.fresh, fun j ds hj => ?_, ?_, fun j ds p hj hp => ?_, h.fzn, h.fzo, h.lno⟩
  · obtain ⟨es, hj'⟩ := hput_alive hj
    exact h.low j es hj'
  · refine ⟨h.kept.os, h.kept.tape, h.kept.output, by simpa [World.setCell] using h.kept.size, fun m hm hmm => ?_⟩
    rw [Below.heap_setCell]
    · exact h.kept.block m hm hmm
    · rintro rfl
      rcases h.may i cs b hi hb with g | g
      · simp only at hm; omega
      · exact hmm g
  · obtain ⟨es, hj'⟩ := hput_alive hj
    exact h.may j es p hj' hp
theorem INV.extend {μ : Mu} {a : Act} {i : Nat} {b : Pl} (hb : μ.pl i = some b) : ∀ (xs : List AV) (vs : List Value) (σ : St) (w : World) (cs : List AV), INV E μ σ a w → hget σ.H i = some cs → cs.length + xs.length ≤ b.ext → VRs μ xs vs →
    INV E μ ⟨σ.T, hput σ.H i (cs ++ xs), σ.nx⟩ a (w.setCells b.block (b.base + cs.length) vs) ∧ ∀ m, m ≠ b.block → (w.setCells b.block (b.base + cs.length) vs).heap[m]? = w.heap[m]?
  | [], _, σ, w, cs, hi, hg, hlen, .nil => by
    rw [List.append_nil, hput_same hg]
    exact ⟨hi, fun _ _ => rfl⟩
  | x :: xs, v :: vs, σ, w, cs, hi, hg, hlen, .cons hx k => by
    simp only [List.length_cons] at hlen
    have h1 := hi.extend1 hg hb (by omega) hx
    have hg' : hget (hput σ.H i (cs ++ [x])) i = some (cs ++ [x]) := hget_hput_same (by rw [hg]; simp)
    have h2 := INV.extend hb xs vs ⟨σ.T, hput σ.H i (cs ++ [x]), σ.nx⟩ _ (cs ++ [x]) h1 hg' (by simp; omega) k
    simp only [hput_put, List.append_assoc, List.singleton_append, List.length_append, List.length_cons, List.length_nil, Nat.zero_add] at h2
    refine ⟨h2.1, fun m hm => ?_⟩
    rw [show (w.setCells b.block (b.base + cs.length) (v :: vs)) = (w.setCell ⟨b.block, b.base + cs.length, none⟩ v).setCells b.block (b.base + (cs.length + 1)) vs from rfl, h2.2 m hm]
    exact Below.heap_setCell _ _ _ _ hm
/-- What is appended: m elements of s cells each. -/
inductive Src (σ : St) (s : Nat) : AV → Nat → List AV → Prop where
  | sl {i k m : Nat} {cs : List AV} (hg : hget σ.H i = some cs) (h : k + m * s ≤ cs.length) : Src σ s (.sl i k m s) m ((cs.drop k).take (m * s))
  | fz {l : Bool} {m : Nat} {xs : List AV} (h : xs.length = m * s) : Src σ s (.fz l s m xs) m xs
  | nil : Src σ s (.v (.slice none 0 0)) 0 []
  | e0 : Src σ s .e0 0 []
theorem Src.val {μ : Mu} {a : Act} {w : World} (hi : INV E μ σ a w) {s m : Nat} {x : AV} {news : List AV} (h : Src σ s x m news) {c : Value} (hv : VR μ x c) :
    ∃ b n l, c = .slice b m n ∧ l.length = m * s ∧ VRs μ news l ∧ (0 < m * s → ∃ p, b = some p ∧ ∀ (j : Nat) (v : Value), l[j]? = some v → w.cell? (p.add j) = some v) := by
  cases h with
  | @sl i k _ cs hg hk =>
    rcases Nat.eq_zero_or_pos (m * s) with e | e
    · have hnil : (cs.drop k).take (m * s) = [] := by rw [e]; simp
      rw [hnil]
      cases hv
      · exact ⟨_, _, [], rfl, by simp [e], .nil, by omega⟩
      · exact ⟨_, _, [], rfl, by simp, .nil, by omega⟩
    · obtain ⟨b, hb⟩ := hi.heap.there i cs hg (fun h0 => by rw [h0] at hk; simp at hk; omega)
      obtain ⟨c0, t0, g1, g2, g3, g4⟩ := hi.heap.own i cs hg b hb
      have hrel := (rel_cells g4 (by omega)).seg k (m * s)
      rw [take_drop_take _ _ _ _ hk, List.drop_drop] at hrel
      obtain ⟨hll, hcell⟩ := seg_cells (w := w) (k := b.base + k) (n := m * s) g1 (by omega)
      cases hv with
      | sl hm hcap he =>
        rename_i d
        obtain rfl : b = d := Option.some.inj (hb.symm.trans hm)
        exact ⟨_, _, _, rfl, hll, hrel, fun _ => ⟨_, rfl, fun j v hj => by rw [addr_add]; exact hcell j v hj⟩⟩
      | sl0 => omega
  | fz hl =>
    cases hv with
    | @fz _ _ _ cap off b cs _ hr hl' hcap hk =>
      obtain ⟨c0, t0, r0, g1, g2⟩ := hi.heap.rd _ _ _ hr
      subst g2
      have hlen := hk.length
      refine ⟨_, _, _, rfl, by rw [hlen, hl], hk, fun _ => ⟨_, rfl, fun j v hj => ?_⟩⟩
      obtain ⟨h1, h2⟩ := take_get hj
      rw [addr_add]
      exact cell_of g1 (by simpa using h1)
    | fz0 A c => exact ⟨_, _, [], rfl, by simp, .nil, by omega⟩
  | nil => cases hv; exact ⟨_, _, [], rfl, by simp, .nil, by omega⟩
  | e0 => cases hv; exact ⟨_, _, [], rfl, by simp, .nil, by omega⟩
theorem run_append_zero {P : Program} {t ty e : TypeId} {i : TypeInfo} (ht : P.underlying t = some (.slice e)) (hs : P.info? e = some i) (b b' : Option Addr) (n c c' : Nat) (hc : n ≤ c) (w : World) :
    (Builtin.append_ #[t, t] ty #[.slice b n c, .slice b' 0 c']).run P w = .ok (.slice b n c) w := by
  cases b' <;> cases b <;> simp [Builtin.append_, run_underlying ht, run_sizeOf' hs, Builtin.lenOf, Builtin.firstCells, hc, storeCells, loadCells, loadCellsFrom]
theorem run_bi {P : Program} {t : TypeId} {ρ : Operand → Value} {o : Oper} {x y : Operand} (ho : o.op = .call ⟨.builtin .append, #[x, y], #[t, t]⟩) (w : World) :
    (execOp ρ o).run P w = ((do pure (.value (← Builtin.append_ #[t, t] o.type #[ρ x, ρ y])) : Sem Next)).run P w := by
  simp [execOp, ho, resolve, invoke, builtin]
theorem grown_ext {z : Value} {s m c k : Nat} (hz : z.cells.size = s) (hk : k = m * s) (hc : m ≤ c) : 0 + c * s ≤ k + (Builtin.zeroCells z.cells (c - m)).size := by
  rw [size_zeroCells, hz, hk, ← Nat.add_mul]
  have : m + (c - m) = c := by omega
  rw [this]
  omega
theorem INV.drew' {μ : Mu} {a : Act} {w : World} (h : INV E μ σ a w) : INV E μ σ a w.drew := h.drew
/-- An append to nothing: a new block. -/
theorem OS.appendNew {x y : Operand} {t et : TypeId} {info : TypeInfo} {z : Value} {m : Nat} {news : List AV} (ho : o.op = .call ⟨.builtin .append, #[x, y], #[t, t]⟩) (ht : P.underlying t = some (.slice et)) (hs : P.info? et = some info) (hz : info.zero = some z) (hzs : z.cells.size = info.size) (h0 : info.size ≠ 0) (hx : σ.ev x = .v (.slice none 0 0) ∨ σ.ev x = .e0) (hy : Src σ info.size (σ.ev y) m news) (hones : ones news = true) (hm : m < 9223372036854775808) (hbytes : m * info.bytes ≤ 140737488355328) (hk : ∀ j, kp j = true → (hget σ.H j).isSome = true) :
    OS P E kp o σ (.sl σ.nx 0 m info.size) ⟨σ.T, σ.H ++ [(σ.nx, news)], σ.nx + 1⟩ := fun μ a w hi => by
  have hvx := hi.ev x
  have hvy := hi.ev y
  obtain ⟨b, n, l, hc, hl, hr, hp⟩ := hy.val hi hvy
  have hA : ∃ A, a.eval x = .slice A 0 0 := by
    rcases hx with e | e <;> rw [e] at hvx <;> (generalize a.eval x = cx at hvx ⊢; cases hvx) <;> exact ⟨_, rfl⟩
  obtain ⟨A, hcx⟩ := hA
  rcases Nat.eq_zero_or_pos m with rfl | hpos
  · have hl0 : l = [] := by simpa using hl
    subst hl0
    have hnews : news = [] := by cases hr; rfl
    subst hnews
    refine ⟨a.eval x, w, μ, ?_, ?_, hi.ghost, .refl _ _ _⟩
    · rw [run_bi ho, hc, hcx]
      simp [run_append_zero ht hs]
    · rw [hcx]; exact .sl0 _
  · obtain ⟨p, rfl, hcells⟩ := hp (Nat.mul_pos hpos (Nat.pos_of_ne_zero h0))
    have hal := hi.drew.alloc hr (Builtin.zeroCells z.cells (grownCap w m 0 et - m)) et
    refine ⟨.slice (some ⟨w.heap.size, 0, none⟩) m (grownCap w m 0 et), _, _, ?_, .sl (o := 0) (Mu.put_same _ _ _) (grownCap_ge w m 0 et) (grown_ext hzs hl (grownCap_ge w m 0 et)), hal, (smk_alloc hi.drew hk _ _).drew⟩
    rw [run_bi ho, hc, hcx]
    cases A with
    | none =>
      have hrun := run_append_nil (P := P) w t o.type et info z ht hs hz p m n l hl hcells hpos (by omega) (by omega)
      simp only [Sem.run_bind, hrun, Result.andThen_ok, Sem.run_pure]
    | some q =>
      have hrun := run_append_grow (P := P) w t o.type et info z ht hs hz q 0 0 [] (by simp) (by simp) p m n l hl hcells (by omega) (by omega) (growslice_fits (by omega) (by simpa using hbytes))
      simp only [Nat.zero_add] at hrun
      simp only [Sem.run_bind, hrun, Result.andThen_ok, Sem.run_pure]
      simp
/-- An append to a block of the call's own: the result has a new name, the old one is gone. -/
theorem OS.appendTo {x y : Operand} {t et : TypeId} {info : TypeInfo} {z : Value} {i n m : Nat} {cs news : List AV} (ho : o.op = .call ⟨.builtin .append, #[x, y], #[t, t]⟩) (ht : P.underlying t = some (.slice et)) (hs : P.info? et = some info) (hz : info.zero = some z) (hzs : z.cells.size = info.size) (h0 : info.size ≠ 0) (hx : σ.ev x = .sl i 0 n info.size) (hg : hget σ.H i = some cs) (hcs : cs.length = n * info.size) (hy : Src σ info.size (σ.ev y) m news) (hones : ones news = true)
    (hm : n + m < 9223372036854775808) (hbytes : (n + m) * info.bytes ≤ 140737488355328) (hkp : ∀ j, kp j = true → (hget σ.H j).isSome = true ∧ j ≠ i) :
    OS P E kp o σ (.sl σ.nx 0 (n + m) info.size) ⟨σ.T, hdel σ.H i ++ [(σ.nx, cs ++ news)], σ.nx + 1⟩ := fun μ a w hi => by
  have hvx := hi.ev x
  have hvy := hi.ev y
  have hne : σ.nx ≠ i := fun e => by have := hi.low i cs hg; omega
  obtain ⟨b, n', l, hc, hl, hr, hp⟩ := hy.val hi hvy
  rw [hx] at hvx
  rcases Nat.eq_zero_or_pos m with rfl | hpos
  · have hl0 : l = [] := by simpa using hl
    subst hl0
    have hnews : news = [] := by cases hr; rfl
    subst hnews
    rw [List.append_nil, Nat.add_zero]
    obtain ⟨μ', h1, h2, h3⟩ := hi.rename hg
    generalize hcx : a.eval x = cx at hvx
    refine ⟨cx, w, μ', ?_, ?_, h1, h2, .refl _ _ _⟩
    · rw [run_bi ho, hc, hcx]
      cases hvx with
      | sl hm' hcap he => simp [run_append_zero ht hs _ _ _ _ _ hcap]
      | sl0 => simp [run_append_zero ht hs]
    · cases hvx with
      | sl hm' hcap he => exact .sl (h3.trans hm') hcap he
      | sl0 A => exact .sl0 A
  · obtain ⟨p, rfl, hcells⟩ := hp (Nat.mul_pos hpos (Nat.pos_of_ne_zero h0))
    generalize hcx : a.eval x = cx at hvx
    cases hvx with
    | @sl _ _ _ cap _ q hm' hcap he =>
      obtain ⟨c0, t0, h2, h3, h4, h5⟩ := hi.heap.own i cs hg q hm'
      by_cases hroom : n + m ≤ cap
      · -- in its room
        have hle : (n + m) * info.size ≤ cap * info.size := Nat.mul_le_mul_right _ hroom
        rw [Nat.add_mul] at hle
        have hlr := hr.length
        have hin : ∀ j, j < l.length → (w.cell? ⟨q.block, q.base + 0 + n * info.size + j, none⟩).isSome = true := fun j hj => by
          simp only [World.cell?, h2, Option.isSome_none, Bool.false_eq_true, if_false]
          have hlt : q.base + 0 + n * info.size + j < c0.size := by omega
          rw [Array.getElem?_eq_getElem hlt]; rfl
        have hrun := run_append_room_cells (P := P) (w := w) t o.type et info ht hs q.block (q.base + 0) n cap p m n' l hl hcells (hr.ones (ones_iff.1 hones)) hroom hin (fun j _ => by simp [World.frozen?, h2])
        have hext := INV.extend hm' news l σ w cs hi hg (by omega) hr
        rw [hcs] at hext
        obtain ⟨μ', g1, g2, g3⟩ := hext.1.rename (i := i) (cs := cs ++ news) (hget_hput_same (by rw [hg]; simp))
        rw [hdel_hput] at g1
        refine ⟨.slice (some ⟨q.block, q.base + 0, none⟩) (n + m) cap, _, μ', ?_, .sl (o := 0) (g3.trans hm') hroom he, g1, g2, fun j hj r hr' => ?_, fun l' r rs hr' => ?_⟩
        · rw [run_bi ho, hc, hcx]
          simp only [Nat.add_zero] at hrun ⊢
          simp only [Sem.run_bind, hrun, Result.andThen_ok, Sem.run_pure]
        · obtain ⟨k1, k2⟩ := hkp j hj
          obtain ⟨ds, hds⟩ := Option.isSome_iff_exists.1 k1
          exact hext.2 _ (fun e => hi.heap.apart i j cs ds (Ne.symm k2) hg hds q r hm' hr' e.symm)
        · refine hext.2 _ (fun e => ?_)
          subst e
          rw [hi.heap.far i cs q hg hm' l'] at hr'
          cases hr'
      · -- a new block
        have hro := rel_cells h5 (by omega)
        have hrun := run_append_grow (P := P) w t o.type et info z ht hs hz ⟨q.block, q.base + 0, none⟩ n cap ((c0.toList.drop q.base).take cs.length) (by simp; omega) (fun j v hj => by
          rw [addr_add, Nat.add_zero]
          have : j < cs.length := by
            rcases Nat.lt_or_ge j cs.length with g | g
            · exact g
            · rw [List.getElem?_eq_none (by simp; omega)] at hj; cases hj
          rw [List.getElem?_take_of_lt this, List.getElem?_drop] at hj
          exact cell_of h2 (by simpa using hj)) p m n' l hl hcells (by omega) (by omega) (growslice_fits (by omega) hbytes)
        have hal := (hi.drew.alloc (hro.append hr) (Builtin.zeroCells z.cells (grownCap w (n + m) cap et - (n + m))) et).del i
        rw [hdel_snoc hne] at hal
        refine ⟨.slice (some ⟨w.heap.size, 0, none⟩) (n + m) (grownCap w (n + m) cap et), _, _, ?_, ?_, hal, (smk_alloc hi.drew (fun j hj => (hkp j hj).1) _ _).drew⟩
        · rw [run_bi ho, hc, hcx]
          simp only [Sem.run_bind, hrun, Result.andThen_ok, Sem.run_pure]
          simp
        · exact .sl (o := 0) (Mu.put_same _ _ _) (grownCap_ge w _ _ et) (grown_ext hzs (by rw [List.length_append, hl, Nat.add_mul]; simp; omega) (grownCap_ge w _ _ et))
    | sl0 A =>
      have hcs0 : cs = [] := List.eq_nil_of_length_eq_zero (by rw [hcs]; simp)
      subst hcs0
      have hal := (hi.drew.alloc hr (Builtin.zeroCells z.cells (grownCap w m 0 et - m)) et).del i
      rw [hdel_snoc hne] at hal
      simp only [Nat.zero_add, List.nil_append] at hbytes ⊢
      refine ⟨.slice (some ⟨w.heap.size, 0, none⟩) m (grownCap w m 0 et), _, _, ?_, ?_, hal, (smk_alloc hi.drew (fun j hj => (hkp j hj).1) _ _).drew⟩
      · rw [run_bi ho, hc, hcx]
        cases A with
        | none =>
          have hrun := run_append_nil (P := P) w t o.type et info z ht hs hz p m n' l hl hcells hpos (by omega) (by omega)
          simp only [Sem.run_bind, hrun, Result.andThen_ok, Sem.run_pure]
        | some q =>
          have hrun := run_append_grow (P := P) w t o.type et info z ht hs hz q 0 0 [] (by simp) (by simp) p m n' l hl hcells (by omega) (by omega) (growslice_fits (by omega) (by simpa using hbytes))
          simp only [Nat.zero_add] at hrun
          simp only [Sem.run_bind, hrun, Result.andThen_ok, Sem.run_pure]
          simp
      · exact .sl (o := 0) (Mu.put_same _ _ _) (grownCap_ge w m 0 et) (grown_ext hzs hl (grownCap_ge w m 0 et))
end
end Go.BH
