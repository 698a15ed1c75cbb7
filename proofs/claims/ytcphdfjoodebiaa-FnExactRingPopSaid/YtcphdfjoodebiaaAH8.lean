/- The plain picture of a call's memory, 8: append. -/
import Derived.Test.YtcphdfjoodebiaaAH7
import Derived.Laws.Append
import Derived.Laws.AppendOwn
import Derived.ArgAppend
import Derived.Laws.IdiomCopy
set_option linter.unusedVariables false
set_option linter.unusedSimpArgs false
namespace Go.AH
open Go.RowKit
section
variable {base : Nat} {μ : Id → Option Pl} {H : Hp} {w : World}
/-- One cell more of the room that a block has. -/
theorem HR.extend1 {i : Id} {cs : List AV} (h : HR base μ H w) (hi : H.get i = .own cs) {a : Pl} (ha : μ i = some a) (ho : cs.length < a.ext) {x : AV} {c : Value} (hx : VR μ x c) (hn : x.noL = true) :
    HR base μ (H.put i (cs ++ [x])) (w.setCell ⟨a.block, a.off + cs.length, none⟩ c) := by
  have hal : (H.get i).alive = true := by rw [hi]; rfl
  have how : (H.get i).isOwn = true := by rw [hi]; rfl
  obtain ⟨hb, ⟨c0, t0, hroom, hsz⟩, hext⟩ := h.own i how a ha
  have hne : ∀ k, k ≠ a.block → (w.setCell ⟨a.block, a.off + cs.length, none⟩ c).heap[k]? = w.heap[k]? := fun k hk => Below.heap_setCell _ _ _ _ hk
  have hself : (w.setCell ⟨a.block, a.off + cs.length, none⟩ c).heap[a.block]? = some (.cells (c0.setIfInBounds (a.off + cs.length) c) t0 (0, 0)) := by
    simp only [World.setCell, Array.getElem?_modify, if_true, hroom]
    rfl
  have hall : ∀ j, ((H.put i (cs ++ [x])).get j).alive = true → (H.get j).alive = true := fun j hj => by
    by_cases e : i = j
    · subst e; exact hal
    · rw [get_put_ne e] at hj; exact hj
  have hown : ∀ j, ((H.put i (cs ++ [x])).get j).isOwn = true → (H.get j).isOwn = true := fun j hj => by
    by_cases e : i = j
    · subst e; exact how
    · rw [get_put_ne e] at hj; exact hj
  refine ⟨fun j hj => ?_, fun j hj b hjb => ?_, fun j k hjk hj hk b d hb hd => h.apart j k hjk (hown j hj) (hall k hk) b d hb hd, fun j y hy => ?_, fun j b hb => ?_⟩
  · by_cases e : i = j
    · subst e
      refine ⟨a, ha, by simpa [World.setCell] using h.old i a ha, ?_⟩
      rw [get_put_same hal]
      intro m y hm
      by_cases em : m < cs.length
      · simp only [Blk.cells, List.getElem?_append_left em] at hm
        have hne0 : (H.get i).cells ≠ [] := by rw [hi]; rintro e; rw [show cs = [] from e] at em; simp at em
        obtain ⟨a', ha', _, hat⟩ := h.there i hne0
        obtain rfl : a' = a := Option.some.inj (ha'.symm.trans ha)
        obtain ⟨z, hz, hv⟩ := hat m y (by rw [hi]; exact hm)
        refine ⟨z, ?_, hv⟩
        simp only [World.cell?, hroom, hself, Option.isSome_none, Bool.false_eq_true, if_false] at hz ⊢
        rw [Array.getElem?_setIfInBounds_ne (by omega)]
        exact hz
      · have em' : m = cs.length := by
          have : m < (cs ++ [x]).length := by
            rcases Nat.lt_or_ge m (cs ++ [x]).length with g | g
            · exact g
            · rw [show (Blk.own (cs ++ [x])).cells = cs ++ [x] from rfl, List.getElem?_eq_none g] at hm; cases hm
          simp at this
          omega
        subst em'
        simp [Blk.cells] at hm
        subst hm
        refine ⟨c, ?_, hx⟩
        simp only [World.cell?, hself, Option.isSome_none, Bool.false_eq_true, if_false]
        rw [Array.getElem?_setIfInBounds_self_of_lt (by omega)]
    · rw [get_put_ne e] at hj ⊢
      obtain ⟨b, hb', hl, hat⟩ := h.there j hj
      refine ⟨b, hb', by simpa [World.setCell] using hl, hat.mono (fun m => cell_block (hne _ ?_)) (fun _ _ _ k => k)⟩
      exact (h.apart i j e how (alive_of hj) a b ha hb').symm
  · by_cases e : i = j
    · subst e
      obtain rfl : b = a := Option.some.inj (hjb.symm.trans ha)
      rw [get_put_same hal]
      refine ⟨hb, ⟨_, t0, hself, by simpa using hsz⟩, ?_⟩
      simp [Blk.cells]
      omega
    · rw [get_put_ne e] at hj ⊢
      obtain ⟨h1, ⟨c1, t1, h2, h3⟩, h4⟩ := h.own j hj b hjb
      exact ⟨h1, ⟨c1, t1, (hne _ (h.apart i j e how (alive_own hj) a b ha hjb).symm).trans h2, h3⟩, h4⟩
  · by_cases e : i = j
    · subst e
      rw [get_put_same hal] at hy
      rcases List.mem_append.1 hy with g | g
      · exact h.clean i y (by rw [hi]; exact g)
      · rw [List.mem_singleton.1 g]; exact hn
    · rw [get_put_ne e] at hy
      exact h.clean j y hy
  · simpa [World.setCell] using h.old j b hb
end
section
variable {P : Program} {base : Nat} {E : En} {σ : St} {o : Oper} {kp : Id → Bool}
theorem INV.extend1 {μ : Id → Option Pl} {a : Act} {w : World} {i : Id} {cs : List AV} (h : INV base E μ σ a w) (hi : σ.H.get i = .own cs) (hl : E.mine i) {b : Pl} (hb : μ i = some b) (ho : cs.length < b.ext) {x : AV} {c : Value} (hx : VR μ x c) (hn : x.noL = true) :
    INV base E μ ⟨σ.T, σ.H.put i (cs ++ [x])⟩ a (w.setCell ⟨b.block, b.off + cs.length, none⟩ c) := by
  have hal : (σ.H.get i).alive = true := by rw [hi]; rfl
  have how : (σ.H.get i).isOwn = true := by rw [hi]; rfl
  have hl' : E.lets i := by
    cases i with
    | g n => exact .inl hl
    | l n => trivial
  refine ⟨h.tmps, h.size, h.defers, h.heap.extend1 hi hb ho hx hn, fun n hlen => h.fresh n ?_, by simpa [World.setCell] using h.le, h.same, ?_, fun j hj hne d hd => ?_, ?_⟩
  · cases i with
    | g m => simpa [Hp.put] using hlen
    | l m => exact hlen
  · refine ⟨h.kept.os, h.kept.tape, h.kept.output, by simpa [World.setCell] using h.kept.size, fun m hm hmm => ?_⟩
    rw [Below.heap_setCell]
    · exact h.kept.block m hm hmm
    · rintro rfl
      rcases h.lets how hl' hb with g | g
      · simp only at hm; omega
      · exact hmm g
  · by_cases e : i = j
    · subst e; exact h.new i hal hne d hd
    · rw [get_put_ne e] at hj; exact h.new j hj hne d hd
  · cases i with
    | g m => simpa [Hp.put] using h.len
    | l m => exact h.len
theorem put_same {H : Hp} {i : Id} {cs : List AV} (h : H.get i = .own cs) : ∀ j, (H.put i cs).get j = H.get j := fun j => by
  by_cases e : i = j
  · subst e; rw [get_put_same (by rw [h]; rfl), h]
  · rw [get_put_ne e]
/-- A heap that reads alike. -/
theorem INV.heapEq {μ : Id → Option Pl} {a : Act} {w : World} {H' : Hp} (hi : INV base E μ σ a w) (hH : ∀ j, H'.get j = σ.H.get j) (hlen : H'.g.length = σ.H.g.length) : INV base E μ ⟨σ.T, H'⟩ a w := by
  refine ⟨hi.tmps, hi.size, hi.defers, ⟨fun m hm => ?_, fun m hm => ?_, fun m n hmn hm hn => ?_, fun m x hx => ?_, hi.heap.old⟩, fun n hn => hi.fresh n (by rw [← hlen]; exact hn), hi.le, hi.same, hi.kept, fun m hm => ?_, by rw [show (⟨σ.T, H'⟩ : St).H.g.length = σ.H.g.length from hlen]; exact hi.len⟩
  · simp only [hH] at hm ⊢; exact hi.heap.there m hm
  · simp only [hH] at hm ⊢; exact hi.heap.own m hm
  · simp only [hH] at hm hn; exact hi.heap.apart m n hmn hm hn
  · simp only [hH] at hx; exact hi.heap.clean m x hx
  · simp only [hH] at hm; exact hi.new m hm
theorem put_g_len (H : Hp) (i : Id) (cs : List AV) : (H.put i cs).g.length = H.g.length := by cases i <;> simp [Hp.put]
theorem INV.extend {μ : Id → Option Pl} {a : Act} {i : Id} (hl : E.mine i) {b : Pl} (hb : μ i = some b) : ∀ (xs : List AV) (vs : List Value) (σ : St) (w : World) (cs : List AV), INV base E μ σ a w → σ.H.get i = .own cs → cs.length + xs.length ≤ b.ext → VRs μ xs vs → (∀ y ∈ xs, y.noL = true) →
    INV base E μ ⟨σ.T, σ.H.put i (cs ++ xs)⟩ a (w.setCells b.block (b.off + cs.length) vs) ∧ ∀ m, m ≠ b.block → (w.setCells b.block (b.off + cs.length) vs).heap[m]? = w.heap[m]?
  | [], _, σ, w, cs, hi, hg, hlen, .nil, _ => by
    rw [List.append_nil]
    exact ⟨hi.heapEq (put_same hg) (put_g_len _ _ _), fun _ _ => rfl⟩
  | x :: xs, v :: vs, σ, w, cs, hi, hg, hlen, .cons hx k, hn => by
    simp only [List.length_cons] at hlen
    have h1 := hi.extend1 hg hl hb (by omega) hx (hn x List.mem_cons_self)
    have hg' : (σ.H.put i (cs ++ [x])).get i = .own (cs ++ [x]) := get_put_same (by rw [hg]; rfl) _
    have h2 := INV.extend hl hb xs vs ⟨σ.T, σ.H.put i (cs ++ [x])⟩ _ (cs ++ [x]) h1 hg' (by simp; omega) k (fun y hy => hn y (List.mem_cons_of_mem _ hy))
    simp only [put_put, List.append_assoc, List.singleton_append, List.length_append, List.length_cons, List.length_nil, Nat.zero_add, ← Nat.add_assoc] at h2
    refine ⟨h2.1, fun m hm => ?_⟩
    rw [show (w.setCells b.block (b.off + cs.length) (v :: vs)) = (w.setCell ⟨b.block, b.off + cs.length, none⟩ v).setCells b.block (b.off + cs.length + 1) vs from rfl, h2.2 m hm]
    exact Below.heap_setCell _ _ _ _ hm
/-- What is appended: m elements of s cells each. -/
inductive Src (σ : St) (s : Nat) : AV → Nat → List AV → Prop where
  | sl {i : Id} {k m : Nat} (h : k + m * s ≤ (σ.H.get i).cells.length) : Src σ s (.sl i k m s) m (((σ.H.get i).cells.drop k).take (m * s))
  | nil : Src σ s (.v (.slice none 0 0)) 0 []
  | e0 : Src σ s .e0 0 []
theorem Src.val {μ : Id → Option Pl} {a : Act} {w : World} (hi : INV base E μ σ a w) {s m : Nat} {x : AV} {news : List AV} (h : Src σ s x m news) {c : Value} (hv : VR μ x c) :
    ∃ b n l, c = .slice b m n ∧ l.length = m * s ∧ VRs μ news l ∧ (0 < m * s → ∃ p, b = some p ∧ ∀ (j : Nat) (v : Value), l[j]? = some v → w.cell? (p.add j) = some v) := by
  cases h with
  | sl hk =>
    rename_i i k
    rcases Nat.eq_zero_or_pos (m * s) with e | e
    · have hnil : ((σ.H.get i).cells.drop k).take (m * s) = [] := by rw [e]; simp
      rw [hnil]
      cases hv
      · exact ⟨_, _, [], rfl, by simp [e], .nil, by omega⟩
      · exact ⟨_, _, [], rfl, by simp, .nil, by omega⟩
      · exact ⟨_, _, [], rfl, by simp, .nil, by omega⟩
    · obtain ⟨b, hb, hl, hat⟩ := hi.heap.there i (fun h0 => by rw [h0] at hk; simp at hk; omega)
      obtain ⟨l, hll, hr, hc⟩ := hat.seg hk
      cases hv with
      | sl hm hcap he =>
        rename_i d
        obtain rfl : b = d := Option.some.inj (hb.symm.trans hm)
        exact ⟨_, _, l, rfl, hll, hr, fun _ => ⟨_, rfl, fun j v hj => by rw [addr_add, Nat.add_assoc]; exact hc j v hj⟩⟩
      | sl0 => omega
      | nl => omega
  | nil => cases hv; exact ⟨_, _, [], rfl, by simp, .nil, by omega⟩
  | e0 => cases hv; exact ⟨_, _, [], rfl, by simp, .nil, by omega⟩
theorem run_append_zero {P : Program} {t ty e : TypeId} {i : TypeInfo} (ht : P.underlying t = some (.slice e)) (hs : P.info? e = some i) (b b' : Option Addr) (n c c' : Nat) (hc : n ≤ c) (w : World) :
    (Builtin.append_ #[t, t] ty #[.slice b n c, .slice b' 0 c']).run P w = .ok (.slice b n c) w := by
  cases b' <;> cases b <;> simp [Builtin.append_, run_underlying ht, run_sizeOf' hs, Builtin.lenOf, Builtin.firstCells, hc, storeCells, loadCells, loadCellsFrom]
theorem INV.kill {μ : Id → Option Pl} {a : Act} {w : World} (h : INV base E μ σ a w) (i : Id) : INV base E μ ⟨killI i σ.T, σ.H⟩ a w := { h with tmps := fun t => (h.tmps t).killI (fun _ _ _ k => k) t }
theorem run_bi {P : Program} {t : TypeId} {ρ : Operand → Value} {o : Oper} {x y : Operand} (ho : o.op = .call ⟨.builtin .append, #[x, y], #[t, t]⟩) (w : World) :
    (execOp ρ o).run P w = ((do pure (.value (← Builtin.append_ #[t, t] o.type #[ρ x, ρ y])) : Sem Next)).run P w := by
  simp [execOp, ho, resolve, invoke, builtin]
theorem grown_ext {z : Value} {s m c k : Nat} (hz : z.cells.size = s) (hk : k = m * s) (hc : m ≤ c) : 0 + c * s ≤ k + (Builtin.zeroCells z.cells (c - m)).size := by
  rw [size_zeroCells, hz, hk, ← Nat.add_mul]
  have : m + (c - m) = c := by omega
  rw [this]
  omega
/-- An append to nothing: a new block. -/
theorem OS.appendNew {x y : Operand} {t et : TypeId} {info : TypeInfo} {z : Value} {m : Nat} {news : List AV} (ho : o.op = .call ⟨.builtin .append, #[x, y], #[t, t]⟩) (ht : P.underlying t = some (.slice et)) (hs : P.info? et = some info) (hz : info.zero = some z) (hzs : z.cells.size = info.size) (h0 : info.size ≠ 0) (hx : σ.ev x = .v (.slice none 0 0) ∨ σ.ev x = .e0) (hy : Src σ info.size (σ.ev y) m news) (hones : onesB news = true) (hm : m < 9223372036854775808) (hbytes : m * info.bytes ≤ 140737488355328) :
    OS P base E kp o σ (.sl (.g σ.H.g.length) 0 m info.size) ⟨σ.T, σ.H.push (.own news)⟩ := fun μ a w hi => by
  have hvx := hi.ev x
  have hvy := hi.ev y
  obtain ⟨b, n, l, hc, hl, hr, hp⟩ := hy.val hi hvy
  rcases Nat.eq_zero_or_pos m with rfl | hpos
  · have hl0 : l = [] := by simpa using hl
    subst hl0
    have hnews : news = [] := by cases hr; rfl
    subst hnews
    refine ⟨a.eval x, w, μ, ?_, ?_, hi.ghost, .refl _ _ _⟩
    · rw [run_bi ho, hc]
      rcases hx with e | e <;> rw [e] at hvx <;> (generalize hcx : a.eval x = cx at hvx; cases hvx) <;> simp [run_append_zero ht hs]
    · rcases hx with e | e <;> rw [e] at hvx <;> (generalize hcx : a.eval x = cx at hvx; cases hvx)
      · exact .nl
      · exact .sl0 _
  · obtain ⟨p, rfl, hcells⟩ := hp (Nat.mul_pos hpos (Nat.pos_of_ne_zero h0))
    have hal := hi.drew.alloc hr (fun y hy => (onesB_iff.1 hones y hy).2) (Builtin.zeroCells z.cells (grownCap w m 0 et - m)) et
    rcases hx with e | e
    · rw [e] at hvx
      have hrun := run_append_nil (P := P) w t o.type et info z ht hs hz p m n l hl hcells hpos (by omega) (by omega)
      refine ⟨.slice (some ⟨w.heap.size, 0, none⟩) m (grownCap w m 0 et), _, _, ?_, ?_, hal, smk_push hi.drew _ _⟩
      · rw [run_bi ho, hc, hvx.val]
        simp only [Sem.run_bind, hrun, Result.andThen_ok, Sem.run_pure]
      · exact .sl (o := 0) (place_same _ _ _) (grownCap_ge w m 0 et) (grown_ext hzs hl (grownCap_ge w m 0 et))
    · rw [e] at hvx
      generalize hcx : a.eval x = cx at hvx
      cases hvx with
      | e0 q =>
        have hrun := run_append_grow (P := P) w t o.type et info z ht hs hz q 0 0 [] (by simp) (by simp) p m n l hl hcells (by omega) (by omega) (growslice_fits (by omega) (by simpa using hbytes))
        simp only [Nat.zero_add] at hrun
        refine ⟨.slice (some ⟨w.heap.size, 0, none⟩) m (grownCap w m 0 et), _, _, ?_, ?_, hal, smk_push hi.drew _ _⟩
        · rw [run_bi ho, hc, hcx]
          simp only [Sem.run_bind, hrun, Result.andThen_ok, Sem.run_pure]
          simp
        · exact .sl (o := 0) (place_same _ _ _) (grownCap_ge w m 0 et) (grown_ext hzs hl (grownCap_ge w m 0 et))
/-- An append to a block of the call's own. -/
theorem OS.appendTo {x y : Operand} {t et : TypeId} {info : TypeInfo} {z : Value} {i : Id} {n m : Nat} {cs news : List AV} (ho : o.op = .call ⟨.builtin .append, #[x, y], #[t, t]⟩) (ht : P.underlying t = some (.slice et)) (hs : P.info? et = some info) (hz : info.zero = some z) (hzs : z.cells.size = info.size) (h0 : info.size ≠ 0) (hx : σ.ev x = .sl i 0 n info.size) (hg : σ.H.get i = .own cs) (hcs : cs.length = n * info.size) (hmine : E.mine i) (hy : Src σ info.size (σ.ev y) m news) (hones : onesB news = true)
    (hno : ∀ x ∈ cs ++ news, x.noI i = true) (hoth : ∀ j, j ≠ i → ∀ x ∈ (σ.H.get j).cells, x.noI i = true) (hm : n + m < 9223372036854775808) (hbytes : (n + m) * info.bytes ≤ 140737488355328) (hkp : ∀ j, kp j = true → (σ.H.get j).alive = true ∧ j ≠ i) :
    OS P base E kp o σ (.sl i 0 (n + m) info.size) ⟨killI i σ.T, σ.H.put i (cs ++ news)⟩ := fun μ a w hi => by
  have hvx := hi.ev x
  have hvy := hi.ev y
  have hkpi : kp i = false := by
    cases e : kp i with
    | false => rfl
    | true => exact absurd rfl (hkp i e).2
  have hhas : σ.H.has i := has_of (by rw [hg]; rfl)
  obtain ⟨b, n', l, hc, hl, hr, hp⟩ := hy.val hi hvy
  rw [hx] at hvx
  rcases Nat.eq_zero_or_pos m with rfl | hpos
  · have hl0 : l = [] := by simpa using hl
    subst hl0
    have hnews : news = [] := by cases hr; rfl
    subst hnews
    rw [List.append_nil, Nat.add_zero]
    refine ⟨a.eval x, w, μ, ?_, hvx, (hi.heapEq (put_same hg) (put_g_len _ _ _)).kill i, .refl _ _ _⟩
    rw [run_bi ho, hc]
    generalize hcx : a.eval x = cx at hvx
    cases hvx with
    | sl hm' hcap he => simp [run_append_zero ht hs _ _ _ _ _ hcap]
    | sl0 => simp [run_append_zero ht hs]
    | nl => simp [run_append_zero ht hs]
  · obtain ⟨p, rfl, hcells⟩ := hp (Nat.mul_pos hpos (Nat.pos_of_ne_zero h0))
    have hclean : ∀ y ∈ cs ++ news, y.noL = true := fun y hy => by
      rcases List.mem_append.1 hy with g | g
      · exact hi.heap.clean i y (by rw [hg]; exact g)
      · exact (onesB_iff.1 hones y g).2
    generalize hcx : a.eval x = cx at hvx
    cases hvx with
    | @sl _ _ _ cap _ q hm' hcap he =>
      by_cases hroom : n + m ≤ cap
      · -- in its room
        obtain ⟨h1, ⟨c0, t0, h2, h3⟩, h4⟩ := hi.heap.own i (by rw [hg]; rfl) q hm'
        have hle : (n + m) * info.size ≤ cap * info.size := Nat.mul_le_mul_right _ hroom
        rw [Nat.add_mul] at hle
        have hlr := hr.length
        have hin : ∀ j, j < l.length → (w.cell? ⟨q.block, q.off + 0 + n * info.size + j, none⟩).isSome = true := fun j hj => by
          simp only [World.cell?, h2, Option.isSome_none, Bool.false_eq_true, if_false]
          have hlt : q.off + 0 + n * info.size + j < c0.size := by omega
          rw [Array.getElem?_eq_getElem hlt]; rfl
        have hrun := run_append_room_cells (P := P) (w := w) t o.type et info ht hs q.block (q.off + 0) n cap p m n' l hl hcells (hr.ones (fun y hy => (onesB_iff.1 hones y hy).1)) hroom hin (fun j _ => by simp [World.frozen?, h2])
        have hext := INV.extend hmine hm' news l σ w cs hi hg (by omega) hr (fun y hy => (onesB_iff.1 hones y hy).2)
        rw [hcs] at hext
        refine ⟨.slice (some ⟨q.block, q.off + 0, none⟩) (n + m) cap, _, μ, ?_, ?_, INV.kill hext.1 i, fun j hj r hr' => ⟨hr', ?_⟩⟩
        · rw [run_bi ho, hc, hcx]
          simp only [Nat.add_zero] at hrun ⊢
          simp only [Sem.run_bind, hrun, Result.andThen_ok, Sem.run_pure]
        · exact .sl (o := 0) hm' hroom he
        · exact hext.2 _ (fun e => hi.heap.apart i j (hkp j hj).2.symm (by rw [hg]; rfl) (hkp j hj).1 q r hm' hr' e.symm)
      · -- a new block
        obtain ⟨lo, hlo, hro, hcell⟩ : ∃ lo : List Value, lo.length = n * info.size ∧ VRs μ cs lo ∧ ∀ (j : Nat) (v : Value), lo[j]? = some v → w.cell? ((⟨q.block, q.off + 0, none⟩ : Addr).add j) = some v := by
          by_cases hne : cs = []
          · subst hne
            exact ⟨[], by simpa using hcs, .nil, by simp⟩
          · obtain ⟨q', hq', _, hat⟩ := hi.heap.there i (by rw [hg]; exact hne)
            obtain rfl : q' = q := Option.some.inj (hq'.symm.trans hm')
            obtain ⟨lo, h1, h2, h3⟩ := hat.seg (k := 0) (n := cs.length) (by rw [hg]; simp [Blk.cells])
            rw [hg] at h2
            simp only [Blk.cells, List.drop_zero, List.take_length] at h2
            exact ⟨lo, by rw [h1, hcs], h2, fun j v hj => by rw [addr_add, Nat.add_zero]; have := h3 j v hj; rwa [Nat.zero_add] at this⟩
        have hrun := run_append_grow (P := P) w t o.type et info z ht hs hz ⟨q.block, q.off + 0, none⟩ n cap lo hlo hcell p m n' l hl hcells (by omega) (by omega) (growslice_fits (by omega) hbytes)
        have hal := hi.drew.bind i hhas hmine (hro.append hr) (fun y hy => ⟨hclean y hy, hno y hy⟩) hoth (Builtin.zeroCells z.cells (grownCap w (n + m) cap et - (n + m))) et
        refine ⟨.slice (some ⟨w.heap.size, 0, none⟩) (n + m) (grownCap w (n + m) cap et), _, _, ?_, ?_, hal, smk_alloc hi.drew _ hkpi _ _⟩
        · rw [run_bi ho, hc, hcx]
          simp only [Sem.run_bind, hrun, Result.andThen_ok, Sem.run_pure]
          simp
        · exact .sl (o := 0) (place_same _ _ _) (grownCap_ge w _ _ et) (grown_ext hzs (by rw [List.length_append, hlo, hl, Nat.add_mul]) (grownCap_ge w _ _ et))
    | sl0 q =>
      have hcs0 : cs = [] := List.eq_nil_of_length_eq_zero (by rw [hcs]; simp)
      subst hcs0
      have hrun := run_append_grow (P := P) w t o.type et info z ht hs hz q 0 0 [] (by simp) (by simp) p m n' l hl hcells (by omega) (by omega) (growslice_fits (by omega) (by simpa using hbytes))
      simp only [Nat.zero_add] at hrun ⊢
      have hal := hi.drew.bind i hhas hmine hr (fun y hy => ⟨hclean y (by simpa using hy), hno y (by simpa using hy)⟩) hoth (Builtin.zeroCells z.cells (grownCap w m 0 et - m)) et
      refine ⟨.slice (some ⟨w.heap.size, 0, none⟩) m (grownCap w m 0 et), _, _, ?_, ?_, hal, smk_alloc hi.drew _ hkpi _ _⟩
      · rw [run_bi ho, hc, hcx]
        simp only [Sem.run_bind, hrun, Result.andThen_ok, Sem.run_pure]
        simp
      · exact .sl (o := 0) (place_same _ _ _) (grownCap_ge w m 0 et) (grown_ext hzs hl (grownCap_ge w m 0 et))
    | nl =>
      have hcs0 : cs = [] := List.eq_nil_of_length_eq_zero (by rw [hcs]; simp)
      subst hcs0
      have hrun := run_append_nil (P := P) w t o.type et info z ht hs hz p m n' l hl hcells hpos (by omega) (by simp only [Nat.zero_add] at hbytes; omega)
      simp only [Nat.zero_add] at hrun ⊢
      have hal := hi.drew.bind i hhas hmine hr (fun y hy => ⟨hclean y (by simpa using hy), hno y (by simpa using hy)⟩) hoth (Builtin.zeroCells z.cells (grownCap w m 0 et - m)) et
      refine ⟨.slice (some ⟨w.heap.size, 0, none⟩) m (grownCap w m 0 et), _, _, ?_, ?_, hal, smk_alloc hi.drew _ hkpi _ _⟩
      · rw [run_bi ho, hc, hcx]
        simp only [Sem.run_bind, hrun, Result.andThen_ok, Sem.run_pure]
      · exact .sl (o := 0) (place_same _ _ _) (grownCap_ge w m 0 et) (grown_ext hzs hl (grownCap_ge w m 0 et))
end
end Go.AH
