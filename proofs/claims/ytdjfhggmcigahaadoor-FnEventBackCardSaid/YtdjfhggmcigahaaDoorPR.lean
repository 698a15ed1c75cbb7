/- What is taken from the library's contracts, as functions of data: impl.words. -/
import Derived.Test.YtdjfhggmcigahaaDoorB33
import Derived.Test.YtdjfhggmcigahaaDoorWK
import Derived.Test.YtdjfhggmcigahaaDoorWF
set_option linter.unusedVariables false
namespace Go.BH
open Go.RowKit Go.Proofs
def oknB (d : D) : Bool := decide (-9223372036854775808 ≤ d.int) && decide (d.int ≤ 9223372036854775807)
def prim28 : List D → Option (List D)
  | [.s s, .l xs] => if (Nat.ble s.size 1000000 && Nat.ble xs.length 1000000 && xs.all oknB) = true then some [.s (wordsT s (xs.map D.int))] else none
  | _ => none
def sig28 : Sig := ⟨28, [ks, (.sl [ki64])], [(.dat ks (.v 0)), (.lz [ki64] (.v 1))], [], [ks], [(.dat ks (.v 2))], [], 0⟩
theorem words_vals : ∀ {xs : List D}, (∀ x ∈ xs, okE [.int .i64] x = true) → encR [.int .i64] xs = vals ((xs.map D.int).map (Value.int .i64))
  | [], _ => rfl
  | d :: ds, h => by
    have h1 := h d List.mem_cons_self
    have h2 := words_vals (fun x hx => h x (List.mem_cons_of_mem _ hx))
    simp only [okE, row, okZ, Bool.and_true] at h1
    obtain ⟨n, rfl⟩ := okC_int h1
    simp only [encR, List.flatMap_cons, row, encZ, encC_int] at h2 ⊢
    rw [h2]
    rfl
theorem vals_eq {μ : Mu} : ∀ {l cs : List Value}, VRs μ (vals l) cs → cs = l
  | [], _, h => by cases h; rfl
  | x :: xs, _, h => by
    cases h with
    | cons a b => rw [a.val, vals_eq b]
/-- The table, by what is known of its block. -/
theorem tab_of {μ : Mu} {H : Hp} {w : World} (h : HR μ H w) (g : GK μ.ln) : Lib.TabIs Tryd.prog w "internal/strconv.uint64pow10" .u64 Lib.pow10Tab := by
  obtain ⟨c, t, r, h1, h2⟩ := h.rd true 2 _ g.1
  have hn : Tryd.prog.globalNamed "internal/strconv.uint64pow10" = some 2 := by kernel_rfl
  unfold Lib.TabIs World.var?
  rw [hn]
  simp only [Option.bind_some, h1]
  rw [← h2]
/-- What a function that writes nothing old leaves. -/
theorem ft_pure {P : Program} {f : FuncId} {r : AV} {c : Value} {w : World} {μ : Mu} {us : List Value} (hHR : HR μ [] w) (hfr : ∀ i, 0 ≤ i → μ.pl i = none) (hnl : r.nl = true) (hv : VR μ r c)
    (hc : Calls P f us.toArray w (fun e w' => e = .returned c ∧ Below w.heap.size w w')) {R : AV → Hp → Nat → Prop} (hR : R r [] 0) :
    Calls P f us.toArray w (fun e w' => ∃ c r H' nx μ', e = .returned c ∧ R r H' nx ∧ r.nl = true ∧ (∀ i cs, hget H' i = some cs → AV.nls cs = true) ∧ VR μ' r c ∧ HR μ' H' w' ∧ (∀ i, nx ≤ i → μ'.pl i = none) ∧ (∀ i cs, hget H' i = some cs → i < nx) ∧
      Kept (mayH μ []) w w' ∧ (∀ i cs p, hget H' i = some cs → μ'.pl i = some p → w.heap.size ≤ p.block ∨ mayH μ [] p.block) ∧
      (∀ b cs, μ'.fz b = some cs → μ.fz b = some cs ∨ w.heap.size ≤ b ∨ mayH μ [] b) ∧ (∀ b cs, μ.fz b = some cs → μ'.fz b = some cs) ∧ (∀ i, i < 0 → μ'.pl i = μ.pl i) ∧ 0 ≤ nx) := by
  refine Calls.mono hc ?_
  rintro e w' ⟨rfl, hb⟩
  refine ⟨c, r, [], 0, μ, rfl, hR, hnl, fun i cs h => (by cases h), hv, hHR.world (fun i cs h => (by cases h)) (fun l b cs h => ?_), hfr, fun i cs h => (by cases h), ⟨hb.os, hb.tape, hb.output, hb.size, fun k hk _ => hb.block k hk⟩, fun i cs p h => (by cases h), fun b cs h => .inl h, fun b cs h => h, fun i h => rfl, Nat.le_refl _⟩
  obtain ⟨c0, t0, r0, h1, _⟩ := hHR.rd l b cs h
  exact hb.block b (lt_of_heap h1)
theorem prim28_ok (i : Nat) : SigOk Tryd.prog (fun _ vs => prim28 vs) i sig28 := by
  refine ⟨by kernel_rfl, fun vs rsv hv hr => ?_⟩
  replace hr : prim28 vs = some rsv := hr
  unfold prim28 at hr
  split at hr
  · rename_i s xs
    split at hr
    · rename_i hc
      cases hr
      simp only [Bool.and_eq_true] at hc
      obtain ⟨⟨hc1, hc2⟩, hc3⟩ := hc
      refine ⟨rfl, fun μ w us hHR hfr hlow hvs hgk => ?_⟩
      simp only [sig28, okZ, Bool.and_eq_true] at hv
      have hxs : ∀ x ∈ xs, okE [ki64] x = true := by
        obtain ⟨ys, e1, h1⟩ := okC_sl hv.2.1
        cases e1
        exact h1
      have hvs' : VRs μ [encC .str (.s s), .fz true 1 xs.length (encR [.int .i64] xs)] us := hvs
      rw [encC_str, words_vals hxs] at hvs'
      have htab := tab_of hHR hgk
      have hok : ∀ n ∈ xs.map D.int, Okn n := fun n hn => by
        obtain ⟨x, hx, rfl⟩ := List.mem_map.1 hn
        have := List.all_eq_true.1 hc3 x hx
        simp only [oknB, Bool.and_eq_true, decide_eq_true_eq] at this
        exact this
      have hlen : (xs.map D.int).length = xs.length := List.length_map ..
      cases hvs' with
      | cons h1 h2 =>
        cases h2 with
        | cons h2 h3 =>
          cases h3
          obtain rfl := h1.val
          refine ft_pure (r := .v (.string (wordsT s (xs.map D.int)))) (c := .string (wordsT s (xs.map D.int))) hHR hfr rfl (.v _) ?_ ⟨?_, rfl, rfl⟩
          · generalize hys : xs.map D.int = ys at h2 hok hlen
            generalize xs.length = m at h2 hlen hc2
            generalize hav : vals (ys.map (Value.int .i64)) = av at h2
            cases h2 with
            | @fz _ _ _ cap o b cs _ hr hl hcap k =>
              obtain ⟨c0, t0, r0, g1, g2⟩ := hHR.rd true b cs hr
              have hw := words_walk s (some ⟨b, o, none⟩) cap ys w (Nat.le_of_ble_eq_true hc1) (by rw [hlen]; exact Nat.le_of_ble_eq_true hc2) (by rw [hlen]; exact hcap) hok (fun j n hj => by
                refine ⟨b, o, rfl, lt_of_heap g1, ?_⟩
                subst hav
                have e2 := vals_eq k
                have hj' : (ys.map (Value.int .i64))[j]? = some (.int .i64 n) := by rw [List.getElem?_map, hj]; rfl
                rw [← e2] at hj'
                obtain ⟨h4, _⟩ := take_get hj'
                subst g2
                exact cell_of g1 (by simpa using h4)) htab
              rw [hlen] at hw
              exact hw
            | fz0 A cap =>
              have hy0 : ys = [] := List.eq_nil_of_length_eq_zero (by rw [hlen])
              subst hy0
              have hw := words_walk s A cap [] w (Nat.le_of_ble_eq_true hc1) (by simp) (by simp) (by simp) (fun j n hj => by simp at hj) htab
              exact hw
          · exact (encC_str _).symm
    · cases hr
  · cases hr
theorem cell_of_ln {μ : Mu} {H : Hp} {w : World} (h : HR μ H w) {b : Nat} {v : Value} (g : μ.ln b = some [v]) : w.cell? ⟨b, 0, none⟩ = some v := by
  obtain ⟨c, t, r, h1, h2⟩ := h.rd true b _ g
  exact cell_of h1 (by rw [← Array.getElem?_toList, h2]; rfl)
/-- What a function leaves whose result is a list in a new block, by value. -/
theorem ft_list {P : Program} {f : FuncId} {e : List CK} {xs : List D} {cs : List Value} {T : TypeId} {w : World} {μ : Mu} {us : List Value} (hHR : HR μ [] w) (hfr : ∀ i, 0 ≤ i → μ.pl i = none) (hcs : cs.length = xs.length * e.length) (hv : ∀ ν, VRs ν (encR e xs) cs)
    (hc : Calls P f us.toArray w (fun r w' => r = .returned (.slice (some ⟨w.heap.size, 0, none⟩) xs.length xs.length) ∧ w' = w.alloc (.cells cs.toArray T))) {R : AV → Hp → Nat → Prop} (hR : R (encC (.sl e) (.l xs)) [] 0) :
    Calls P f us.toArray w (fun e w' => ∃ c r H' nx μ', e = .returned c ∧ R r H' nx ∧ r.nl = true ∧ (∀ i cs, hget H' i = some cs → AV.nls cs = true) ∧ VR μ' r c ∧ HR μ' H' w' ∧ (∀ i, nx ≤ i → μ'.pl i = none) ∧ (∀ i cs, hget H' i = some cs → i < nx) ∧
      Kept (mayH μ []) w w' ∧ (∀ i cs p, hget H' i = some cs → μ'.pl i = some p → w.heap.size ≤ p.block ∨ mayH μ [] p.block) ∧
      (∀ b cs, μ'.fz b = some cs → μ.fz b = some cs ∨ w.heap.size ≤ b ∨ mayH μ [] b) ∧ (∀ b cs, μ.fz b = some cs → μ'.fz b = some cs) ∧ (∀ i, i < 0 → μ'.pl i = μ.pl i) ∧ 0 ≤ nx) := by
  refine Calls.mono hc ?_
  rintro r w' ⟨rfl, rfl⟩
  have hlt : ∀ l b ds, μ.rd l b = some ds → b < w.heap.size := fun l b ds h => by
    obtain ⟨c0, t0, r0, h1, _⟩ := hHR.rd l b ds h
    exact lt_of_heap h1
  have hfz : ∀ b ds, μ.fz b = some ds → (μ.frz w.heap.size cs).fz b = some ds := fun b ds h => by
    show (if b = w.heap.size then some cs else μ.fz b) = some ds
    rw [if_neg (by have := hlt false b ds h; omega)]
    exact h
  refine ⟨_, encC (.sl e) (.l xs), [], 0, μ.frz w.heap.size cs, rfl, hR, encC_nl _ _, fun i cs h => (by cases h), ?_, ⟨fun i cs h => (by cases h), fun i cs h => (by cases h), fun i j cs ds _ h => (by cases h), fun l b ds h => ?_, fun i cs a h => (by cases h)⟩, hfr, fun i cs h => (by cases h), Kept.alloc _ _ _, fun i cs p h => (by cases h), fun b ds h => ?_, hfz, fun i h => rfl, Nat.le_refl _⟩
  · rw [encC_sl]
    refine .fz (l := false) (b := w.heap.size) (cs := cs) (if_pos rfl) (by rw [← hcs]; exact ((hv μ).length).symm) (Nat.le_refl _) ?_
    rw [List.drop_zero, ← hcs, List.take_length]
    exact hv _
  · cases l with
    | true =>
      obtain ⟨c0, t0, r0, h1, h2⟩ := hHR.rd true b ds h
      exact ⟨c0, t0, r0, (Below.heap_alloc _ _ _ (lt_of_heap h1)).trans h1, h2⟩
    | false =>
      have h' : (if b = w.heap.size then some cs else μ.fz b) = some ds := h
      by_cases hb : b = w.heap.size
      · subst hb
        rw [if_pos rfl] at h'
        cases h'
        exact ⟨cs.toArray, T, (0, 0), alloc_self _ _ _, rfl⟩
      · rw [if_neg hb] at h'
        obtain ⟨c0, t0, r0, h1, h2⟩ := hHR.rd false b ds h'
        exact ⟨c0, t0, r0, (Below.heap_alloc _ _ _ (lt_of_heap h1)).trans h1, h2⟩
  · have h' : (if b = w.heap.size then some cs else μ.fz b) = some ds := h
    by_cases hb : b = w.heap.size
    · exact .inr (.inl (by omega))
    · rw [if_neg hb] at h'
      exact .inl h'
/-- What a function that writes nothing old leaves; the result as it comes. -/
theorem ft_some {P : Program} {f : FuncId} {r : AV} {w : World} {μ : Mu} {us : List Value} (hHR : HR μ [] w) (hfr : ∀ i, 0 ≤ i → μ.pl i = none) (hnl : r.nl = true)
    (hc : Calls P f us.toArray w (fun e w' => ∃ c, e = .returned c ∧ VR μ r c ∧ Below w.heap.size w w')) {R : AV → Hp → Nat → Prop} (hR : R r [] 0) :
    Calls P f us.toArray w (fun e w' => ∃ c r H' nx μ', e = .returned c ∧ R r H' nx ∧ r.nl = true ∧ (∀ i cs, hget H' i = some cs → AV.nls cs = true) ∧ VR μ' r c ∧ HR μ' H' w' ∧ (∀ i, nx ≤ i → μ'.pl i = none) ∧ (∀ i cs, hget H' i = some cs → i < nx) ∧
      Kept (mayH μ []) w w' ∧ (∀ i cs p, hget H' i = some cs → μ'.pl i = some p → w.heap.size ≤ p.block ∨ mayH μ [] p.block) ∧
      (∀ b cs, μ'.fz b = some cs → μ.fz b = some cs ∨ w.heap.size ≤ b ∨ mayH μ [] b) ∧ (∀ b cs, μ.fz b = some cs → μ'.fz b = some cs) ∧ (∀ i, i < 0 → μ'.pl i = μ.pl i) ∧ 0 ≤ nx) := by
  refine Calls.mono hc ?_
  rintro e w' ⟨c, rfl, hv, hb⟩
  refine ⟨c, r, [], 0, μ, rfl, hR, hnl, fun i cs h => (by cases h), hv, hHR.world (fun i cs h => (by cases h)) (fun l b cs h => ?_), hfr, fun i cs h => (by cases h), ⟨hb.os, hb.tape, hb.output, hb.size, fun k hk _ => hb.block k hk⟩, fun i cs p h => (by cases h), fun b cs h => .inl h, fun b cs h => h, fun i h => rfl, Nat.le_refl _⟩
  obtain ⟨c0, t0, r0, h1, _⟩ := hHR.rd l b cs h
  exact hb.block b (lt_of_heap h1)
/-! ### strings.Split, strconv.Atoi -/
def splitS (s sep : ByteArray) : List ByteArray := Lib.splitB sep 0 (Lib.countB s sep) s
def prim52 : List D → Option (List D)
  | [.s s, .s p] => if (Nat.ble s.size 1000000 && Nat.ble 1 p.size) = true then some [.l ((splitS s p).map .s)] else none
  | _ => none
def sig52 : Sig := ⟨52, [ks, ks], [(.dat ks (.v 0)), (.dat ks (.v 1))], [], [(.sl [ks])], [(.dat (.sl [ks]) (.v 2))], [], 0⟩
theorem strs_enc (l : List ByteArray) (ν : Mu) : VRs ν (encR [.str] (l.map .s)) (l.map Value.string) := by
  induction l with
  | nil => exact .nil
  | cons x xs ih =>
    simp only [List.map_cons, encR, List.flatMap_cons, row, encZ, encC_str] at ih ⊢
    exact .cons (.v _) ih
theorem prim52_ok (i : Nat) : SigOk Tryd.prog (fun _ vs => prim52 vs) i sig52 := by
  refine ⟨by kernel_rfl, fun vs rsv hv hr => ?_⟩
  replace hr : prim52 vs = some rsv := hr
  unfold prim52 at hr
  split at hr
  · rename_i s p
    split at hr
    · rename_i hc
      cases hr
      simp only [Bool.and_eq_true] at hc
      obtain ⟨hc1, hc2⟩ := hc
      have hc1 := Nat.le_of_ble_eq_true hc1
      refine ⟨?_, fun μ w us hHR hfr hlow hvs hgk => ?_⟩
      · simp only [sig52, okZ, Bool.and_true]
        exact okC_mk (fun x hx => by
          obtain ⟨y, _, rfl⟩ := List.mem_map.1 hx
          rfl)
      have hvs' : VRs μ [encC .str (.s s), encC .str (.s p)] us := hvs
      simp only [encC_str] at hvs'
      obtain ⟨m, hm⟩ := hgk.2.2.2
      cases hvs' with
      | cons g1 g2 =>
        cases g2 with
        | cons g2 g3 =>
          cases g3
          obtain rfl := g1.val
          obtain rfl := g2.val
          have h := Tryd.strings_Split s p m w (by omega) (cell_of_ln hHR hm) (Nat.le_of_ble_eq_true hc2)
          have hlen := Lib.splitB_all p (Nat.le_of_ble_eq_true hc2) 0 _ s rfl
          refine ft_list (e := [.str]) (xs := (splitS s p).map .s) (cs := (splitS s p).map Value.string) (T := 9) hHR hfr (by simp) (fun ν => strs_enc _ ν) ?_ ⟨rfl, rfl, rfl⟩
          rw [List.length_map, splitS, hlen]
          exact h
    · cases hr
  · cases hr
def prim53 : List D → Option (List D)
  | [.s s] => if Nat.ble s.size 1000000 = true then (match Lib.atoiAll s.data.toList with
    | .ok v => some [.i v, .b true]
    | _ => some [.i (badN s.data.toList), .b false]) else none
  | _ => none
def sig53 : Sig := ⟨53, [ks], [(.dat ks (.v 0))], [], [ki64, kb], [(.dat ki64 (.v 1)), (.ifc (.v 2))], [], 0⟩
theorem prim53_ok (i : Nat) : SigOk Tryd.prog (fun _ vs => prim53 vs) i sig53 := by
  refine ⟨by kernel_rfl, fun vs rsv hv hr => ?_⟩
  replace hr : prim53 vs = some rsv := hr
  unfold prim53 at hr
  split at hr
  · rename_i s
    split at hr
    · rename_i hc
      have hc1 := Nat.le_of_ble_eq_true hc
      split at hr
      · rename_i v hat
        cases hr
        refine ⟨rfl, fun μ w us hHR hfr hlow hvs hgk => ?_⟩
        have hvs' : VRs μ [encC .str (.s s)] us := hvs
        simp only [encC_str] at hvs'
        cases hvs' with
        | cons g1 g2 =>
          cases g2
          obtain rfl := g1.val
          refine ft_some (r := .tup [encC ki64 (.i v), ifcA (.b true)]) hHR hfr (by rw [encC_int]; rfl) ((Tryd.strconv_Atoi_ok s (by omega) v hat w).mono ?_) ⟨rfl, rfl, rfl⟩
          rintro e w' ⟨rfl, hw⟩
          refine ⟨_, rfl, ?_, ?_⟩
          · rw [encC_int]
            exact .tup (.cons (.v _) (.cons (.v _) .nil))
          · rcases hw with rfl | ⟨t, rfl⟩
            · exact Below.refl _ _
            · exact Lib.bytesWorld_below _ _ _
      · rename_i hat
        cases hr
        refine ⟨rfl, fun μ w us hHR hfr hlow hvs hgk => ?_⟩
        have hvs' : VRs μ [encC .str (.s s)] us := hvs
        simp only [encC_str] at hvs'
        obtain ⟨e0, he0, ge0⟩ := hgk.2.1
        obtain ⟨e1, he1, ge1⟩ := hgk.2.2.1
        cases hvs' with
        | cons g1 g2 =>
          cases g2
          obtain rfl := g1.val
          refine ft_some (r := .tup [encC ki64 (.i (badN s.data.toList)), ifcA (.b false)]) hHR hfr (by rw [encC_int]; rfl) ((Tryd.strconv_Atoi_bad s (by omega) (fun v e => hat v e) w e0 e1 (cell_of_ln hHR he0) (cell_of_ln hHR he1) ge0 ge1).mono ?_) ⟨rfl, rfl, rfl⟩
          rintro e w' ⟨N, rfl, hb⟩
          refine ⟨_, rfl, ?_, hb⟩
          rw [encC_int]
          exact .tup (.cons (.v _) (.cons (.ifs _ _) .nil))
    · cases hr
  · cases hr
def oknZ (n : Int) : Bool := decide (-9223372036854775808 ≤ n) && decide (n ≤ 9223372036854775807)
theorem oknZ_ok {n : Int} (h : oknZ n = true) : Okn n := by
  simp only [oknZ, Bool.and_eq_true, decide_eq_true_eq] at h
  exact h
def prim9 : List D → Option (List D)
  | [.i k, .i a, .i b, .i c, .i d] => if (oknZ k && (oknZ a && (oknZ b && (oknZ c && oknZ d)))) = true then some [.s (wordsT (factW k) [a, b, c, d])] else none
  | _ => none
def sig9 : Sig := ⟨9, [ki64, ki64, ki64, ki64, ki64], [(.agg [(.dat ki64 (.v 0)), (.dat ki64 (.v 1)), (.dat ki64 (.v 2)), (.dat ki64 (.v 3)), (.dat ki64 (.v 4))])], [], [ks], [(.dat ks (.v 5))], [], 0⟩
theorem prim9_ok (i : Nat) : SigOk Tryd.prog (fun _ vs => prim9 vs) i sig9 := by
  refine ⟨by kernel_rfl, fun vs rsv hv hr => ?_⟩
  replace hr : prim9 vs = some rsv := hr
  unfold prim9 at hr
  split at hr
  · rename_i k a b c d
    split at hr
    · rename_i hc
      cases hr
      simp only [Bool.and_eq_true] at hc
      obtain ⟨h1, h2, h3, h4, h5⟩ := hc
      refine ⟨rfl, fun μ w us hHR hfr hlow hvs hgk => ?_⟩
      have hvs' : VRs μ [.agg [encC ki64 (.i k), encC ki64 (.i a), encC ki64 (.i b), encC ki64 (.i c), encC ki64 (.i d)]] us := hvs
      simp only [encC_int] at hvs'
      have htab := tab_of hHR hgk
      cases hvs' with
      | cons g1 g2 =>
        cases g2
        obtain rfl := VR.vals_agg (l := [.int .i64 k, .int .i64 a, .int .i64 b, .int .i64 c, .int .i64 d]) g1
        exact ft_pure (r := .v (.string (wordsT (factW k) [a, b, c, d]))) (c := .string (wordsT (factW k) [a, b, c, d])) hHR hfr rfl (.v _) (fact_walk k a b c d w (oknZ_ok h1) (oknZ_ok h2) (oknZ_ok h3) (oknZ_ok h4) (oknZ_ok h5) htab) ⟨(encC_str _).symm, rfl, rfl⟩
    · cases hr
  · cases hr
end Go.BH
