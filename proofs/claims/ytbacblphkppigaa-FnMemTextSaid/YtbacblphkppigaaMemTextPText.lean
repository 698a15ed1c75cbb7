/- MemText: both sides write the same. -/
import Derived.Test.YtbacblphkppigaaMemTextQA
set_option linter.unusedVariables false
set_option linter.unusedSimpArgs false
namespace Go.Proofs.Ytbacblphkppigaa.MemText
open Go.BH
attribute [local simp] envA lensOf
/-- A word's letter. -/
def ch (w : Nat) : Nat := if kd w = 0 then 46 else if kd w = 1 then 48 + cl w else if kd w = 2 then 72 else 104
def text (xs : List Nat) : List Nat := if okm xs = true then xs.map ch else []
theorem okw_kd {w : Nat} (h : okw w = true) : kd w = 0 ∨ kd w = 1 ∨ kd w = 2 ∨ kd w = 3 := by
  unfold okw okc at h
  by_cases h0 : kd w = 0
  · exact .inl h0
  · by_cases h3 : kd w = 3
    · exact .inr (.inr (.inr h3))
    · rw [if_neg (by omega)] at h
      by_cases h1 : kd w = 1
      · exact .inr (.inl h1)
      · rw [if_neg h1] at h
        by_cases h2 : kd w = 2
        · exact .inr (.inr (.inl h2))
        · rw [if_neg h2] at h
          cases h
theorem okm_all {xs : List Nat} (h : okm xs = true) : xs.length ≤ 16 ∧ ∀ w ∈ xs, okw w = true := by
  simp only [okm, Bool.and_eq_true, decide_eq_true_eq, List.all_eq_true] at h
  exact h
theorem cl_lt (w : Nat) : cl w < 16 := by unfold cl; omega
theorem take_ch {xs : List Nat} {i : Nat} (h : i < xs.length) : List.take (i + 1) (List.map ((fun (n : Nat) => D.i (n : Int)) ∘ ch) xs) = List.take i (List.map ((fun (n : Nat) => D.i (n : Int)) ∘ ch) xs) ++ [.i (ch xs[i] : Int)] := by
  rw [List.take_add_one, List.getElem?_map, List.getElem?_eq_getElem h]
  rfl
theorem fin_text {xs : List Nat} {i : Nat} {c : D} {y : Int} (h : i < xs.length) (h16 : xs.length ≤ 16) (hc : List.take (i + 1) (List.map ((fun (n : Nat) => D.i (n : Int)) ∘ ch) xs) = List.take i (List.map ((fun (n : Nat) => D.i (n : Int)) ∘ ch) xs) ++ [c]) (hy : y = i + 1) :
    (min i xs.length ≤ 140737488355327 ∧ min i xs.length + 1 < 9223372036854775808) ∧ ∃ a' : Nat, a' ≤ xs.length ∧ xs.length - a' < xs.length - i ∧ y = a' ∧ List.take i (List.map ((fun (n : Nat) => D.i (n : Int)) ∘ ch) xs) ++ [c] = List.take a' (List.map ((fun (n : Nat) => D.i (n : Int)) ∘ ch) xs) :=
  ⟨⟨by omega, by omega⟩, i + 1, by omega, by omega, by rw [hy]; simp, hc.symm⟩
set_option maxHeartbeats 2000000 in
theorem f82 (xs : List Nat) (hl : xs.length < 9223372036854775808) (hx : ∀ n ∈ xs, n < 4294967296) : EvF fes 82 [LN xs] [.s (bytesOf ((text xs).map fun (n : Nat) => D.i (n : Int)))] := by
  refine EvF.w (fe := e82) (t := t82) rfl rfl ?_
  have hL : (Pr.len [ku32]).eval [LN xs] = some (.i xs.length) := by simp [LN]
  simp [t82, e82]
  cases hk : okm xs with
  | false =>
    refine LW.go ?_
    simp [hL]
    by_cases h0 : 0 < xs.length
    · simp [h0]
      refine CW.mk (f35 xs hl hx) ?_
      simp [hk, text]
    · simp [h0, text, hk]
  | true =>
    obtain ⟨h16, hall⟩ := okm_all hk
    simp only [text, hk, if_true]
    refine LW.inv (fun i : Nat => i ≤ xs.length) (fun i => [.i i, LN ((xs.take i).map ch)]) (fun i => xs.length - i) (fun i hi => ?_) (a := 0) (by simp) (by simp [LN])
    have hlen : ((xs.take i).map ch).length = i := by simp; omega
    have hLb : (Pr.len [ku8]).eval [LN ((xs.take i).map ch)] = some (.i i) := by
      unfold LN
      rw [ev_len, List.length_map, hlen]
    by_cases hil : i < xs.length
    · have h2 : (i : Int) < xs.length := by omega
      have h1 : ¬ (i : Int) < 0 := by omega
      simp [hL, hLb, h2]
      refine CW.mk (f35 xs hl hx) ?_
      simp [hk, hL, hLb, h1, h2]
      simp only [LN]
      simp [hil]
      have hw := hall _ (List.getElem_mem hil)
      have ht := take_ch hil
      refine CW.mk (f23 _ (hx _ (List.getElem_mem hil))) ?_
      have hc := cl_lt xs[i]
      generalize xs[i] = w at hw ht hc
      simp only [rdw, hw, if_true]
      rcases okw_kd hw with hkd | hkd | hkd | hkd <;> simp [hkd, ch] at ht ⊢
      · exact fin_text hil h16 ht (wrap64 (by omega))
      · rw [wrap64 (x := 48 + (cl w : Int)) (by omega), wrapU8 (by omega)]
        exact fin_text hil h16 ht (wrap64 (by omega))
      · exact fin_text hil h16 ht (wrap64 (by omega))
      · exact fin_text hil h16 ht (wrap64 (by omega))
    · have h2 : ¬ (i : Int) < xs.length := by omega
      obtain rfl : i = xs.length := by omega
      simp [hL, hLb, LN]
theorem f79 (xs : List Nat) (hk : okm xs = true) (hx : ∀ n ∈ xs, n < 4294967296) : EvF fes 79 [LN xs] [.s (bytesOf ((xs.map ch).map fun (n : Nat) => D.i (n : Int)))] := by
  refine EvF.w (fe := e79) (t := t79) rfl rfl ?_
  have hL : (Pr.len [ku32]).eval [LN xs] = some (.i xs.length) := by simp [LN]
  obtain ⟨h16, hall⟩ := okm_all hk
  simp [t79, e79, hL]
  refine LW.inv (fun i : Nat => i ≤ xs.length) (fun i => [.i i, LN ((xs.take i).map ch)]) (fun i => xs.length - i) (fun i hi => ?_) (a := 0) (by simp) (by simp [LN])
  have hlen : ((xs.take i).map ch).length = i := by simp; omega
  have hLb : (Pr.len [ku8]).eval [LN ((xs.take i).map ch)] = some (.i i) := by
    unfold LN
    rw [ev_len, List.length_map, hlen]
  by_cases hil : i < xs.length
  · have h2 : (i : Int) < xs.length := by omega
    have h1 : ¬ (i : Int) < 0 := by omega
    simp [hL, hLb, h2, h1]
    simp only [LN]
    simp [hil]
    have hw := hall _ (List.getElem_mem hil)
    have ht := take_ch hil
    refine CW.mk (f74 _ (hx _ (List.getElem_mem hil))) ?_
    have hc := cl_lt xs[i]
    generalize xs[i] = w at hw ht hc
    simp only [rdw, hw, if_true]
    have i0 : (Pr.idxS .i64).eval [.s ⟨#[46, 63, 72, 104]⟩, .i 0] = some (.i 46) := by rfl
    have i1 : (Pr.idxS .i64).eval [.s ⟨#[46, 63, 72, 104]⟩, .i 1] = some (.i 63) := by rfl
    have i2 : (Pr.idxS .i64).eval [.s ⟨#[46, 63, 72, 104]⟩, .i 2] = some (.i 72) := by rfl
    have i3 : (Pr.idxS .i64).eval [.s ⟨#[46, 63, 72, 104]⟩, .i 3] = some (.i 104) := by rfl
    rcases okw_kd hw with hkd | hkd | hkd | hkd <;> simp [hkd, ch, i0, i1, i2, i3, -ev_idxS] at ht ⊢
    · exact fin_text hil h16 ht (wrap64 (by omega))
    · rw [wrap64 (x := 48 + (cl w : Int)) (by omega), wrapU8 (by omega)]
      exact fin_text hil h16 ht (wrap64 (by omega))
    · exact fin_text hil h16 ht (wrap64 (by omega))
    · exact fin_text hil h16 ht (wrap64 (by omega))
  · have h2 : ¬ (i : Int) < xs.length := by omega
    obtain rfl : i = xs.length := by omega
    simp [hL, hLb, LN]
theorem f80 (xs : List Nat) (hl : xs.length < 9223372036854775808) (hx : ∀ n ∈ xs, n < 4294967296) : EvF fes 80 [LN xs] [.s (bytesOf ((text xs).map fun (n : Nat) => D.i (n : Int)))] := by
  refine EvF.w (fe := e80) (t := t80) rfl rfl ?_
  simp [t80, e80]
  refine CW.mk (f78 xs hl hx) ?_
  cases hk : okm xs with
  | false =>
    simp [text, hk]
    rfl
  | true =>
    simp
    refine CW.mk (f79 xs hk hx) ?_
    simp [text, hk]
end Go.Proofs.Ytbacblphkppigaa.MemText
