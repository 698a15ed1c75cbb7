/- Blocks in order and apart. -/
import Derived.Test.YtbacblphkppigaaAuditPAud1
import Derived.Test.YtbacblphkppigaaAuditPWho
set_option linter.unusedVariables false
set_option linter.unusedSimpArgs false
namespace Go.Proofs.Ytbacblphkppigaa.Audit
open Go.BH
set_option maxRecDepth 100000
def Srt (hi : Nat) : Nat → List (Nat × Nat) → Prop
  | lo, [] => lo ≤ hi
  | lo, p :: r => lo ≤ p.1 ∧ 1 ≤ p.2 ∧ Srt hi (p.1 + p.2) r
theorem Srt.le {hi : Nat} : ∀ {lo : Nat} {ps : List (Nat × Nat)}, Srt hi lo ps → lo ≤ hi
  | _, [], h => h
  | _, p :: r, ⟨h1, h2, h3⟩ => by
    have := Srt.le h3
    omega
theorem Srt.mono {hi lo lo' : Nat} (hl : lo' ≤ lo) : ∀ {ps : List (Nat × Nat)}, Srt hi lo ps → Srt hi lo' ps
  | [], h => Nat.le_trans hl h
  | p :: r, ⟨h1, h2, h3⟩ => ⟨Nat.le_trans hl h1, h2, h3⟩
theorem Srt.app {mid hi : Nat} {B : List (Nat × Nat)} (hB : Srt hi mid B) : ∀ {lo : Nat} {A : List (Nat × Nat)}, Srt mid lo A → Srt hi lo (A ++ B)
  | _, [], h => hB.mono h
  | _, p :: r, ⟨h1, h2, h3⟩ => ⟨h1, h2, Srt.app hB h3⟩
theorem Srt.page {b P q : Nat} (hP : 1 ≤ P) : ∀ (js : List Nat) (a : Nat), js.Pairwise (· < ·) → (∀ j ∈ js, a ≤ j ∧ j < q) → a ≤ q → Srt (b + q * P) (b + a * P) (js.map fun j => (b + j * P, P))
  | [], a, _, _, ha => by
    show b + a * P ≤ b + q * P
    have := Nat.mul_le_mul_right P ha
    omega
  | j :: r, a, hp, h, ha => by
    obtain ⟨h1, h2⟩ := List.pairwise_cons.1 hp
    obtain ⟨h3, h4⟩ := h j List.mem_cons_self
    have m1 := Nat.mul_le_mul_right P h3
    refine ⟨?_, hP, ?_⟩
    · show b + a * P ≤ b + j * P
      omega
    · have := Srt.page (b := b) (q := q) hP r (j + 1) h2 (fun x hx => ⟨h1 x hx, (h x (List.mem_cons_of_mem _ hx)).2⟩) (by omega)
      rw [Nat.add_mul, Nat.one_mul, ← Nat.add_assoc] at this
      exact this
theorem kd1' {w : Nat} (h : okw w = true) (hk : kd w = 1) : cl w < 5 ∧ mk' w ≠ 0 ∧ mk' w < 2 ^ per (cl w) := by
  unfold okw okc at h
  rw [if_neg (by omega), if_pos hk] at h
  simp only [Bool.and_eq_true, decide_eq_true_eq] at h
  exact ⟨h.1.1.1, h.1.1.2, h.1.2⟩
theorem ons_inc (m i : Nat) : (ons m i).Pairwise (· < ·) := by
  unfold ons
  exact List.Pairwise.filter _ List.pairwise_lt_range
theorem ons_per {w : Nat} (h : okw w = true) (hk : kd w = 1) : ∀ j ∈ ons (mk' w) 32, j < per (cl w) := fun j hj => by
  obtain ⟨h1, h2, h3⟩ := kd1' h hk
  obtain ⟨h4, h5⟩ := ons_mem.1 hj
  by_cases c : j < per (cl w)
  · exact c
  · have : 2 ^ per (cl w) ≤ 2 ^ j := Nat.pow_le_pow_right (by omega) (by omega)
    rw [Nat.div_eq_of_lt (by omega)] at h5
    cases h5
theorem per_mul : ∀ c : Nat, c < 5 → per c * 2 ^ c = 16 := by decide
theorem pc16 {w : Nat} (h : okw w = true) (hk : kd w = 1) : (ons (mk' w) 32).length ≤ 16 := by
  obtain ⟨h1, h2, h3⟩ := kd1' h hk
  have := pc_end (mk' w) (per (cl w)) h3 (32 - per (cl w))
  have h16 := per16 (cl w)
  rw [show per (cl w) + (32 - per (cl w)) = 32 by omega] at this
  have h4 := pc_le (mk' w) (per (cl w))
  unfold pc at this h4
  omega
theorem kd2' {w : Nat} (h : okw w = true) (hk : kd w = 2) : 2 ≤ pn w := by
  unfold okw okc at h
  rw [if_neg (by omega), if_neg (by omega), if_pos hk] at h
  simp only [Bool.and_eq_true, decide_eq_true_eq] at h
  exact h.1.2
theorem bw16 {i w : Nat} (h : okw w = true) : (bw i w).length ≤ 16 := by
  unfold bw
  split
  · rw [List.length_map]; exact pc16 h (by assumption)
  · split <;> simp
theorem aud16 : ∀ (i : Nat) (xs : List Nat), (∀ w ∈ xs, okw w = true) → (audR i xs).length ≤ 16 * xs.length
  | _, [], _ => by simp [audR]
  | i, w :: r, h => by
    have h1 := bw16 (i := i) (h w List.mem_cons_self)
    have h2 := aud16 (i + 1) r (fun x hx => h x (List.mem_cons_of_mem _ hx))
    rw [audR, List.length_append, List.length_cons]
    omega
/-- In a memory whose runs are apart the blocks are in order and apart. -/
theorem aud_srt {xs : List Nat} (hall : ∀ w ∈ xs, okw w = true) (hO : Own xs) : ∀ (l : List Nat) (i s lo : Nat), xs.drop i = l → i + l.length = xs.length → i + s ≤ xs.length → (∀ t, t < s → kin xs (i + t) = 3) → lo ≤ 16 * (i + s) → Srt (16 * xs.length) lo (audR i l)
  | [], i, s, lo, e, hl, hs, hk, hlo => by
    show lo ≤ 16 * xs.length
    omega
  | w :: r, i, s, lo, e, hl, hs, hk, hlo => by
    simp only [List.length_cons] at hl
    have hi : i < xs.length := by omega
    have hwx : xs[i] = w := by
      have := List.drop_eq_getElem_cons hi
      rw [e] at this
      exact (List.cons.inj this).1.symm
    have e' : xs.drop (i + 1) = r := by rw [← List.drop_drop, e]; rfl
    have ok : okw w = true := hwx ▸ hall _ (List.getElem_mem hi)
    have hkw : kin xs i = kd w := by rw [kin_at hi, hwx]
    have hrw : run xs i = pn w := by rw [run_at hi, hwx]
    have rec' := aud_srt hall hO r (i + 1)
    rw [audR]
    by_cases s0 : s = 0
    · subst s0
      by_cases k1 : kd w = 1
      · obtain ⟨h1, h2, h3⟩ := kd1' ok k1
        have nx := rec' 0 (16 * (i + 1)) e' (by omega) (by omega) (fun t ht => by omega) (Nat.le_refl _)
        refine Srt.app nx ?_
        rw [bw, if_pos k1]
        have pg := Srt.page (b := 16 * i) (P := 2 ^ cl w) (q := per (cl w)) (Nat.one_le_two_pow) (ons (mk' w) 32) 0 (ons_inc _ _) (fun j hj => ⟨Nat.zero_le _, ons_per ok k1 j hj⟩) (Nat.zero_le _)
        rw [per_mul _ h1, Nat.zero_mul] at pg
        exact (show Srt (16 * (i + 1)) (16 * i + 0) _ from pg).mono (by omega)
      · by_cases k2 : kd w = 2
        · have r2 := kd2' ok k2
          have hr := hO i hi
          rw [hrw] at hr
          have hend := (hr (pn w - 1) (by omega) (by omega)).1
          rw [bw, if_neg k1, if_pos k2]
          refine ⟨by simp only; omega, by simp only; omega, ?_⟩
          exact rec' (pn w - 1) (16 * i + 16 * pn w) e' (by omega) (by omega) (fun t ht => by
            have := (hr (t + 1) (by omega) (by omega)).2
            rw [show i + 1 + t = i + (t + 1) by omega]
            exact this) (by omega)
        · rw [bw, if_neg k1, if_neg k2]
          exact rec' 0 lo e' (by omega) (by omega) (fun t ht => by omega) (by omega)
    · have k3 := hk 0 (by omega)
      rw [Nat.add_zero, hkw] at k3
      rw [bw, if_neg (by omega), if_neg (by omega)]
      exact rec' (s - 1) lo e' (by omega) (by omega) (fun t ht => by
        rw [show i + 1 + t = i + (t + 1) by omega]
        exact hk (t + 1) (by omega)) (by omega)
theorem srt_at {hi : Nat} : ∀ {ps : List (Nat × Nat)} {lo i : Nat}, Srt hi lo ps → (h : i < ps.length) → lo ≤ ps[i].1 ∧ 1 ≤ ps[i].2 ∧ ps[i].1 + ps[i].2 ≤ hi
  | p :: r, lo, 0, ⟨h1, h2, h3⟩, _ => ⟨h1, h2, h3.le⟩
  | p :: r, lo, i + 1, ⟨h1, h2, h3⟩, h => by
    have := srt_at (i := i) h3 (by simpa using h)
    simp only [List.getElem_cons_succ]
    exact ⟨by omega, this.2⟩
theorem fnd_srt {hi : Nat} {c : Int} : ∀ {ps : List (Nat × Nat)} {lo i : Nat}, Srt hi lo ps → (h : i < ps.length) → (ps[i].1 : Int) ≤ c → c < (ps[i].1 : Int) + ps[i].2 → fnd c ps = [.b true, .i ps[i].1, .i ps[i].2]
  | p :: r, lo, 0, _, _, h1, h2 => by
    simp only [List.getElem_cons_zero] at h1 h2 ⊢
    rw [fnd, if_pos ⟨h1, h2⟩]
  | p :: r, lo, i + 1, ⟨_, _, h3⟩, h, h1, h2 => by
    simp only [List.getElem_cons_succ] at h1 h2 ⊢
    have hi' : i < r.length := by simpa using h
    have := (srt_at h3 hi').1
    rw [fnd, if_neg (by omega)]
    exact fnd_srt h3 hi' h1 h2
theorem srt_drop {hi : Nat} {ps : List (Nat × Nat)} {lo i : Nat} (h : Srt hi lo (ps.drop i)) (hi' : i < ps.length) : lo ≤ ps[i].1 ∧ 1 ≤ ps[i].2 ∧ ps[i].1 + ps[i].2 ≤ hi ∧ Srt hi (ps[i].1 + ps[i].2) (ps.drop (i + 1)) := by
  rw [List.drop_eq_getElem_cons hi'] at h
  obtain ⟨h1, h2, h3⟩ := h
  exact ⟨h1, h2, h3.le, h3⟩
end Go.Proofs.Ytbacblphkppigaa.Audit
