/- Words for the plain parts: what a function that counts rounds comes to, once there are enough of them. No condition; no program in sight. -/
import Derived.RowKit
set_option linter.unusedVariables false
set_option linter.unusedSimpArgs false
namespace Go.Proofs.Ytcphdfjoodebiaa.PK
open Go.RowKit
/-- With enough rounds 'g' answers 'r'. -/
def Ev {α : Type} (g : Nat → Option α) (r : α) : Prop := ∃ k, ∀ n, k ≤ n → g n = some r
theorem Ev.mk {α : Type} (r : α) : Ev (fun _ => some r) r := ⟨0, fun _ _ => rfl⟩
theorem Ev.of {α : Type} {g : Nat → Option α} {r : α} (h : ∀ n, g n = some r) : Ev g r := ⟨0, fun n _ => h n⟩
theorem Ev.out {α : Type} {g : Nat → Option α} {r : α} (h : Ev g r) : ∃ k, g k = some r := ⟨h.choose, h.choose_spec _ (Nat.le_refl _)⟩
theorem Ev.bind {α β : Type} {g : Nat → Option α} {f : Nat → α → Option β} {x : α} {r : β} (h : Ev g x) (k : Ev (fun n => f n x) r) : Ev (fun n => (g n).bind (f n)) r := by
  obtain ⟨a, ha⟩ := h
  obtain ⟨b, hb⟩ := k
  refine ⟨a + b, fun n hn => ?_⟩
  show (g n).bind (f n) = some r
  rw [ha n (by omega), Option.bind_some]
  exact hb n (by omega)
theorem Ev.step {α : Type} {g h : Nat → Option α} {r : α} (e : ∀ n, h (n + 1) = g n) (k : Ev g r) : Ev h r := by
  obtain ⟨a, ha⟩ := k
  refine ⟨a + 1, fun n hn => ?_⟩
  obtain ⟨m, rfl⟩ : ∃ m, n = m + 1 := ⟨n - 1, by omega⟩
  rw [e]
  exact ha m (by omega)
theorem Ev.congr {α : Type} {g h : Nat → Option α} {r : α} (e : ∀ n, h n = g n) (k : Ev g r) : Ev h r := by
  obtain ⟨a, ha⟩ := k
  exact ⟨a, fun n hn => (e n).trans (ha n hn)⟩
theorem Ev.ite {α : Type} {c : Prop} [Decidable c] {g h : Nat → Option α} {r : α} (a : c → Ev g r) (b : ¬ c → Ev h r) : Ev (fun n => if c then g n else h n) r := by
  by_cases hc : c
  · exact (a hc).congr (fun n => if_pos hc)
  · exact (b hc).congr (fun n => if_neg hc)
theorem Ev.pos {α : Type} {c : Prop} [Decidable c] {g h : Nat → Option α} {r : α} (hc : c) (a : Ev g r) : Ev (fun n => if c then g n else h n) r := a.congr (fun n => if_pos hc)
theorem Ev.neg {α : Type} {c : Prop} [Decidable c] {g h : Nat → Option α} {r : α} (hc : ¬ c) (a : Ev h r) : Ev (fun n => if c then g n else h n) r := a.congr (fun n => if_neg hc)
theorem wr {x : Int} (h : -9223372036854775808 ≤ x) (h' : x ≤ 9223372036854775807) : wrap64 x = x := by unfold wrap64; omega
theorem i64b {x : Int} (h : (Lit.int .i64 x).wf = true) : -9223372036854775808 ≤ x ∧ x ≤ 9223372036854775807 := by
  simp [Lit.wf, IntKind.min, IntKind.max, IntKind.signed, IntKind.bits] at h
  omega
theorem u32b {x : Int} (h : (Lit.int .u32 x).wf = true) : 0 ≤ x ∧ x ≤ 4294967295 := by
  simp [Lit.wf, IntKind.min, IntKind.max, IntKind.signed, IntKind.bits] at h
  omega
theorem u8b {x : Int} (h : (Lit.int .u8 x).wf = true) : 0 ≤ x ∧ x ≤ 255 := by
  simp [Lit.wf, IntKind.min, IntKind.max, IntKind.signed, IntKind.bits] at h
  omega
theorem tmod_pos (x m : Int) (h : 0 ≤ x) : Int.tmod x m = x % m := Int.tmod_eq_emod_of_nonneg h
theorem tdiv_pos (x m : Int) (h : 0 ≤ x) : Int.tdiv x m = x / m := Int.tdiv_eq_ediv_of_nonneg h
theorem or_comm' (k : IntKind) (x y : Int) : Go.bits .or k x y = Go.bits .or k y x := by simp only [Go.bits, BitVec.or_comm]
end Go.Proofs.Ytcphdfjoodebiaa.PK
