/- Words for the rows: arguments that are lent, as data. -/
import Derived.Test.YtponfomfcmlfmaaMA
import Derived.WalkKit
import Derived.ProofKit
import Derived.OpenShut
import Derived.ShutString
import Derived.ChangeOld
import Derived.Below
import Derived.SizedLaws
import Derived.Carry
import Derived.ChangeArms
import Derived.Lib.SmallJoins
set_option linter.unusedVariables false
set_option linter.unusedSimpArgs false
namespace Go.BH
open Go.RowKit
def lendB : Nat → List CK → List SV → Bool
  | _, [], [] => true
  | n, k :: ks, x :: xs => (match x with
    | .lz _ e (.v m) => (match k with
      | .sl e' => CK.beqs e' e && Nat.beq m n
      | _ => false)
    | .dat k' (.v m) => CK.beq k' k && Nat.beq m n
    | _ => false) && lendB (n + 1) ks xs
  | _, _, _ => false
mutual
theorem VR.lntW {W : World} : ∀ {x : AV} {c : Value}, VR (muW W) x c → VR (muW W) x.lnt c
  | _, _, .fz h hl hc k => .fz (by rw [muW_rd] at h ⊢; exact h) (by rw [lnts_map, List.length_map]; exact hl) hc (VRs.lntW k)
  | _, _, .fz0 A c => .fz0 A c
  | _, _, .pfz h k => .pfz (by rw [muW_rd] at h ⊢; exact h) (by rw [lnts_map, List.length_map, ← lnts_map]; exact VRs.lntW k)
  | _, _, .any c => .any c
  | _, _, .v x => .v x
  | _, _, .ptr k => .ptr k
  | _, _, .sl k hc he => .sl k hc he
  | _, _, .sl0 A => .sl0 A
  | _, _, .e0 A => .e0 A
  | _, _, .ifs t x => .ifs t x
  | _, _, .agg k => .agg k
  | _, _, .tup k => .tup k
  | _, _, .fn k => .fn k
theorem VRs.lntW {W : World} : ∀ {x : List AV} {c : List Value}, VRs (muW W) x c → VRs (muW W) (AV.lnts x) c
  | _, _, .nil => .nil
  | _, _, .cons h k => .cons (VR.lntW h) (VRs.lntW k)
end
theorem VR.lendC {W : World} {e : List CK} {d : D} {c : Value} (hd : okC (.sl e) d = true) {q : Bool} (h : VR (muW W) (encC (.sl e) d) c) : VR (muW W) (.fz true e.length d.items.length (lq q (encR e d.items))) c := by
  obtain ⟨xs, rfl, _⟩ := okC_sl hd
  rw [encC_sl] at h
  cases q with
  | false => exact VR.lend h
  | true => exact VR.lntW h
theorem lend_ok {W : World} {env : List D} : ∀ {ks : List CK} {n : Nat} {xs : List SV} {ds : List D} {cs : List Value}, lendB n ks xs = true → (∀ (i : Nat) (d : D), ds[i]? = some d → env[n + i]? = some d) → okZ ks ds = true → VRs (muW W) (encZ ks ds) cs → VRs (muW W) (SV.dens env xs) cs
  | [], n, [], ds, cs, _, _, hl, h => by
    obtain rfl : ds = [] := List.eq_nil_of_length_eq_zero (okZ_length hl)
    exact h
  | [], n, _ :: _, ds, cs, hb, _, _, _ => by simp [lendB] at hb
  | _ :: _, n, [], ds, cs, hb, _, _, _ => by simp [lendB] at hb
  | k :: ks, n, x :: xs, [], cs, hb, _, hl, _ => by simp [okZ] at hl
  | k :: ks, n, x :: xs, d :: ds, cs, hb, he, hl, h => by
    simp only [lendB, Bool.and_eq_true] at hb
    simp only [okZ, Bool.and_eq_true] at hl
    rw [encZ] at h
    cases h with
    | cons h1 h2 =>
      have h0 := he 0 d rfl
      rw [Nat.add_zero] at h0
      have rest := lend_ok (n := n + 1) (env := env) hb.2 (fun i d' hi => by
        have := he (i + 1) d' (by simpa using hi)
        rwa [show n + 1 + i = n + (i + 1) by omega]) hl.2 h2
      refine .cons ?_ rest
      have hb1 := hb.1
      split at hb1
      · rename_i q e m
        split at hb1
        · rename_i e'
          simp only [Bool.and_eq_true] at hb1
          obtain rfl := CK.beqs_eq hb1.1
          obtain rfl := Nat.eq_of_beq_eq_true hb1.2
          simp only [SV.den, At.den]
          rw [h0]
          exact VR.lendC hl.1 h1
        · cases hb1
      · rename_i k' m
        simp only [Bool.and_eq_true] at hb1
        obtain rfl := CK.beq_eq hb1.1
        obtain rfl := Nat.eq_of_beq_eq_true hb1.2
        simp only [SV.den, At.den]
        rw [h0]
        exact h1
      · cases hb1
theorem VRs.head {μ : Mu} {x : AV} {xs : List AV} {c : Value} {cs : List Value} (h : VRs μ (x :: xs) (c :: cs)) : VR μ x c := by
  cases h with
  | cons h1 h2 => exact h1
/-! ### data that can be read -/
theorem wfZ_cons {k : CK} {ks : List CK} {ds : List D} (h : wfZ (k :: ks) ds) : ∃ d r, ds = d :: r ∧ wfC k d ∧ wfZ ks r := by
  cases ds with
  | nil => simp [wfZ] at h
  | cons d r =>
    rw [wfZ] at h
    exact ⟨d, r, rfl, h.1, h.2⟩
theorem wfZ_nil {ds : List D} (h : wfZ [] ds) : ds = [] := by
  cases ds with
  | nil => rfl
  | cons d r => simp [wfZ] at h
theorem int_of {k : IntKind} {d : D} (h : wfC (.int k) d) : ∃ z : Int, d = .i z ∧ (Lit.int k z).wf = true := by
  cases d with
  | i n => exact ⟨n, rfl, h⟩
  | b _ => simp [wfC] at h
  | s _ => simp [wfC] at h
  | l _ => simp [wfC] at h
theorem str_of {d : D} (h : wfC .str d) : ∃ s : ByteArray, d = .s s ∧ s.size ≤ maxLen := by
  cases d with
  | s n => exact ⟨n, rfl, h⟩
  | b _ => simp [wfC] at h
  | i _ => simp [wfC] at h
  | l _ => simp [wfC] at h
theorem ints_of {k : IntKind} {d : D} (h : wfC (.sl [.int k]) d) : ∃ zs : List Int, d = LI zs ∧ zs.length ≤ maxLen ∧ ∀ z ∈ zs, (Lit.int k z).wf = true := by
  cases d with
  | l xs =>
    rw [wfC] at h
    obtain ⟨h1, h2⟩ := h
    have key : ∀ xs : List D, (∀ x ∈ xs, wfZ [.int k] (row [.int k] x)) → ∃ zs : List Int, xs = zs.map .i ∧ ∀ z ∈ zs, (Lit.int k z).wf = true := by
      intro xs
      induction xs with
      | nil => intro _; exact ⟨[], rfl, fun z hz => by cases hz⟩
      | cons x r ih =>
        intro h
        obtain ⟨zs, rfl, hz⟩ := ih (fun y hy => h y (List.mem_cons_of_mem _ hy))
        have hx := (h x List.mem_cons_self).1
        cases x with
        | i n => exact ⟨n :: zs, rfl, fun z hz' => by
            rcases List.mem_cons.1 hz' with rfl | hz'
            · exact hx
            · exact hz z hz'⟩
        | b _ => simp [wfC] at hx
        | s _ => simp [wfC] at hx
        | l _ => simp [wfC] at hx
    obtain ⟨zs, rfl, hz⟩ := key xs h2
    exact ⟨zs, rfl, by simpa using h1, hz⟩
  | i _ => simp [wfC] at h
  | b _ => simp [wfC] at h
  | s _ => simp [wfC] at h
theorem wf_u8 {a : Int} (h : (Lit.int .u8 a).wf = true) : 0 ≤ a ∧ a < 256 := by
  simp only [Lit.wf, Bool.and_eq_true, decide_eq_true_eq] at h
  have e1 : IntKind.u8.min = 0 := by rfl
  have e2 : IntKind.u8.max = 255 := by rfl
  rw [e1, e2] at h
  omega
theorem wf_u32 {a : Int} (h : (Lit.int .u32 a).wf = true) : 0 ≤ a ∧ a < 4294967296 := by
  simp only [Lit.wf, Bool.and_eq_true, decide_eq_true_eq] at h
  have e1 : IntKind.u32.min = 0 := by rfl
  have e2 : IntKind.u32.max = 4294967295 := by rfl
  rw [e1, e2] at h
  omega
theorem wf_i64 {a : Int} (h : (Lit.int .i64 a).wf = true) : -9223372036854775808 ≤ a ∧ a < 9223372036854775808 := by
  simp only [Lit.wf, Bool.and_eq_true, decide_eq_true_eq] at h
  have e1 : IntKind.i64.min = -9223372036854775808 := by rfl
  have e2 : IntKind.i64.max = 9223372036854775807 := by rfl
  rw [e1, e2] at h
  omega
theorem maxLen_lt : maxLen < 9223372036854775808 := by decide
theorem nats_of {zs : List Int} (h : ∀ z ∈ zs, 0 ≤ z) : LI zs = LN (zs.map Int.toNat) := by
  unfold LN LI
  rw [List.map_map]
  congr 1
  apply List.map_congr_left
  intro z hz'
  have := h z hz'
  simp only [Function.comp]
  congr 1
  omega
theorem bytes_of {d : D} (h : wfC (.sl [.int .u8]) d) : ∃ xs : List Nat, d = LN xs ∧ xs.length < 9223372036854775808 ∧ ∀ n ∈ xs, n < 256 := by
  obtain ⟨zs, rfl, hl, hz⟩ := ints_of h
  refine ⟨zs.map Int.toNat, nats_of (fun z hz' => (wf_u8 (hz z hz')).1), ?_, ?_⟩
  · have := maxLen_lt
    simp
    omega
  · intro n hn
    obtain ⟨z, hz', rfl⟩ := List.mem_map.1 hn
    have := wf_u8 (hz z hz')
    omega
theorem words_of {d : D} (h : wfC (.sl [.int .u32]) d) : ∃ xs : List Nat, d = LN xs ∧ xs.length < 9223372036854775808 ∧ ∀ n ∈ xs, n < 4294967296 := by
  obtain ⟨zs, rfl, hl, hz⟩ := ints_of h
  refine ⟨zs.map Int.toNat, nats_of (fun z hz' => (wf_u32 (hz z hz')).1), ?_, ?_⟩
  · have := maxLen_lt
    simp
    omega
  · intro n hn
    obtain ⟨z, hz', rfl⟩ := List.mem_map.1 hn
    have := wf_u32 (hz z hz')
    omega
end Go.BH
