/- FnExactRingPop: the law's row: for every input the law returns true, and each argument reads afterwards as before. No condition. -/
import Derived.Test.YtcphdfjoodebiaaRows
import Derived.Test.YtcphdfjoodebiaaT12
import Derived.Test.YtcphdfjoodebiaaAHR2
import Derived.WalkKit
import Derived.ProofKit
import Derived.OpenShut
import Derived.ShutString
import Derived.ChangeOld
import Derived.Below
import Derived.SizedLaws
import Derived.Carry
import Derived.ChangeArms
import Derived.Lib.SmallJoins
namespace Go.Proofs.Ytcphdfjoodebiaa.fnExactRingPop
open Go.ChangeShapes Go.WideShapes Go.ChangeAt Go.RowKit Go.AH
set_option linter.unusedVariables false
set_option linter.unusedSimpArgs false
theorem own : ownKnob Try.prog.godebug = none := by kernel_rfl
theorem laidOut : laidOutB Try.prog = true := by kernel_rfl
theorem slotC_flat (l : List (Int × Int)) : l.flatMap (fun a => [Value.int .i64 a.1, Value.int .i64 a.2]) = slotC l := by
  induction l with
  | nil => rfl
  | cons x r ih => simp [slotC, ih]
set_option maxRecDepth 100000 in
theorem lifted (os : Os) (started : os.Started) (H : Type) (enc : TypeId × Value → H) :
    ReturnsInHanded {} Try.checked os 8 .any (Rows.fnExactRingPopSpec.pre6 enc Try.prog Try.f8 Rows.fnExactRingPopRow.domain false) (Rows.fnExactRingPopSpec.post enc Try.prog Try.f8 false true false false) := by
  refine returnsInHanded_of_change_sized (C := Try.checked) own started (by kernel_rfl) Try.func8
    (ChangeSpec.witness6 (enc := enc) (C := Try.checked) false ⟨#[], #[.agg #[.int .i64 0, .int .i64 0, .slice none 0 0]], []⟩ 8 (by kernel_rfl) (by kernel_rfl) (by kernel_rfl) (by kernel_rfl)) ?_
  intro W base args ds gs before hval0 hW hcnd hsz0 _
  have hval : ∀ (j : Nat) t v, Try.f8.params[j]? = some t → args[j]? = some v → Value.okWide Try.prog W .any base t v := hval0
  have hW' := hW
  obtain ⟨p, q, hA0, hV, rfl, hfz, hnd⟩ := hW
  have hA : DataW.TrodAll enc Try.prog W 0 (fun _ => true) true Try.f8.params.toList args.toList ds p := hA0
  rw [Try.params8] at hA hval
  obtain ⟨v0, vs0, d0, ds0, p0, q0, hargs0, rfl, rfl, h0, r0⟩ := trodAll_cons hA
  obtain ⟨rfl, rfl, rfl⟩ := trodAll_nil r0
  obtain rfl : args = #[v0] := by cases args; simp_all
  obtain ⟨rfl, rfl⟩ := trodVars_none hV
  have kk0 := h0
  have lt0 : ∀ x ∈ p0, x.block < W.heap.size := by obtain ⟨m, hm⟩ := kk0; exact DataW.trod_lt m _ _ _ hm
  obtain ⟨cs0, rfl, hsz0⟩ := okWide_struct Try.underlying32 (hval 0 32 v0 rfl rfl)
  obtain ⟨fu0, hf0⟩ := h0
  obtain ⟨h, t, v, l, q, hcs, wh, wt, hml, _, hq, hvr, hat⟩ := open_two Try.underlying32 (by kernel_rfl) Try.underlying3 Try.underlying3 Try.underlying30 rfl rfl rfl (by kernel_rfl) (by kernel_rfl) (by kernel_rfl) (by decide) (TellsV.pair Try.underlying66 (by kernel_rfl) Try.underlying3 Try.underlying3 rfl rfl (by kernel_rfl) (by kernel_rfl)) hf0
  obtain rfl : cs0 = #[.int .i64 h, .int .i64 t, v] := by
    apply Array.toList_inj.1
    simpa [Value.cells] using hcs
  simp only [slotC_flat] at hat
  have hlen : l.length < 9223372036854775808 := by
    have : maxLen < 9223372036854775808 := by decide
    omega
  refine (FT.row (cs := [slotV l]) (x := .bool true) (W := W) (l := [q]) (vs := [.agg #[.int .i64 h, .int .i64 t, v]]) (f8_ft h t l (wf_i64 wh) (wf_i64 wt) hlen) rfl ?_ ?_ ?_ ?_).mono fun e W' ⟨he, bel⟩ => ?_
  · intro n c hn hne
    cases n with
    | zero =>
      simp only [List.getElem?_cons_zero, Option.some.injEq] at hn
      subst hn
      obtain ⟨a, ha, hh⟩ := hat (plN [q]) hne
      exact ⟨a, by simp [plN, ha], hh⟩
    | succ n => simp at hn
  · intro c hc y hy
    simp only [List.mem_singleton] at hc
    subst hc
    exact vals_noL _ y hy
  · intro n a hn
    cases n with
    | zero => exact hq a (by simpa using hn)
    | succ n => simp at hn
  · exact .cons (.agg (.cons (.v _) (.cons (.v _) (.cons (hvr _ _ (by simp [plN])) .nil)))) .nil
  subst he
  exact ⟨_, rfl, _, _, _, [], _, [], hW', trodAll_mk1 (shut_bool Try.underlying4 _), (trodAll_cons_mk (Below.trod laidOut (by kernel_rfl) (of_decide_eq_true (by kernel_rfl)) kk0 bel lt0) trodAll_mk0), rfl, bel.frame _, fun h => by cases h⟩
theorem over : Rows.fnExactRingPopRow.holds Try.pinned (OpenSpec.ofChange Rows.fnExactRingPopSpec) :=
  OpenClaim.holds_of_wide 8 Try.f8 rfl rfl rfl rfl rfl rfl rfl ⟨rfl, rfl, rfl, rfl, rfl⟩ rfl rfl rfl rfl rfl (by kernel_rfl) Try.func8 (by kernel_rfl)
    (of_decide_eq_true (by kernel_rfl)) (by unfold Func.isWrapper; first | (rw [if_pos (by decide +kernel)]; kernel_rfl) | (rw [if_neg (by decide +kernel)]; exact ⟨rfl, rfl⟩))
    (fun os started H enc _ => lifted os started H enc)
end Go.Proofs.Ytcphdfjoodebiaa.fnExactRingPop
namespace Go.Proofs.Ytcphdfjoodebiaa
theorem fnExactRingPop_holds : Rows.FnExactRingPopSaid := fnExactRingPop.over
end Go.Proofs.Ytcphdfjoodebiaa
#print axioms Go.Proofs.Ytcphdfjoodebiaa.fnExactRingPop_holds
