/- FnExactRingTurn: the law's row: for every input the law returns true, and each argument reads afterwards as before. No condition. -/
import Derived.Test.YtcphdfjoodebiaaRows
import Derived.Test.YtcphdfjoodebiaaPureFnExactRingTurn
import Derived.Test.YtcphdfjoodebiaaRK
import Derived.WalkKit
import Derived.ProofKit
import Derived.OpenShut
import Derived.ShutString
import Derived.ChangeOld
import Derived.Below
import Derived.SizedLaws
import Derived.Carry
import Derived.ChangeArms
import Derived.Lib.SmallJoins
namespace Go.Proofs.Ytcphdfjoodebiaa.fnExactRingTurn
open Go.ChangeShapes Go.WideShapes Go.ChangeAt Go.RowKit Go.Proofs.Ytcphdfjoodebiaa.PFnExactRingTurn Go.Proofs.YtcphdfjoodebiaaW.PrintWords
set_option linter.unusedVariables false
theorem own : ownKnob Try.prog.godebug = none := by kernel_rfl
theorem laidOut : laidOutB Try.prog = true := by kernel_rfl
theorem tells32 : RK.Tells Try.prog 32 (Kd.pair (Kd.int .i64) (Kd.pair (Kd.int .i64) (Kd.slice 66 k66))) (fun x => (fun x => (Lit.int .i64 x).wf = true) x.1 ∧ (fun x => (fun x => (Lit.int .i64 x).wf = true) x.1 ∧ (fun xs => xs.length ≤ maxLen ∧ ∀ x ∈ xs, (fun x : S66 => (fun x => (fun x => (Lit.int .i64 x).wf = true) x.1 ∧ (fun x => (Lit.int .i64 x).wf = true) x.2) (x.f0, x.f1)) x) x.2) x.2) := (RK.Tells.struct Try.underlying32 (by kernel_rfl) (RK.TellsF.cons rfl rfl (RK.Tells.int Try.underlying3 (by kernel_rfl)) (RK.TellsF.cons rfl rfl (RK.Tells.int Try.underlying3 (by kernel_rfl)) (RK.TellsF.one rfl (RK.Tells.slice Try.underlying30 (by kernel_rfl) (RK.Tells.iso (d := _) (RK.Tells.struct Try.underlying66 (by kernel_rfl) (RK.TellsF.cons rfl rfl (RK.Tells.int Try.underlying3 (by kernel_rfl)) (RK.TellsF.one rfl (RK.Tells.int Try.underlying3 (by kernel_rfl))))) (fun x : S66 => (x.f0, x.f1)) (fun p => ⟨p.1, p.2⟩) (fun _ => rfl)))))))
set_option maxRecDepth 100000 in
theorem lifted (os : Os) (started : os.Started) (H : Type) (enc : TypeId × Value → H) :
    ReturnsInHanded {} Try.checked os 5 .any (Rows.fnExactRingTurnSpec.pre6 enc Try.prog Try.f5 Rows.fnExactRingTurnRow.domain false) (Rows.fnExactRingTurnSpec.post enc Try.prog Try.f5 false true false false) := by
  refine returnsInHanded_of_change_sized (C := Try.checked) own started (by kernel_rfl) Try.func5
    (ChangeSpec.witness6 (enc := enc) (C := Try.checked) false ⟨#[], #[.agg #[.int .i64 0, .int .i64 0, .slice none 0 0], .int .i64 0], []⟩ 8 (by kernel_rfl) (by kernel_rfl) (by kernel_rfl) (by kernel_rfl)) ?_
  intro W base args ds gs before hval0 hW hcnd hsz0 _
  have hval : ∀ (j : Nat) t v, Try.f5.params[j]? = some t → args[j]? = some v → Value.okWide Try.prog W .any base t v := hval0
  have hW' := hW
  obtain ⟨p, q, hA0, hV, rfl, hfz, hnd⟩ := hW
  have hA : DataW.TrodAll enc Try.prog W 0 (fun _ => true) true Try.f5.params.toList args.toList ds p := hA0
  rw [Try.params5] at hA hval
  obtain ⟨v0, vs0, d0, ds0, p0, q0, hargs0, rfl, rfl, h0, r0⟩ := trodAll_cons hA
  obtain ⟨v1, vs1, d1, ds1, p1, q1, hargs1, rfl, rfl, h1, r1⟩ := trodAll_cons r0
  obtain ⟨rfl, rfl, rfl⟩ := trodAll_nil r1
  obtain rfl : args = #[v0, v1] := by cases args; simp_all
  obtain ⟨rfl, rfl⟩ := trodVars_none hV
  have kk0 := h0
  have lt0 : ∀ x ∈ p0, x.block < W.heap.size := by obtain ⟨m, hm⟩ := kk0; exact DataW.trod_lt m _ _ _ hm
  have kk1 := h1
  have lt1 : ∀ x ∈ p1, x.block < W.heap.size := by obtain ⟨m, hm⟩ := kk1; exact DataW.trod_lt m _ _ _ hm
  obtain ⟨cs0, rfl, hsz0⟩ := okWide_struct Try.underlying32 (hval 0 32 v0 rfl rfl)
  obtain ⟨fu0, hf0⟩ := h0
  obtain ⟨⟨a0_0, a0_1, l0_2⟩, hK0, hok0⟩ := tells32.2 hf0
  obtain ⟨x0_0, y0_0, e0_0, rfl, hK00n0⟩ := hK0
  obtain ⟨x0_1, y0_1, e0_1, rfl, hK00n1⟩ := hK00n0
  obtain ⟨A0_2, c0_2, rfl, hle0_2, hC0_2⟩ := hK00n1
  subst e0_1
  obtain rfl : cs0 = #[.int .i64 a0_0, .int .i64 a0_1, .slice A0_2 l0_2.length c0_2] := by
    have := e0_0
    apply Array.toList_inj.1
    simpa [Value.cells] using this
  obtain ⟨w0_0, w0_1, ⟨hm0_2, w0_2⟩⟩ := hok0
  obtain ⟨a1, rfl, rfl, rfl, w1⟩ := open_int Try.underlying3 (hval 1 3 v1 rfl rfl) h1
  obtain ⟨k, hk⟩ := Pure.FnExactRingTurn a0_0 a0_1 l0_2 a1 w0_0 w0_1 hm0_2 w0_2 w1
  refine (laws_FnExactRingTurn.calls (a0_0 := a0_0) (a0_1 := a0_1) (A0_2 := A0_2) (c0_2 := c0_2) (l0_2 := l0_2) (hr0_2 := hC0_2) (hc0_2 := hle0_2) (a1 := a1) (r := true) (w := W) (h := hk)).mono fun e W' ⟨he, bel⟩ => ?_
  subst he
  exact ⟨_, rfl, _, _, _, [], _, [], hW', trodAll_mk1 (shut_bool Try.underlying4 _), (trodAll_cons_mk (Below.trod laidOut (by kernel_rfl) (of_decide_eq_true (by kernel_rfl)) kk0 bel lt0) (trodAll_cons_mk (Below.trod laidOut (by kernel_rfl) (of_decide_eq_true (by kernel_rfl)) kk1 bel lt1) trodAll_mk0)), rfl, bel.frame _, fun h => by cases h⟩
theorem over : Rows.fnExactRingTurnRow.holds Try.pinned (OpenSpec.ofChange Rows.fnExactRingTurnSpec) :=
  OpenClaim.holds_of_wide 5 Try.f5 rfl rfl rfl rfl rfl rfl rfl ⟨rfl, rfl, rfl, rfl, rfl⟩ rfl rfl rfl rfl rfl (by kernel_rfl) Try.func5 (by kernel_rfl)
    (of_decide_eq_true (by kernel_rfl)) (by unfold Func.isWrapper; first | (rw [if_pos (by decide +kernel)]; kernel_rfl) | (rw [if_neg (by decide +kernel)]; exact ⟨rfl, rfl⟩))
    (fun os started H enc _ => lifted os started H enc)
end Go.Proofs.Ytcphdfjoodebiaa.fnExactRingTurn
namespace Go.Proofs.Ytcphdfjoodebiaa
theorem fnExactRingTurn_holds : Rows.FnExactRingTurnSaid := fnExactRingTurn.over
end Go.Proofs.Ytcphdfjoodebiaa
#print axioms Go.Proofs.Ytcphdfjoodebiaa.fnExactRingTurn_holds
