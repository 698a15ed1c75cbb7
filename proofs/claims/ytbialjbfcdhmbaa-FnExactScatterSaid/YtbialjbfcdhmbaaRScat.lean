/- FnExactScatter: for every input the law returns true, and the argument reads afterwards as before. No condition. -/
import Derived.Test.YtbialjbfcdhmbaaRKit
import Derived.Test.YtbialjbfcdhmbaaPScat
namespace Go.Proofs.Ytbialjbfcdhmbaa.Scatter
open Go.ChangeShapes Go.WideShapes Go.ChangeAt Go.RowKit Go.BH Go.Proofs.Ytbialjbfcdhmbaa.Looks
set_option linter.unusedVariables false
set_option linter.unusedSimpArgs false
set_option maxRecDepth 100000 in
theorem lifted (os : Os) (started : os.Started) (H : Type) (enc : TypeId × Value → H) :
    ReturnsInHanded {} Try.checked os 7 .any (Rows.fnExactScatterSpec.pre6 enc Try.prog Try.f7 Rows.fnExactScatterRow.domain false) (Rows.fnExactScatterSpec.post enc Try.prog Try.f7 false true false false) := by
  refine returnsInHanded_of_change_sized (C := Try.checked) own started (by kernel_rfl) Try.func7
    (ChangeSpec.witness6 (enc := enc) (C := Try.checked) false ⟨#[], #[.agg #[.slice none 0 0]], []⟩ 8 (by kernel_rfl) (by kernel_rfl) (by kernel_rfl) (by kernel_rfl)) ?_
  intro W base args ds gs before hval0 hW hcnd hsz0 _
  have hval : ∀ (j : Nat) t v, Try.f7.params[j]? = some t → args[j]? = some v → Value.okWide Try.prog W .any base t v := hval0
  have hW' := hW
  obtain ⟨p, q, hA0, hV, rfl, hfz, hnd⟩ := hW
  have hA : DataW.TrodAll enc Try.prog W 0 (fun _ => true) true Try.f7.params.toList args.toList ds p := hA0
  rw [Try.params7] at hA hval
  obtain ⟨v0, vs0, d0, ds0, p0, q0, hargs0, rfl, rfl, h0, r0⟩ := trodAll_cons hA
  obtain ⟨rfl, rfl, rfl⟩ := trodAll_nil r0
  obtain rfl : args = #[v0] := by cases args; simp_all
  obtain ⟨rfl, rfl⟩ := trodVars_none hV
  have kk0 := h0
  have lt0 : ∀ x ∈ p0, x.block < W.heap.size := by obtain ⟨m, hm⟩ := kk0; exact DataW.trod_lt m _ _ _ hm
  obtain ⟨cs0, rfl, hsz0⟩ := okWide_struct Try.underlying33 (hval 0 33 v0 rfl rfl)
  obtain ⟨fu0, hf0⟩ := h0
  obtain ⟨xs, v, hcs, hxl, hxs, hvr, hok⟩ := open_mem hf0
  obtain rfl : cs0 = #[v] := by
    apply Array.toList_inj.1
    simpa [Value.cells] using hcs
  have hft := (EvF.get (tab := tab) (fes := fes) (by kernel_rfl) tabOk fesOk.all (i := 39) (fe := e39) rfl (vs := [LN xs]) hok (f39 xs hxl hxs)).2
  refine (FT.row (x := .bool true) (W := W) (vs := [.agg #[v]]) hft (fun r H' nx h => by rw [h.1]; rfl) (.cons (.agg (.cons hvr .nil)) .nil)).mono fun e W' ⟨he, bel⟩ => ?_
  subst he
  exact ⟨_, rfl, _, _, _, [], _, [], hW', trodAll_mk1 (shut_bool Try.underlying4 _), (trodAll_cons_mk (Below.trod laidOut (by kernel_rfl) (of_decide_eq_true (by kernel_rfl)) kk0 bel lt0) trodAll_mk0), rfl, bel.frame _, fun h => by cases h⟩
theorem over : Rows.fnExactScatterRow.holds Try.pinned (OpenSpec.ofChange Rows.fnExactScatterSpec) :=
  OpenClaim.holds_of_wide 7 Try.f7 rfl rfl rfl rfl rfl rfl rfl ⟨rfl, rfl, rfl, rfl, rfl⟩ rfl rfl rfl rfl rfl (by kernel_rfl) Try.func7 (by kernel_rfl)
    (of_decide_eq_true (by kernel_rfl)) (by unfold Func.isWrapper; first | (rw [if_pos (by decide +kernel)]; kernel_rfl) | (rw [if_neg (by decide +kernel)]; exact ⟨rfl, rfl⟩))
    (fun os started H enc _ => lifted os started H enc)
end Go.Proofs.Ytbialjbfcdhmbaa.Scatter
namespace Go.Proofs.Ytbialjbfcdhmbaa
theorem fnExactScatter_holds : Rows.FnExactScatterSaid := Scatter.over
end Go.Proofs.Ytbialjbfcdhmbaa
#print axioms Go.Proofs.Ytbialjbfcdhmbaa.fnExactScatter_holds
