/- FnExactWhoHas: for every input the law returns true, and the argument reads afterwards as before. No condition. -/
import Derived.Test.YtbialjbfcdhmbaaRKit
import Derived.Test.YtbialjbfcdhmbaaPWho
namespace Go.Proofs.Ytbialjbfcdhmbaa.WhoHas
open Go.ChangeShapes Go.WideShapes Go.ChangeAt Go.RowKit Go.BH Go.Proofs.Ytbialjbfcdhmbaa.Looks
set_option linter.unusedVariables false
set_option linter.unusedSimpArgs false
set_option maxRecDepth 100000 in
theorem lifted (os : Os) (started : os.Started) (H : Type) (enc : TypeId × Value → H) :
    ReturnsInHanded {} Try.checked os 8 .any (Rows.fnExactWhoHasSpec.pre6 enc Try.prog Try.f8 Rows.fnExactWhoHasRow.domain false) (Rows.fnExactWhoHasSpec.post enc Try.prog Try.f8 false true false false) := by
  refine returnsInHanded_of_change_sized (C := Try.checked) own started (by kernel_rfl) Try.func8
    (ChangeSpec.witness6 (enc := enc) (C := Try.checked) false ⟨#[], #[.agg #[.slice none 0 0], .int .i64 0], []⟩ 8 (by kernel_rfl) (by kernel_rfl) (by kernel_rfl) (by kernel_rfl)) ?_
  intro W base args ds gs before hval0 hW hcnd hsz0 _
  have hval : ∀ (j : Nat) t v, Try.f8.params[j]? = some t → args[j]? = some v → Value.okWide Try.prog W .any base t v := hval0
  have hW' := hW
  obtain ⟨p, q, hA0, hV, rfl, hfz, hnd⟩ := hW
  have hA : DataW.TrodAll enc Try.prog W 0 (fun _ => true) true Try.f8.params.toList args.toList ds p := hA0
  rw [Try.params8] at hA hval
  obtain ⟨v0, vs0, d0, ds0, p0, q0, hargs0, rfl, rfl, h0, r0⟩ := trodAll_cons hA
  obtain ⟨v1, vs1, d1, ds1, p1, q1, hargs1, rfl, rfl, h1, r1⟩ := trodAll_cons r0
  obtain ⟨rfl, rfl, rfl⟩ := trodAll_nil r1
  obtain rfl : args = #[v0, v1] := by cases args; simp_all
  obtain ⟨rfl, rfl⟩ := trodVars_none hV
  have kk0 := h0
  have lt0 : ∀ x ∈ p0, x.block < W.heap.size := by obtain ⟨m, hm⟩ := kk0; exact DataW.trod_lt m _ _ _ hm
  have kk1 := h1
  have lt1 : ∀ x ∈ p1, x.block < W.heap.size := by obtain ⟨m, hm⟩ := kk1; exact DataW.trod_lt m _ _ _ hm
  obtain ⟨a1, rfl, rfl, rfl, w1⟩ := open_int Try.underlying3 (hval 1 3 v1 rfl rfl) h1
  obtain ⟨cs0, rfl, hsz0⟩ := okWide_struct Try.underlying33 (hval 0 33 v0 rfl rfl)
  obtain ⟨fu0, hf0⟩ := h0
  obtain ⟨xs, v, hcs, hxl, hxs, hvr, hok⟩ := open_mem hf0
  obtain rfl : cs0 = #[v] := by
    apply Array.toList_inj.1
    simpa [Value.cells] using hcs
  have hok2 : okZ [.sl [.int .u32], .int .i64] [LN xs, .i a1] = true := by
    simp only [okZ, Bool.and_eq_true] at hok ⊢
    exact ⟨hok.1, rfl, trivial⟩
  have hft := (EvF.get (tab := tab) (fes := fes) (by kernel_rfl) tabOk fesOk.all (i := 47) (fe := e47) rfl (vs := [LN xs, .i a1]) hok2 (f47 xs a1 hxl hxs)).2
  refine (FT.row (x := .bool true) (W := W) (vs := [.agg #[v], .int .i64 a1]) hft (fun r H' nx h => by rw [h.1]; rfl) (.cons (.agg (.cons hvr .nil)) (.cons (.v _) .nil))).mono fun e W' ⟨he, bel⟩ => ?_
  subst he
  exact ⟨_, rfl, _, _, _, [], _, [], hW', trodAll_mk1 (shut_bool Try.underlying4 _), (trodAll_cons_mk (Below.trod laidOut (by kernel_rfl) (of_decide_eq_true (by kernel_rfl)) kk0 bel lt0) (trodAll_cons_mk (Below.trod laidOut (by kernel_rfl) (of_decide_eq_true (by kernel_rfl)) kk1 bel lt1) trodAll_mk0)), rfl, bel.frame _, fun h => by cases h⟩
theorem over : Rows.fnExactWhoHasRow.holds Try.pinned (OpenSpec.ofChange Rows.fnExactWhoHasSpec) :=
  OpenClaim.holds_of_wide 8 Try.f8 rfl rfl rfl rfl rfl rfl rfl ⟨rfl, rfl, rfl, rfl, rfl⟩ rfl rfl rfl rfl rfl (by kernel_rfl) Try.func8 (by kernel_rfl)
    (of_decide_eq_true (by kernel_rfl)) (by unfold Func.isWrapper; first | (rw [if_pos (by decide +kernel)]; kernel_rfl) | (rw [if_neg (by decide +kernel)]; exact ⟨rfl, rfl⟩))
    (fun os started H enc _ => lifted os started H enc)
end Go.Proofs.Ytbialjbfcdhmbaa.WhoHas
namespace Go.Proofs.Ytbialjbfcdhmbaa
theorem fnExactWhoHas_holds : Rows.FnExactWhoHasSaid := WhoHas.over
end Go.Proofs.Ytbialjbfcdhmbaa
#print axioms Go.Proofs.Ytbialjbfcdhmbaa.fnExactWhoHas_holds
