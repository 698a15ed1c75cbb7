/- FnExactLogOf: for every input the law returns true, and the arguments read afterwards as before. No condition. -/
import Derived.Test.YtponfomfcmlfmaaRows
import Derived.Test.YtponfomfcmlfmaaLogOfPLogOf
import Derived.Test.YtponfomfcmlfmaaMJ
namespace Go.Proofs.Ytponfomfcmlfmaa.LogOf
open Go.ChangeShapes Go.WideShapes Go.ChangeAt Go.RowKit Go.BH
set_option linter.unusedVariables false
set_option linter.unusedSimpArgs false
theorem own : ownKnob Try.prog.godebug = none := by kernel_rfl
theorem laidOut : laidOutB Try.prog = true := by kernel_rfl
set_option maxRecDepth 100000 in
theorem lifted (os : Os) (started : os.Started) (H : Type) (enc : TypeId × Value → H) :
    ReturnsInHanded {} Try.checked os 3 .any (Rows.fnExactLogOfSpec.pre6 enc Try.prog Try.f3 Rows.fnExactLogOfRow.domain false) (Rows.fnExactLogOfSpec.post enc Try.prog Try.f3 false true false false) := by
  refine returnsInHanded_of_change_sized (C := Try.checked) own started (by kernel_rfl) Try.func3
    (ChangeSpec.witness6 (enc := enc) (C := Try.checked) false ⟨#[], #[.slice none 0 0], []⟩ 8 (by kernel_rfl) (by kernel_rfl) (by kernel_rfl) (by kernel_rfl)) ?_
  intro W base args ds gs before hval0 hW hcnd hsz0 _
  have hval : ∀ (j : Nat) t v, Try.f3.params[j]? = some t → args[j]? = some v → Value.okWide Try.prog W .any base t v := hval0
  have hW' := hW
  obtain ⟨p, q, hA0, hV, rfl, hfz, hnd⟩ := hW
  have hA : DataW.TrodAll enc Try.prog W 0 (fun _ => true) true Try.f3.params.toList args.toList ds p := hA0
  rw [Try.params3] at hA hval
  obtain ⟨v0, vs0, d0, ds0, p0, q0, hargs0, rfl, rfl, h0, r0⟩ := trodAll_cons hA
  obtain ⟨rfl, rfl, rfl⟩ := trodAll_nil r0
  obtain rfl : args = #[v0] := by cases args; simp_all
  obtain ⟨rfl, rfl⟩ := trodVars_none hV
  have kk0 := h0
  have lt0 : ∀ x ∈ p0, x.block < W.heap.size := by obtain ⟨m, hm⟩ := kk0; exact DataW.trod_lt m _ _ _ hm
  obtain ⟨a0, len0, cap0, rfl⟩ := okWide_slice Try.underlying22 (hval 0 22 v0 rfl rfl)
  obtain ⟨fu0, hf0⟩ := h0
  obtain ⟨e0_, wf0, vr0⟩ := trod_kinds (n := 8) (e := [.sl [.int .i64, .int .i64, .int .i64, .int .i64, (.sl [.int .i64])]]) (by kernel_rfl) hf0
  have wg0 := wf0
  obtain ⟨x0_0, rest0_0, rfl, _, wg0⟩ := wfZ_cons wg0
  obtain rfl := wfZ_nil wg0
  have wfA := wf0
  have hft := (EvF.get (tab := tab) (fes := fes) (by kernel_rfl) tabOk fesOk.all (i := 36) (fe := e36) rfl (vs := [x0_0]) (wfZ_ok wfA) (law _ wfA)).2
  have henv : envA e36.sig [x0_0] = [x0_0] := List.append_nil _
  have hv0 : VR (muW W) ((.lz true [ki64, ki64, ki64, ki64, (.sl [ki64])] (.v 0) : SV).den (envA e36.sig [x0_0])) (.slice a0 len0 cap0) := by
    exact ((lend_ok (n := 0) (W := W) (env := envA e36.sig [x0_0]) (ks := [.sl [.int .i64, .int .i64, .int .i64, .int .i64, (.sl [.int .i64])]]) (xs := [(.lz true [ki64, ki64, ki64, ki64, (.sl [ki64])] (.v 0))]) (by rfl) (fun i d hi => by
      match i, hi with
      | 0, hi => exact hi
      | i + 1, hi => simp at hi
      ) (wfZ_ok wf0) vr0).head)
  refine (FT.row (x := .bool true) (W := W) (vs := [.slice a0 len0 cap0]) hft (fun r H' nx h => by rw [h.1]; rfl) (.cons hv0 .nil) trivial).mono fun e W' ⟨he, bel⟩ => ?_
  subst he
  exact ⟨_, rfl, _, _, _, [], _, [], hW', trodAll_mk1 (shut_bool Try.underlying4 _), (trodAll_cons_mk (Below.trod laidOut (by kernel_rfl) (of_decide_eq_true (by kernel_rfl)) kk0 bel lt0) trodAll_mk0), rfl, bel.frame _, fun h => by cases h⟩
set_option maxRecDepth 100000
def cs : List Char := [Char.ofNat 104, Char.ofNat 97, Char.ofNat 114, Char.ofNat 110, Char.ofNat 101, Char.ofNat 115, Char.ofNat 115, Char.ofNat 32, Char.ofNat 55, Char.ofNat 56, Char.ofNat 55, Char.ofNat 100, Char.ofNat 51, Char.ofNat 50, Char.ofNat 56, Char.ofNat 100, Char.ofNat 49, Char.ofNat 57, Char.ofNat 54, Char.ofNat 48, Char.ofNat 55, Char.ofNat 50, Char.ofNat 97, Char.ofNat 50, Char.ofNat 101, Char.ofNat 99, Char.ofNat 52, Char.ofNat 97, Char.ofNat 102, Char.ofNat 49, Char.ofNat 99, Char.ofNat 99, Char.ofNat 51, Char.ofNat 52, Char.ofNat 100, Char.ofNat 101, Char.ofNat 102, Char.ofNat 51, Char.ofNat 101, Char.ofNat 99, Char.ofNat 56, Char.ofNat 50, Char.ofNat 101, Char.ofNat 53, Char.ofNat 50, Char.ofNat 54, Char.ofNat 101, Char.ofNat 55, Char.ofNat 57, Char.ofNat 55, Char.ofNat 101, Char.ofNat 57, Char.ofNat 49, Char.ofNat 97, Char.ofNat 50, Char.ofNat 48, Char.ofNat 101, Char.ofNat 49, Char.ofNat 97, Char.ofNat 98, Char.ofNat 101, Char.ofNat 97, Char.ofNat 97, Char.ofNat 57, Char.ofNat 51, Char.ofNat 52, Char.ofNat 98, Char.ofNat 57, Char.ofNat 97, Char.ofNat 102, Char.ofNat 101, Char.ofNat 55, Char.ofNat 32, Char.ofNat 99, Char.ofNat 117, Char.ofNat 116, Char.ofNat 32, Char.ofNat 97, Char.ofNat 116, Char.ofNat 32, Char.ofNat 108, Char.ofNat 111, Char.ofNat 111, Char.ofNat 112, Char.ofNat 46, Char.ofNat 101, Char.ofNat 120, Char.ofNat 97, Char.ofNat 109, Char.ofNat 112, Char.ofNat 108, Char.ofNat 101, Char.ofNat 47, Char.ofNat 103, Char.ofNat 48, Char.ofNat 48, Char.ofNat 55, Char.ofNat 48, Char.ofNat 57, Char.ofNat 47, Char.ofNat 108, Char.ofNat 97, Char.ofNat 119, Char.ofNat 115, Char.ofNat 46, Char.ofNat 70, Char.ofNat 110, Char.ofNat 69, Char.ofNat 120, Char.ofNat 97, Char.ofNat 99, Char.ofNat 116, Char.ofNat 76, Char.ofNat 111, Char.ofNat 103, Char.ofNat 79, Char.ofNat 102, Char.ofNat 32, Char.ofNat 108, Char.ofNat 111, Char.ofNat 111, Char.ofNat 112, Char.ofNat 46, Char.ofNat 101, Char.ofNat 120, Char.ofNat 97, Char.ofNat 109, Char.ofNat 112, Char.ofNat 108, Char.ofNat 101, Char.ofNat 47, Char.ofNat 103, Char.ofNat 48, Char.ofNat 48, Char.ofNat 55, Char.ofNat 48, Char.ofNat 57, Char.ofNat 47, Char.ofNat 108, Char.ofNat 97, Char.ofNat 119, Char.ofNat 115, Char.ofNat 46, Char.ofNat 70, Char.ofNat 110, Char.ofNat 69, Char.ofNat 120, Char.ofNat 97, Char.ofNat 99, Char.ofNat 116, Char.ofNat 76, Char.ofNat 111, Char.ofNat 103, Char.ofNat 82, Char.ofNat 101, Char.ofNat 97, Char.ofNat 100]
theorem hS : Try.prog.initOrder = String.ofList cs := by kernel_rfl
theorem hL : Try.pinned.checked.prog.initOrder.toList = cs := toList_lit (P := Try.pinned.checked.prog) hS
theorem hb : behindMainWord (wordsSigns cs) = "cut".toList :: (behindMainWord (wordsSigns cs)).tail := by kernel_rfl
theorem hs : stripLifts liftWords ("cut".toList :: (behindMainWord (wordsSigns cs)).tail) = ([], "cut".toList :: (behindMainWord (wordsSigns cs)).tail) := by kernel_rfl
theorem j27 : (Try.pinned.checked.prog.make == some Rows.fnExactLogOfRow.make) = true := by rw [make_val hL hb]; rfl
theorem j25 : Try.pinned.checked.prog.mayEnter = true := enter_val hL hb hs (by kernel_rfl) (by kernel_rfl) (by kernel_rfl)
theorem j26 : (Rows.fnExactLogOfRow.lifted == Try.pinned.checked.prog.liftsFinal) = true := by rw [lift_val hL hb hs]; rfl
theorem closed : joinedFacts Try.pinned.checked.prog 3 Try.f3 Rows.fnExactLogOfSpec Rows.fnExactLogOfRow = true := by
  simp only [joinedFacts, Bool.and_eq_true]
  repeat' apply And.intro
  all_goals first | with_reducible exact j25 | with_reducible exact j26 | with_reducible exact j27 | kernel_rfl
theorem over : Rows.fnExactLogOfRow.holds Try.pinned (OpenSpec.ofChange Rows.fnExactLogOfSpec) :=
  OpenClaim.holds_of_wide 3 Try.f3 rfl rfl rfl rfl rfl rfl rfl ⟨rfl, rfl, rfl, rfl, rfl⟩ rfl rfl rfl rfl rfl (by kernel_rfl) Try.func3 closed
    (of_decide_eq_true (by kernel_rfl)) (by unfold Func.isWrapper; first | (rw [if_pos (by decide +kernel)]; kernel_rfl) | (rw [if_neg (by decide +kernel)]; exact ⟨rfl, rfl⟩))
    (fun os started H enc _ => lifted os started H enc)
end Go.Proofs.Ytponfomfcmlfmaa.LogOf
namespace Go.Proofs.Ytponfomfcmlfmaa
theorem fnExactLogOf_holds : Rows.FnExactLogOfSaid := LogOf.over
end Go.Proofs.Ytponfomfcmlfmaa
#print axioms Go.Proofs.Ytponfomfcmlfmaa.fnExactLogOf_holds
