/- FnEventBack: for every input the law returns true, and the arguments read afterwards as before. No condition. -/
import Derived.Test.YtdjfhggmcigahaaDoorRows
import Derived.Test.YtdjfhggmcigahaaDoorCards
import Derived.Test.YtdjfhggmcigahaaDoorTie
import Derived.Test.YtdjfhggmcigahaaDoorDR
import Derived.LaidMore
import Derived.Stop.LaidErr
import Derived.LaidLaws
import Derived.Lib.LaidTab
import Derived.SevenTiedAt
import Derived.Test.YtdjfhggmcigahaaDoorEBackPB5
import Derived.Test.YtdjfhggmcigahaaDoorMJ
namespace Go.Proofs.YtdjfhggmcigahaaDoor.EBack
open Go.ChangeShapes Go.WideShapes Go.ChangeAt Go.RowKit Go.BH
set_option linter.unusedVariables false
set_option linter.unusedSimpArgs false
theorem own : ownKnob Tryd.prog.godebug = none := by kernel_rfl
theorem laidOut : laidOutB Tryd.prog = true := by kernel_rfl
/-- The heap that the door leaves meets the condition. -/
theorem door_met (os : Os) (args : Array Value) : laidMet Tryd.prog Rows.fnEventBackRow.laid ((doorW os).forCall (fun _ _ => 0) ⟨#[], args, []⟩).memory :=
  laidMet_of_run' 8 (by kernel_rfl) (by kernel_rfl)
theorem gk_of {W : World} (h : laidMet Tryd.prog Rows.fnEventBackRow.laid W) (hS : W.ShapedOpen Tryd.prog) : GK (muW W).ln := by
  have h2 := laidMet.tail (laidMet.tail h)
  have h4 := laidMet.tail (laidMet.tail h2)
  exact ⟨pow_of h2, errS_of (laidMet.tail h4), errR_of h4, max_of hS⟩
set_option maxRecDepth 100000 in
theorem lifted (os : Os) (started : os.Started) (H : Type) (enc : TypeId × Value → H) :
    ReturnsInHanded {} Tryd.checked os 6 .any (fun w args => (Rows.fnEventBackSpec.pre enc Tryd.prog Tryd.f6 Rows.fnEventBackRow.domain false w args ∧ laidMet Tryd.prog Rows.fnEventBackRow.laid w) ∧ sizedMet enc Tryd.prog Tryd.f6 (OpenSpec.ofChange Rows.fnEventBackSpec) false w args) (Rows.fnEventBackSpec.post enc Tryd.prog Tryd.f6 false true false false) := by
  refine handed_shaped (C := Tryd.checked) (X := fun w _ => laidMet Tryd.prog Rows.fnEventBackRow.laid w) (fun _ _ _ hh h => h.of_heap hh) own started (by kernel_rfl) Tryd.func6
    (ChangeSpec.witness_shaped (enc := enc) (C := Tryd.checked) (os := os) (X := fun w _ => laidMet Tryd.prog Rows.fnEventBackRow.laid w) false (doorW os) #[.slice none 0 0] 8 rfl (World.shaped_of_RefB (by kernel_rfl) (by kernel_rfl)) (by kernel_rfl) (by kernel_rfl) (by kernel_rfl) (door_met os _)) ?_
  intro W base args ds gs before hval0 hW hcnd hsz0 hL hSh _
  have hval : ∀ (j : Nat) t v, Tryd.f6.params[j]? = some t → args[j]? = some v → Value.okWide Tryd.prog W .any base t v := hval0
  have hW' := hW
  obtain ⟨p, q, hA0, hV, rfl, hfz, hnd⟩ := hW
  have hA : DataW.TrodAll enc Tryd.prog W 0 (fun _ => true) true Tryd.f6.params.toList args.toList ds p := hA0
  rw [Tryd.params6] at hA hval
  obtain ⟨v0, vs0, d0, ds0, p0, q0, hargs0, rfl, rfl, h0, r0⟩ := trodAll_cons hA
  obtain ⟨rfl, rfl, rfl⟩ := trodAll_nil r0
  obtain rfl : args = #[v0] := by cases args; simp_all
  obtain ⟨rfl, rfl⟩ := trodVars_none hV
  have kk0 := h0
  have lt0 : ∀ x ∈ p0, x.block < W.heap.size := by obtain ⟨m, hm⟩ := kk0; exact DataW.trod_lt m _ _ _ hm
  obtain ⟨a0, len0, cap0, rfl⟩ := okWide_slice Tryd.underlying45 (hval 0 45 v0 rfl rfl)
  obtain ⟨fu0, hf0⟩ := h0
  obtain ⟨e0_, wf0, vr0⟩ := trod_kinds (n := 8) (e := [.sl [.int .u8]]) (by kernel_rfl) hf0
  have wg0 := wf0
  obtain ⟨x0_0, rest0_0, rfl, _, wg0⟩ := wfZ_cons wg0
  obtain rfl := wfZ_nil wg0
  have wfA := wf0
  have hft := (EvF.get (tab := tab) (fes := fes) (by kernel_rfl) tabOk fesOk.all (i := 40) (fe := e40) rfl (vs := [x0_0]) (wfZ_ok wfA) (law _ wfA)).2
  have henv : envA e40.sig [x0_0] = [x0_0] := List.append_nil _
  have hv0 : VR (muW W) ((.dat (.sl [ku8]) (.v 0) : SV).den (envA e40.sig [x0_0])) (.slice a0 len0 cap0) := by
    exact ((lend_ok (n := 0) (W := W) (env := envA e40.sig [x0_0]) (ks := [.sl [.int .u8]]) (xs := [(.dat (.sl [ku8]) (.v 0))]) (by rfl) (fun i d hi => by
      match i, hi with
      | 0, hi => exact hi
      | i + 1, hi => simp at hi
      ) (wfZ_ok wf0) vr0).head)
  refine (FT.row (x := .bool true) (W := W) (vs := [.slice a0 len0 cap0]) hft (fun r H' nx h => by rw [h.1]; rfl) (.cons hv0 .nil) (gk_of hL hSh)).mono fun e W' ⟨he, bel⟩ => ?_
  subst he
  exact ⟨_, rfl, _, _, _, [], _, [], hW', trodAll_mk1 (shut_bool Tryd.underlying4 _), (trodAll_cons_mk (Below.trod laidOut (by kernel_rfl) (of_decide_eq_true (by kernel_rfl)) kk0 bel lt0) trodAll_mk0), rfl, bel.frame _, fun h => by cases h⟩
set_option maxRecDepth 100000
def cs : List Char := [Char.ofNat 104, Char.ofNat 97, Char.ofNat 114, Char.ofNat 110, Char.ofNat 101, Char.ofNat 115, Char.ofNat 115, Char.ofNat 32, Char.ofNat 51, Char.ofNat 99, Char.ofNat 54, Char.ofNat 100, Char.ofNat 56, Char.ofNat 100, Char.ofNat 101, Char.ofNat 102, Char.ofNat 97, Char.ofNat 53, Char.ofNat 101, Char.ofNat 49, Char.ofNat 55, Char.ofNat 102, Char.ofNat 57, Char.ofNat 49, Char.ofNat 55, Char.ofNat 97, Char.ofNat 51, Char.ofNat 97, Char.ofNat 102, Char.ofNat 101, Char.ofNat 53, Char.ofNat 49, Char.ofNat 98, Char.ofNat 100, Char.ofNat 98, Char.ofNat 97, Char.ofNat 53, Char.ofNat 56, Char.ofNat 102, Char.ofNat 51, Char.ofNat 101, Char.ofNat 52, Char.ofNat 102, Char.ofNat 101, Char.ofNat 49, Char.ofNat 57, Char.ofNat 51, Char.ofNat 50, Char.ofNat 97, Char.ofNat 101, Char.ofNat 50, Char.ofNat 51, Char.ofNat 49, Char.ofNat 97, Char.ofNat 102, Char.ofNat 52, Char.ofNat 51, Char.ofNat 56, Char.ofNat 52, Char.ofNat 100, Char.ofNat 51, Char.ofNat 49, Char.ofNat 102, Char.ofNat 100, Char.ofNat 56, Char.ofNat 49, Char.ofNat 50, Char.ofNat 52, Char.ofNat 57, Char.ofNat 55, Char.ofNat 52, Char.ofNat 100, Char.ofNat 32, Char.ofNat 99, Char.ofNat 117, Char.ofNat 116, Char.ofNat 32, Char.ofNat 97, Char.ofNat 116, Char.ofNat 32, Char.ofNat 108, Char.ofNat 111, Char.ofNat 111, Char.ofNat 112, Char.ofNat 46, Char.ofNat 101, Char.ofNat 120, Char.ofNat 97, Char.ofNat 109, Char.ofNat 112, Char.ofNat 108, Char.ofNat 101, Char.ofNat 47, Char.ofNat 103, Char.ofNat 48, Char.ofNat 48, Char.ofNat 55, Char.ofNat 48, Char.ofNat 57, Char.ofNat 47, Char.ofNat 108, Char.ofNat 97, Char.ofNat 119, Char.ofNat 115, Char.ofNat 46, Char.ofNat 70, Char.ofNat 110, Char.ofNat 69, Char.ofNat 120, Char.ofNat 97, Char.ofNat 99, Char.ofNat 116, Char.ofNat 70, Char.ofNat 97, Char.ofNat 99, Char.ofNat 116, Char.ofNat 84, Char.ofNat 101, Char.ofNat 120, Char.ofNat 116, Char.ofNat 32, Char.ofNat 108, Char.ofNat 111, Char.ofNat 111, Char.ofNat 112, Char.ofNat 46, Char.ofNat 101, Char.ofNat 120, Char.ofNat 97, Char.ofNat 109, Char.ofNat 112, Char.ofNat 108, Char.ofNat 101, Char.ofNat 47, Char.ofNat 103, Char.ofNat 48, Char.ofNat 48, Char.ofNat 55, Char.ofNat 48, Char.ofNat 57, Char.ofNat 47, Char.ofNat 108, Char.ofNat 97, Char.ofNat 119, Char.ofNat 115, Char.ofNat 46, Char.ofNat 70, Char.ofNat 110, Char.ofNat 69, Char.ofNat 120, Char.ofNat 97, Char.ofNat 99, Char.ofNat 116, Char.ofNat 69, Char.ofNat 118, Char.ofNat 101, Char.ofNat 110, Char.ofNat 116, Char.ofNat 84, Char.ofNat 101, Char.ofNat 120, Char.ofNat 116, Char.ofNat 32, Char.ofNat 108, Char.ofNat 111, Char.ofNat 111, Char.ofNat 112, Char.ofNat 46, Char.ofNat 101, Char.ofNat 120, Char.ofNat 97, Char.ofNat 109, Char.ofNat 112, Char.ofNat 108, Char.ofNat 101, Char.ofNat 47, Char.ofNat 103, Char.ofNat 48, Char.ofNat 48, Char.ofNat 55, Char.ofNat 48, Char.ofNat 57, Char.ofNat 47, Char.ofNat 108, Char.ofNat 97, Char.ofNat 119, Char.ofNat 115, Char.ofNat 46, Char.ofNat 70, Char.ofNat 110, Char.ofNat 69, Char.ofNat 120, Char.ofNat 97, Char.ofNat 99, Char.ofNat 116, Char.ofNat 69, Char.ofNat 118, Char.ofNat 101, Char.ofNat 110, Char.ofNat 116, Char.ofNat 84, Char.ofNat 101, Char.ofNat 120, Char.ofNat 116, Char.ofNat 82, Char.ofNat 101, Char.ofNat 97, Char.ofNat 100, Char.ofNat 32, Char.ofNat 108, Char.ofNat 111, Char.ofNat 111, Char.ofNat 112, Char.ofNat 46, Char.ofNat 101, Char.ofNat 120, Char.ofNat 97, Char.ofNat 109, Char.ofNat 112, Char.ofNat 108, Char.ofNat 101, Char.ofNat 47, Char.ofNat 103, Char.ofNat 48, Char.ofNat 48, Char.ofNat 55, Char.ofNat 48, Char.ofNat 57, Char.ofNat 47, Char.ofNat 108, Char.ofNat 97, Char.ofNat 119, Char.ofNat 115, Char.ofNat 46, Char.ofNat 70, Char.ofNat 110, Char.ofNat 69, Char.ofNat 118, Char.ofNat 101, Char.ofNat 110, Char.ofNat 116, Char.ofNat 66, Char.ofNat 97, Char.ofNat 99, Char.ofNat 107]
theorem hS : Tryd.prog.initOrder = String.ofList cs := by kernel_rfl
theorem hL : Tryd.pinned.checked.prog.initOrder.toList = cs := toList_lit (P := Tryd.pinned.checked.prog) hS
theorem hb : behindMainWord (wordsSigns cs) = "cut".toList :: (behindMainWord (wordsSigns cs)).tail := by kernel_rfl
theorem hs : stripLifts liftWords ("cut".toList :: (behindMainWord (wordsSigns cs)).tail) = ([], "cut".toList :: (behindMainWord (wordsSigns cs)).tail) := by kernel_rfl
theorem j27 : (Tryd.pinned.checked.prog.make == some Rows.fnEventBackRow.make) = true := by rw [make_val hL hb]; rfl
theorem j25 : Tryd.pinned.checked.prog.mayEnter = true := enter_val hL hb hs (by kernel_rfl) (by kernel_rfl) (by kernel_rfl)
theorem j26 : (Rows.fnEventBackRow.lifted == Tryd.pinned.checked.prog.liftsFinal) = true := by rw [lift_val hL hb hs]; rfl
theorem closed : joinedFacts Tryd.pinned.checked.prog 6 Tryd.f6 Rows.fnEventBackSpec Rows.fnEventBackRow = true := by
  simp only [joinedFacts, Bool.and_eq_true]
  repeat' apply And.intro
  all_goals first | with_reducible exact j25 | with_reducible exact j26 | with_reducible exact j27 | kernel_rfl
theorem over : Rows.fnEventBackRow.holds Tryd.pinned (OpenSpec.ofChange Rows.fnEventBackSpec) :=
  OpenClaim.holds_of_wide 6 Tryd.f6 rfl rfl rfl rfl rfl rfl rfl ⟨rfl, rfl, rfl, rfl, rfl⟩ rfl rfl rfl rfl rfl (by kernel_rfl) Tryd.func6 closed
    (of_decide_eq_true (by kernel_rfl)) (by unfold Func.isWrapper; first | (rw [if_pos (by decide +kernel)]; kernel_rfl) | (rw [if_neg (by decide +kernel)]; exact ⟨rfl, rfl⟩))
    (fun os started H enc _ => lifted os started H enc)
end Go.Proofs.YtdjfhggmcigahaaDoor.EBack
namespace Go.Proofs.YtdjfhggmcigahaaDoor
/-- THE CARD. -/
theorem fnEventBack_holds : Rows.FnEventBackCardSaid :=
  Claim7.holds_tied_plain_at .later [] Rows.fnEventBackCard.laidKinds true Rows.fnEventBackCard.stood.harness true
    EBack.over (fun _ h => by cases h) (by kernel_rfl) (fun _ h => by cases h) fnEventBack_row_tie rfl ⟨rfl, rfl⟩ (by kernel_rfl) rfl
    (fun f fn hf hfn => by
      obtain rfl : f = 6 := Option.some.inj ((show Tryd.prog.funcNamed "loop.example/g00709/laws.FnEventBack" = some 6 by kernel_rfl).symm.trans hf) |>.symm
      obtain rfl : fn = Tryd.f6 := (Option.some.inj (Tryd.func6.symm.trans hfn)).symm
      exact ⟨by kernel_rfl, fun j t ht => by
        rw [Tryd.params6] at ht
        have hm : t ∈ [45] := by simpa using Array.mem_of_getElem? ht
        have hall : ([45].all fun u => !Tryd.prog.wantsStandIn u) = true := by kernel_rfl
        exact (show Tryd.prog.wantsStandIn t = false by simpa using List.all_eq_true.1 hall t hm)⟩)
    (by kernel_rfl)
end Go.Proofs.YtdjfhggmcigahaaDoor
#print axioms Go.Proofs.YtdjfhggmcigahaaDoor.fnEventBack_holds
