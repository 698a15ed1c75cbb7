/- The plain picture of a call's memory, 16: contracts over plain blocks that are only read, and calls by them; guarded calls; endings said anew; max and min. -/
import Derived.Test.YtcphdfjoodebiaaAH15
set_option linter.unusedVariables false
set_option linter.unusedSimpArgs false
namespace Go.AH
open Go.RowKit
theorem range1 : List.range 1 = [0] := rfl
theorem getz (x : Value) : [x][0 % 1]! = x := rfl
theorem getz0 (x : Value) : [x][0]! = x := rfl
theorem vals_nil : vals [] = [] := rfl
theorem vals_cons (x : Value) (l : List Value) : vals (x :: l) = .v x :: vals l := rfl
def ros (cs : List (List Value)) : List Blk := cs.map fun c => .ro (vals c)
def owns (cs : List (List Value)) : List Blk := cs.map fun c => .own (vals c)
/-- Is there such a function, with a body? -/
def knownB (P : Program) (f : FuncId) : Bool :=
  match P.funcs[f]? with
  | some fn => !(fn.name == "runtime.NumGoroutine") && fn.body.isSome
  | none => false
theorem knownB_spec {P : Program} {f : FuncId} (h : knownB P f = true) : ∃ fn cc, P.funcs[f]? = some fn ∧ (fn.name == "runtime.NumGoroutine") = false ∧ fn.body = some cc := by
  unfold knownB at h
  cases hf : P.funcs[f]? with
  | none => simp [hf] at h
  | some fn =>
    simp only [hf, Bool.and_eq_true, Bool.not_eq_true'] at h
    obtain ⟨cc, hc⟩ := Option.isSome_iff_exists.1 h.2
    exact ⟨fn, cc, rfl, h.1, hc⟩
/-- The function, called with these arguments over these blocks of plain values, returns r and leaves new blocks. -/
def FP (P : Program) (f : FuncId) (args : List AV) (cs : List (List Value)) (r : AV) (news : List (List Value)) : Prop :=
  knownB P f = true ∧ FT P f args (ros cs) (fun r' g' => r' = r ∧ g' = ros cs ++ owns news)
inductive LentP (σ : St) : List Id → List (List Value) → Prop where
  | nil : LentP σ [] []
  | cons {i : Id} {is : List Id} {c : List Value} {cs : List (List Value)} (ha : (σ.H.get i).alive = true) (h : (σ.H.get i).cells = vals c) (k : LentP σ is cs) : LentP σ (i :: is) (c :: cs)
theorem noLs_vals (c : List Value) : AV.noLs (vals c) = true := noLs_iff.2 (vals_noL c)
theorem LentP.lend {E : En} {σ : St} {ρ : Nat → Id} : ∀ {ids : List Id} {cs : List (List Value)}, LentP σ ids cs → Lend E σ.H ρ ids (ros cs)
  | _, _, .nil => .nil
  | _, _, .cons ha h k => .ro ha (by rw [rens_vals]; exact h) (noLs_vals _) k.lend
theorem LentP.length {σ : St} : ∀ {ids : List Id} {cs : List (List Value)}, LentP σ ids cs → ids.length = cs.length
  | _, _, .nil => rfl
  | _, _, .cons _ _ k => by simp [k.length]
theorem upds_ros (ρ : Nat → Id) (H : Hp) : ∀ (ids : List Id) (cs : List (List Value)) (g' : List Blk), Hp.upds ρ H ids (ros cs) g' = H
  | [], _, _ => by simp [Hp.upds]
  | _ :: _, [], _ => by simp [Hp.upds, ros]
  | _ :: _, _ :: _, [] => by simp [Hp.upds]
  | i :: is, c :: cs, b :: bs => by
    show Hp.upds ρ H (i :: is) (.ro (vals c) :: ros cs) (b :: bs) = H
    cases b <;> simp only [Hp.upds] <;> exact upds_ros ρ H is cs bs
theorem ros_own (cs : List (List Value)) (n : Nat) : (((ros cs)[n]?).getD .dead).isOwn = false := by
  simp only [ros, List.getElem?_map]
  cases cs[n]? <;> rfl
theorem owns_ren (ρ : Nat → Id) (cs : List (List Value)) : (owns cs).map (Blk.ren ρ) = owns cs := by
  induction cs with
  | nil => rfl
  | cons c cs ih =>
    show Blk.ren ρ (.own (vals c)) :: (owns cs).map (Blk.ren ρ) = .own (vals c) :: owns cs
    rw [ih, Blk.ren, rens_vals]
section
variable {P : Program} {base : Nat} {E : En} {σ : St} {o : Oper} {kp : Id → Bool}
theorem OX.callP (ids : List Id) {f : FuncId} {args : List Operand} {tys : Array TypeId} {R : AV → St → Prop} {argsC : List AV} {cs news : List (List Value)} {r : AV} (hft : FP P f argsC cs r news) (ho : o.op = .call ⟨.value (.func f), args.toArray, tys⟩)
    (hargs : args.map σ.ev = AV.rens (named ids σ.H.g.length) argsC) (hnl : AV.noLs argsC = true) (hl : LentP σ ids cs) (hkp : ∀ j, kp j = true → (σ.H.get j).alive = true) (hR : R (r.ren (named ids σ.H.g.length)) ⟨σ.T, ⟨σ.H.g ++ owns news, σ.H.l⟩⟩) : OX P base E kp o σ R := by
  obtain ⟨hk, hft⟩ := hft
  obtain ⟨fn, cc, hf, hname, hbody⟩ := knownB_spec hk
  refine OX.call ids argsC (ros cs) ho hf hname hbody hft hargs hnl hl.lend ?_ ?_ ?_ ?_ ?_
  · intro n m i _ _ _ h
    rw [ros_own] at h
    cases h
  · intro r' g' _ n h
    simp only [gM, ros_own] at h
    cases h
  · refine .inr ?_
    rintro r' g' ⟨_, rfl⟩ n x hx
    have hplain : ∀ y ∈ ros cs ++ owns news, ∃ c, y.cells = vals c := fun y hy => by
      rcases List.mem_append.1 hy with h | h <;> simp only [ros, owns, List.mem_map] at h <;> obtain ⟨c, _, rfl⟩ := h <;> exact ⟨c, rfl⟩
    cases hn : (ros cs ++ owns news)[n]? with
    | none => rw [hn] at hx; cases hx
    | some b =>
      rw [hn] at hx
      obtain ⟨c, hc⟩ := hplain b (List.mem_of_getElem? hn)
      simp only [Option.getD_some, hc, vals, List.mem_map] at hx
      obtain ⟨v, _, rfl⟩ := hx
      rfl
  · exact fun j hj => ⟨hkp j hj, fun n _ => ros_own _ _⟩
  · rintro r' g' ⟨rfl, rfl⟩
    have : back σ ids (ros cs) (ros cs ++ owns news) = ⟨σ.T, ⟨σ.H.g ++ owns news, σ.H.l⟩⟩ := by
      have hlen : ids.length = (ros cs).length := by simp [ros, hl.length]
      simp only [back, upds_ros]
      rw [hlen, List.drop_left, owns_ren]
    rw [this]
    exact hR
theorem FP.of {f : FuncId} {args : List AV} {cs : List (List Value)} {r : AV} {news : List (List Value)} (hk : knownB P f = true) (h : FT P f args (ros cs) (fun r' g' => r' = r ∧ g' = ros cs ++ owns news)) : FP P f args cs r news := ⟨hk, h⟩
/-- From a body, as a triple of its code. -/
theorem FT.ct {f : FuncId} {fn : Func} {c : Code} {args : List AV} {g : List Blk} {R : AV → List Blk → Prop} (hf : P.funcs[f]? = some fn) (hb : fn.body = some c) (hn : Nat.ble args.length fn.ntmps = true)
    (h : ∀ base μ w, CT P base ⟨μ, w, g, gM g, fn.ntmps⟩ c (RE P fn.results.toList R) ⟨argT 0 args, ⟨g, []⟩⟩) : FT P f args g R :=
  .of_body hf hb (Nat.le_of_ble_eq_true hn) (fun base μ w => (h base μ w).mono (fun e σ hq => hq.rq))
theorem OT.gs {ops : Array Oper} {K : St → Prop} {r : List Oper} (hd : okD E.n o.dst = true) (h : gv ops o σ (fun σ' => OX P base E (fun _ => false) o σ' (fun v σ'' => OT P base E ops r K (σ''.put o.dst v))) (fun σ' => OT P base E ops r K (σ'.put o.dst (.tup [])))) : OT P base E ops (o :: r) K σ := by
  obtain ⟨σ', hσ, ⟨hw, h⟩ | ⟨hw, h⟩⟩ := gv_cases (base := base) (E := E) h
  · exact fun Q N hq μ a w hi => (OT.step hw hd h) Q N hq μ a w (hσ μ a w hi)
  · exact fun Q N hq μ a w hi => (OT.no hw hd h) Q N hq μ a w (hσ μ a w hi)
theorem ODs.gs {ops : Array Oper} {K : St → Prop} {i : Nat} {r : List (Bool × Nat)} (hi : ops[i]? = some o) (hd : okD E.n o.dst = true) (h : gv ops o σ (fun σ' => OX P base E kp o σ' (fun v σ'' => ODs P base E kp ops r K (σ''.put o.dst v))) (fun σ' => ODs P base E kp ops r K (σ'.put o.dst (.tup [])))) : ODs P base E kp ops ((false, i) :: r) K σ := fun fuel listed hs => by
  cases fuel with
  | zero => simp [schedOk] at hs
  | succ fuel =>
    simp only [schedOk, Bool.and_eq_true, cond_false] at hs
    obtain ⟨σ', hσ, ⟨hw, h⟩ | ⟨hw, h⟩⟩ := gv_cases (base := base) (E := E) h
    · exact fun μ a w hI => OD.next1 i (by simpa using hs.1) hi hw hd (h.mono (fun v σ' k => k fuel _ hs.2)) μ a w (hσ μ a w hI)
    · exact fun μ a w hI => OD.next1no i (by simpa using hs.1) hi hw hd (h fuel _ hs.2) μ a w (hσ μ a w hI)
end
theorem Levs.vrs {x y : List AV} (h : Levs x y) : ∀ μ c, VRs μ x c → VRs μ y c := by
  induction h with
  | nil => exact fun μ c k => k
  | cons h _ ih => exact fun μ c k => by cases k with | cons a b => exact .cons (h.1 _ _ a) (ih _ _ b)
theorem Levs.noLs {x y : List AV} (h : Levs x y) : AV.noLs x = true → AV.noLs y = true := by
  induction h with
  | nil => exact id
  | cons h _ ih =>
    intro k
    simp only [AV.noLs, Bool.and_eq_true] at k ⊢
    exact ⟨h.2 k.1, ih k.2⟩
theorem Lev.agg {x y : List AV} (h : Levs x y) : Lev (.agg x) (.agg y) := ⟨fun μ c k => by cases k with | agg k => exact .agg (h.vrs _ _ k), fun k => h.noLs k⟩
theorem Lev.tup {x y : List AV} (h : Levs x y) : Lev (.tup x) (.tup y) := ⟨fun μ c k => by cases k with | tup k => exact .tup (h.vrs _ _ k), fun k => h.noLs k⟩
/-- What a function leaves, said anew: the result more weakly; new empty blocks. -/
theorem FT.fin {P : Program} {f : FuncId} {args : List AV} {g : List Blk} {R R' : AV → List Blk → Prop} (h : FT P f args g R) (k : ∀ r g', R r g' → ∃ r' m, Lev r r' ∧ R' r' (g' ++ List.replicate m (.own []))) : FT P f args g R' := fun base μ w vs h1 h2 h3 h4 h5 =>
  Calls.mono (h base μ w vs h1 h2 h3 h4 h5) (fun e w' ⟨c, r, g', μ', a, b, hnl, hv, hh, hfr, hs, hlen, hk, hn⟩ => by
    obtain ⟨r', m, hl, hR⟩ := k r g' b
    have hget : ∀ i, (⟨g' ++ List.replicate m (.own []), []⟩ : Hp).get i = (⟨g', []⟩ : Hp).get i ∨ ((⟨g' ++ List.replicate m (.own []), []⟩ : Hp).get i = .own [] ∧ μ' i = none) := fun i => by
      cases i with
      | l n => exact .inl rfl
      | g n =>
        simp only [Hp.get]
        rcases Nat.lt_or_ge n g'.length with hn | hn
        · rw [List.getElem?_append_left hn]; exact .inl rfl
        · rw [List.getElem?_append_right hn, List.getElem?_replicate]
          split
          · exact .inr ⟨rfl, hfr n hn⟩
          · rw [List.getElem?_eq_none hn]; exact .inl rfl
    refine ⟨c, r', g' ++ List.replicate m (.own []), μ', a, hR, hl.2 hnl, hl.1 _ _ hv, ⟨fun i hi => ?_, fun i hi b hb => ?_, fun i j hij hi hj b d hb hd => ?_, fun i x hx => ?_, hh.old⟩, fun n hn => hfr n (by simp at hn; show g'.length ≤ n; omega), hs, by simp; omega, hk, fun n hn' hal b hb => ?_⟩
    · rcases hget i with e | ⟨e, _⟩ <;> rw [e] at hi ⊢
      · exact hh.there i hi
      · exact absurd rfl hi
    · rcases hget i with e | ⟨e, e2⟩
      · rw [e] at hi ⊢; exact hh.own i hi b hb
      · rw [e2] at hb; cases hb
    · rcases hget i with e | ⟨e, e2⟩
      · rcases hget j with f | ⟨f, f2⟩
        · rw [e] at hi; rw [f] at hj; exact hh.apart i j hij hi hj b d hb hd
        · rw [f2] at hd; cases hd
      · rw [e2] at hb; cases hb
    · rcases hget i with e | ⟨e, _⟩ <;> rw [e] at hx
      · exact hh.clean i x hx
      · cases hx
    · rcases hget (.g n) with e | ⟨e, e2⟩
      · simp only [Hp.get] at e
        rw [e] at hal
        exact hn n hn' hal b hb
      · rw [e2] at hb; cases hb)
end Go.AH
