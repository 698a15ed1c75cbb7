/- Ring functions. -/
import Derived.Test.YtcphdfjoodebiaaT1
import Derived.Test.YtcphdfjoodebiaaAH16
import Derived.Laws.BitsLemmas
set_option linter.unusedVariables false
set_option linter.unusedSimpArgs false
namespace Go.Proofs.Ytcphdfjoodebiaa
open Go.AH
theorem ty22 : tyOf Try.prog 22 = some ⟨1, 24, false, .slice 51, [.slice none 0 0]⟩ := by kernel_rfl
set_option maxRecDepth 10000
/-- slots -/
def slotC : List (Int × Int) → List Value
  | [] => []
  | p :: r => .int .i64 p.1 :: .int .i64 p.2 :: slotC r
def slotV (l : List (Int × Int)) : List AV := vals (slotC l)
theorem slotV_cons (p : Int × Int) (r : List (Int × Int)) : slotV (p :: r) = iv p.1 :: iv p.2 :: slotV r := rfl
theorem slotV_len (l : List (Int × Int)) : (slotV l).length = 2 * l.length := by
  induction l with
  | nil => rfl
  | cons x r ih => simp [slotV_cons, ih]; omega
theorem slotV_seg (l : List (Int × Int)) (k : Nat) (p : Int × Int) (h : l[k]? = some p) : ((slotV l).drop (k * 2)).take 2 = [iv p.1, iv p.2] := by
  induction l generalizing k with
  | nil => simp at h
  | cons x r ih =>
    cases k with
    | zero => simp at h; subst h; rfl
    | succ k =>
      have := ih k (by simpa using h)
      rw [show (k + 1) * 2 = k * 2 + 1 + 1 by omega]
      simpa [slotV_cons] using this
theorem f36_ft (a b : List (Int × Int)) (ha : a.length < 4611686018427387904) : FT Try.prog 36 [.sl (.g 0) 0 a.length 2, .sl (.g 1) 0 b.length 2] [.ro (slotV a), .ro (slotV b)] (fun r g => r = .v (.bool (a == b)) ∧ g = [.ro (slotV a), .ro (slotV b)]) := by
  refine FT.vc (fn := Try.f36) (by kernel_rfl) rfl rfl rfl (fun base μ w => ?_)
  simp only [↓vcC, plainC, plainOps, goInt, List.getElem?_toArray, Option.bind_some, List.getElem_toArray, List.getElem_cons_succ, List.getElem_cons_zero, Option.getD_some, Option.getD_none, List.getElem?_nil, Nat.reduceSub, AV.ren, AV.rens, named, ↓sp_true, ↓sp_false, spE, pk, placesOf, fillA, pairI, asI, allEq, ↓reduceIte, Nat.ble_eq, Nat.reduceLeDiff, Nat.reduceMul, Nat.zero_mul, range1, getz, getz0, Nat.zero_mod, vals_nil, vals_cons, Blk.own.injEq, owns, List.map_cons, List.map_nil, List.cons_append, List.nil_append, Int.toNat_natCast, ↓RE, ↓rv, ↓rvs, ↓rvK, ↓fin, kvv, kval, kput, vstY, vstT, vstN, ↓plainOp, oneOf, ↓vcl, ↓vcd, ↓gv, ↓ov, argT, St.ev, tk, Nat.reduceBEq, Nat.beq, cond_true, cond_false, St.put, St.know, AV.cells, onesB, AV.one, AV.noL, AV.noLs, Value.oneCell', killI, AV.noI, AV.noIs, Hp.put, Hp.push, lput, lget, Bool.and_true, Bool.true_and, Bool.and_self, true_and, and_true, ↓pv, ↓nxt, ↓blkQ, Id.l.injEq, Id.g.injEq, reduceCtorEq, Nat.reduceEqDiff, decide_true, decide_false, Bool.not_false, Bool.not_true, ite_true, ite_false, if_true, if_false, Hp.get, Blk.cells, Nat.add_zero, Nat.zero_add, Nat.reduceAdd, List.getElem?_cons_zero, List.getElem?_cons_succ, Option.some.injEq, exists_eq_left, exists_eq, exists_eq', exists_eq_left', ne_eq, not_false_eq_true, not_true_eq_false, ↓bvP, Nat.reduceLeDiff, List.length_cons, List.length_nil, List.drop_zero, List.drop_succ_cons, List.take_succ_cons, List.take_zero, List.set_cons_zero, List.set_cons_succ, upd, En.lets, En.mine, false_implies, implies_true, forall_const, Bool.false_eq_true, eq_self, true_implies, ty3, ty51, ty22, Try.f36]
  refine ⟨fun h => ?_, fun h => ?_⟩
  · have : a.length ≠ b.length := by simp at h; omega
    have : (a == b) = false := by
      rw [Bool.eq_false_iff]
      intro h
      exact this (by rw [eq_of_beq h])
    rw [this]
  · have hl : a.length = b.length := by simp at h; omega
    refine CT.seq (CT.seq (vcC_sound _ _ _ rfl ?_))
    simp only [↓vcC, plainC, plainOps, goInt, List.getElem?_toArray, Option.bind_some, List.getElem_toArray, List.getElem_cons_succ, List.getElem_cons_zero, Option.getD_some, Option.getD_none, List.getElem?_nil, Nat.reduceSub, AV.ren, AV.rens, named, ↓sp_true, ↓sp_false, spE, pk, placesOf, fillA, pairI, asI, allEq, ↓reduceIte, Nat.ble_eq, Nat.reduceLeDiff, Nat.reduceMul, Nat.zero_mul, range1, getz, getz0, Nat.zero_mod, vals_nil, vals_cons, Blk.own.injEq, owns, List.map_cons, List.map_nil, List.cons_append, List.nil_append, Int.toNat_natCast, ↓RE, ↓rv, ↓rvs, ↓rvK, ↓fin, kvv, kval, kput, vstY, vstT, vstN, ↓plainOp, oneOf, ↓vcl, ↓vcd, ↓gv, ↓ov, argT, St.ev, tk, Nat.reduceBEq, Nat.beq, cond_true, cond_false, St.put, St.know, AV.cells, onesB, AV.one, AV.noL, AV.noLs, Value.oneCell', killI, AV.noI, AV.noIs, Hp.put, Hp.push, lput, lget, Bool.and_true, Bool.true_and, Bool.and_self, true_and, and_true, ↓pv, ↓nxt, ↓blkQ, Id.l.injEq, Id.g.injEq, reduceCtorEq, Nat.reduceEqDiff, decide_true, decide_false, Bool.not_false, Bool.not_true, ite_true, ite_false, if_true, if_false, Hp.get, Blk.cells, Nat.add_zero, Nat.zero_add, Nat.reduceAdd, List.getElem?_cons_zero, List.getElem?_cons_succ, Option.some.injEq, exists_eq_left, exists_eq, exists_eq', exists_eq_left', ne_eq, not_false_eq_true, not_true_eq_false, ↓bvP, Nat.reduceLeDiff, List.length_cons, List.length_nil, List.drop_zero, List.drop_succ_cons, List.take_succ_cons, List.take_zero, List.set_cons_zero, List.set_cons_succ, upd, En.lets, En.mine, false_implies, implies_true, forall_const, Bool.false_eq_true, eq_self, true_implies]
    refine CT.block (CT.loop (fun k : Nat => ⟨[(5, iv k), (0, .sl (.g 0) 0 a.length 2), (1, .sl (.g 1) 0 b.length 2)], ⟨[.ro (slotV a), .ro (slotV b)], []⟩⟩) (fun k => k ≤ a.length ∧ ∀ j, j < k → a[j]? = b[j]?) (fun k => a.length - k) 0 ⟨?_, .refl _, .nil⟩ ⟨by omega, by omega⟩ (fun k hk => ?_))
    · exact .cons (.refl _) (.cons (.refl _) (.cons (.refl _) .nil))
    obtain ⟨hk1, hk2⟩ := hk
    refine CT.seq (vcC_sound _ _ _ rfl ?_)
    simp only [↓vcC, plainC, plainOps, goInt, List.getElem?_toArray, Option.bind_some, List.getElem_toArray, List.getElem_cons_succ, List.getElem_cons_zero, Option.getD_some, Option.getD_none, List.getElem?_nil, Nat.reduceSub, AV.ren, AV.rens, named, ↓sp_true, ↓sp_false, spE, pk, placesOf, fillA, pairI, asI, allEq, ↓reduceIte, Nat.ble_eq, Nat.reduceLeDiff, Nat.reduceMul, Nat.zero_mul, range1, getz, getz0, Nat.zero_mod, vals_nil, vals_cons, Blk.own.injEq, owns, List.map_cons, List.map_nil, List.cons_append, List.nil_append, Int.toNat_natCast, ↓RE, ↓rv, ↓rvs, ↓rvK, ↓fin, kvv, kval, kput, vstY, vstT, vstN, ↓plainOp, oneOf, ↓vcl, ↓vcd, ↓gv, ↓ov, argT, St.ev, tk, Nat.reduceBEq, Nat.beq, cond_true, cond_false, St.put, St.know, AV.cells, onesB, AV.one, AV.noL, AV.noLs, Value.oneCell', killI, AV.noI, AV.noIs, Hp.put, Hp.push, lput, lget, Bool.and_true, Bool.true_and, Bool.and_self, true_and, and_true, ↓pv, ↓nxt, ↓blkQ, Id.l.injEq, Id.g.injEq, reduceCtorEq, Nat.reduceEqDiff, decide_true, decide_false, Bool.not_false, Bool.not_true, ite_true, ite_false, if_true, if_false, Hp.get, Blk.cells, Nat.add_zero, Nat.zero_add, Nat.reduceAdd, List.getElem?_cons_zero, List.getElem?_cons_succ, Option.some.injEq, exists_eq_left, exists_eq, exists_eq', exists_eq_left', ne_eq, not_false_eq_true, not_true_eq_false, ↓bvP, Nat.reduceLeDiff, List.length_cons, List.length_nil, List.drop_zero, List.drop_succ_cons, List.take_succ_cons, List.take_zero, List.set_cons_zero, List.set_cons_succ, upd, En.lets, En.mine, false_implies, implies_true, forall_const, Bool.false_eq_true, eq_self, true_implies, ty3, ty51, ty22]
    refine ⟨fun hlt => ?_, fun hge => ?_⟩
    · have hlt : k < a.length := by simp at hlt; omega
      have hltb : k < b.length := by omega
      have hsa := slotV_len a
      have hsb := slotV_len b
      have hga : a[k]? = some a[k] := List.getElem?_eq_getElem hlt
      have hgb : b[k]? = some b[k] := List.getElem?_eq_getElem hltb
      refine CT.seq (CT.block (CT.seq (CT.drw (by kernel_rfl) [(true, 0), (true, 1), (true, 2), (true, 3), (true, 4), (true, 5), (true, 6), (true, 7), (false, 8), (true, 9)] (fun i => decide (i ∈ [Id.g 0, Id.g 1])) rfl (by kernel_rfl) ?_)))
      simp only [↓vcC, plainC, plainOps, goInt, List.getElem?_toArray, Option.bind_some, List.getElem_toArray, List.getElem_cons_succ, List.getElem_cons_zero, Option.getD_some, Option.getD_none, List.getElem?_nil, Nat.reduceSub, AV.ren, AV.rens, named, ↓sp_true, ↓sp_false, spE, pk, placesOf, fillA, pairI, asI, allEq, ↓reduceIte, Nat.ble_eq, Nat.reduceLeDiff, Nat.reduceMul, Nat.zero_mul, range1, getz, getz0, Nat.zero_mod, vals_nil, vals_cons, Blk.own.injEq, owns, List.map_cons, List.map_nil, List.cons_append, List.nil_append, Int.toNat_natCast, ↓RE, ↓rv, ↓rvs, ↓rvK, ↓fin, kvv, kval, kput, vstY, vstT, vstN, ↓plainOp, oneOf, ↓vcl, ↓vcd, ↓gv, ↓ov, argT, St.ev, tk, Nat.reduceBEq, Nat.beq, cond_true, cond_false, St.put, St.know, AV.cells, onesB, AV.one, AV.noL, AV.noLs, Value.oneCell', killI, AV.noI, AV.noIs, Hp.put, Hp.push, lput, lget, Bool.and_true, Bool.true_and, Bool.and_self, true_and, and_true, ↓pv, ↓nxt, ↓blkQ, Id.l.injEq, Id.g.injEq, reduceCtorEq, Nat.reduceEqDiff, decide_true, decide_false, Bool.not_false, Bool.not_true, ite_true, ite_false, if_true, if_false, Hp.get, Blk.cells, Nat.add_zero, Nat.zero_add, Nat.reduceAdd, List.getElem?_cons_zero, List.getElem?_cons_succ, Option.some.injEq, exists_eq_left, exists_eq, exists_eq', exists_eq_left', ne_eq, not_false_eq_true, not_true_eq_false, ↓bvP, Nat.reduceLeDiff, List.length_cons, List.length_nil, List.drop_zero, List.drop_succ_cons, List.take_succ_cons, List.take_zero, List.set_cons_zero, List.set_cons_succ, upd, En.lets, En.mine, false_implies, implies_true, forall_const, Bool.false_eq_true, eq_self, true_implies, ty3, ty51, ty22]
      refine ⟨by omega, by omega, rfl, by omega, by omega, by omega, rfl, by omega, ?_⟩
      rw [slotV_seg a k _ hga, slotV_seg b k _ hgb]
      refine ODs.step rfl rfl rfl (OX.call0 (fn := Try.f48) (f48_ft a[k].1 a[k].2 b[k].1 b[k].2) rfl (by kernel_rfl) rfl rfl rfl rfl rfl rfl ?_ (ODs.of rfl ?_))
      · intro j hj
        simp only [List.mem_cons, List.not_mem_nil, or_false, decide_eq_true_eq] at hj
        rcases hj with rfl | rfl <;> rfl
      simp only [↓vcC, plainC, plainOps, goInt, List.getElem?_toArray, Option.bind_some, List.getElem_toArray, List.getElem_cons_succ, List.getElem_cons_zero, Option.getD_some, Option.getD_none, List.getElem?_nil, Nat.reduceSub, AV.ren, AV.rens, named, ↓sp_true, ↓sp_false, spE, pk, placesOf, fillA, pairI, asI, allEq, ↓reduceIte, Nat.ble_eq, Nat.reduceLeDiff, Nat.reduceMul, Nat.zero_mul, range1, getz, getz0, Nat.zero_mod, vals_nil, vals_cons, Blk.own.injEq, owns, List.map_cons, List.map_nil, List.cons_append, List.nil_append, Int.toNat_natCast, ↓RE, ↓rv, ↓rvs, ↓rvK, ↓fin, kvv, kval, kput, vstY, vstT, vstN, ↓plainOp, oneOf, ↓vcl, ↓vcd, ↓gv, ↓ov, argT, St.ev, tk, Nat.reduceBEq, Nat.beq, cond_true, cond_false, St.put, St.know, AV.cells, onesB, AV.one, AV.noL, AV.noLs, Value.oneCell', killI, AV.noI, AV.noIs, Hp.put, Hp.push, lput, lget, Bool.and_true, Bool.true_and, Bool.and_self, true_and, and_true, ↓pv, ↓nxt, ↓blkQ, Id.l.injEq, Id.g.injEq, reduceCtorEq, Nat.reduceEqDiff, decide_true, decide_false, Bool.not_false, Bool.not_true, ite_true, ite_false, if_true, if_false, Hp.get, Blk.cells, Nat.add_zero, Nat.zero_add, Nat.reduceAdd, List.getElem?_cons_zero, List.getElem?_cons_succ, Option.some.injEq, exists_eq_left, exists_eq, exists_eq', exists_eq_left', ne_eq, not_false_eq_true, not_true_eq_false, ↓bvP, Nat.reduceLeDiff, List.length_cons, List.length_nil, List.drop_zero, List.drop_succ_cons, List.take_succ_cons, List.take_zero, List.set_cons_zero, List.set_cons_succ, upd, En.lets, En.mine, false_implies, implies_true, forall_const, Bool.false_eq_true, eq_self, true_implies, ty3, ty51, ty22]
      refine vcC_sound _ _ _ rfl ?_
      simp only [↓vcC, plainC, plainOps, goInt, List.getElem?_toArray, Option.bind_some, List.getElem_toArray, List.getElem_cons_succ, List.getElem_cons_zero, Option.getD_some, Option.getD_none, List.getElem?_nil, Nat.reduceSub, AV.ren, AV.rens, named, ↓sp_true, ↓sp_false, spE, pk, placesOf, fillA, pairI, asI, allEq, ↓reduceIte, Nat.ble_eq, Nat.reduceLeDiff, Nat.reduceMul, Nat.zero_mul, range1, getz, getz0, Nat.zero_mod, vals_nil, vals_cons, Blk.own.injEq, owns, List.map_cons, List.map_nil, List.cons_append, List.nil_append, Int.toNat_natCast, ↓RE, ↓rv, ↓rvs, ↓rvK, ↓fin, kvv, kval, kput, vstY, vstT, vstN, ↓plainOp, oneOf, ↓vcl, ↓vcd, ↓gv, ↓ov, argT, St.ev, tk, Nat.reduceBEq, Nat.beq, cond_true, cond_false, St.put, St.know, AV.cells, onesB, AV.one, AV.noL, AV.noLs, Value.oneCell', killI, AV.noI, AV.noIs, Hp.put, Hp.push, lput, lget, Bool.and_true, Bool.true_and, Bool.and_self, true_and, and_true, ↓pv, ↓nxt, ↓blkQ, Id.l.injEq, Id.g.injEq, reduceCtorEq, Nat.reduceEqDiff, decide_true, decide_false, Bool.not_false, Bool.not_true, ite_true, ite_false, if_true, if_false, Hp.get, Blk.cells, Nat.add_zero, Nat.zero_add, Nat.reduceAdd, List.getElem?_cons_zero, List.getElem?_cons_succ, Option.some.injEq, exists_eq_left, exists_eq, exists_eq', exists_eq_left', ne_eq, not_false_eq_true, not_true_eq_false, ↓bvP, Nat.reduceLeDiff, List.length_cons, List.length_nil, List.drop_zero, List.drop_succ_cons, List.take_succ_cons, List.take_zero, List.set_cons_zero, List.set_cons_succ, upd, En.lets, En.mine, false_implies, implies_true, forall_const, Bool.false_eq_true, eq_self, true_implies, ty3, ty51, ty22]
      refine ⟨fun hne => ?_, fun heq => ?_⟩
      · have : (a == b) = false := by
          rw [Bool.eq_false_iff]
          intro h'
          have := eq_of_beq h'
          subst this
          simp at hne
        rw [this]
      have hab : a[k]? = b[k]? := by
        rw [hga, hgb]
        congr 1
        simp at heq
        exact Prod.ext heq.1 heq.2
      refine vcC_sound _ _ _ rfl ?_
      simp only [↓vcC, plainC, plainOps, goInt, List.getElem?_toArray, Option.bind_some, List.getElem_toArray, List.getElem_cons_succ, List.getElem_cons_zero, Option.getD_some, Option.getD_none, List.getElem?_nil, Nat.reduceSub, AV.ren, AV.rens, named, ↓sp_true, ↓sp_false, spE, pk, placesOf, fillA, pairI, asI, allEq, ↓reduceIte, Nat.ble_eq, Nat.reduceLeDiff, Nat.reduceMul, Nat.zero_mul, range1, getz, getz0, Nat.zero_mod, vals_nil, vals_cons, Blk.own.injEq, owns, List.map_cons, List.map_nil, List.cons_append, List.nil_append, Int.toNat_natCast, ↓RE, ↓rv, ↓rvs, ↓rvK, ↓fin, kvv, kval, kput, vstY, vstT, vstN, ↓plainOp, oneOf, ↓vcl, ↓vcd, ↓gv, ↓ov, argT, St.ev, tk, Nat.reduceBEq, Nat.beq, cond_true, cond_false, St.put, St.know, AV.cells, onesB, AV.one, AV.noL, AV.noLs, Value.oneCell', killI, AV.noI, AV.noIs, Hp.put, Hp.push, lput, lget, Bool.and_true, Bool.true_and, Bool.and_self, true_and, and_true, ↓pv, ↓nxt, ↓blkQ, Id.l.injEq, Id.g.injEq, reduceCtorEq, Nat.reduceEqDiff, decide_true, decide_false, Bool.not_false, Bool.not_true, ite_true, ite_false, if_true, if_false, Hp.get, Blk.cells, Nat.add_zero, Nat.zero_add, Nat.reduceAdd, List.getElem?_cons_zero, List.getElem?_cons_succ, Option.some.injEq, exists_eq_left, exists_eq, exists_eq', exists_eq_left', ne_eq, not_false_eq_true, not_true_eq_false, ↓bvP, Nat.reduceLeDiff, List.length_cons, List.length_nil, List.drop_zero, List.drop_succ_cons, List.take_succ_cons, List.take_zero, List.set_cons_zero, List.set_cons_succ, upd, En.lets, En.mine, false_implies, implies_true, forall_const, Bool.false_eq_true, eq_self, true_implies, ty3, ty51, ty22]
      refine ⟨k + 1, ⟨by omega, fun j hj => ?_⟩, by omega, ?_, .refl _, .nil⟩
      · by_cases e : j = k
        · subst e; exact hab
        · exact hk2 j (by omega)
      · refine .cons (.of ?_) (.cons (.refl _) (.cons (.refl _) .nil))
        simp only [↓vcC, plainC, plainOps, goInt, List.getElem?_toArray, Option.bind_some, List.getElem_toArray, List.getElem_cons_succ, List.getElem_cons_zero, Option.getD_some, Option.getD_none, List.getElem?_nil, Nat.reduceSub, AV.ren, AV.rens, named, ↓sp_true, ↓sp_false, spE, pk, placesOf, fillA, pairI, asI, allEq, ↓reduceIte, Nat.ble_eq, Nat.reduceLeDiff, Nat.reduceMul, Nat.zero_mul, range1, getz, getz0, Nat.zero_mod, vals_nil, vals_cons, Blk.own.injEq, owns, List.map_cons, List.map_nil, List.cons_append, List.nil_append, Int.toNat_natCast, ↓RE, ↓rv, ↓rvs, ↓rvK, ↓fin, kvv, kval, kput, vstY, vstT, vstN, ↓plainOp, oneOf, ↓vcl, ↓vcd, ↓gv, ↓ov, argT, St.ev, tk, Nat.reduceBEq, Nat.beq, cond_true, cond_false, St.put, St.know, AV.cells, onesB, AV.one, AV.noL, AV.noLs, Value.oneCell', killI, AV.noI, AV.noIs, Hp.put, Hp.push, lput, lget, Bool.and_true, Bool.true_and, Bool.and_self, true_and, and_true, ↓pv, ↓nxt, ↓blkQ, Id.l.injEq, Id.g.injEq, reduceCtorEq, Nat.reduceEqDiff, decide_true, decide_false, Bool.not_false, Bool.not_true, ite_true, ite_false, if_true, if_false, Hp.get, Blk.cells, Nat.add_zero, Nat.zero_add, Nat.reduceAdd, List.getElem?_cons_zero, List.getElem?_cons_succ, Option.some.injEq, exists_eq_left, exists_eq, exists_eq', exists_eq_left', ne_eq, not_false_eq_true, not_true_eq_false, ↓bvP, Nat.reduceLeDiff, List.length_cons, List.length_nil, List.drop_zero, List.drop_succ_cons, List.take_succ_cons, List.take_zero, List.set_cons_zero, List.set_cons_succ, upd, En.lets, En.mine, false_implies, implies_true, forall_const, Bool.false_eq_true, eq_self, true_implies]
        congr 2
        rw [IntKind.wrap_i64]
        omega
    · have hke : k = a.length := by simp at hge; omega
      have hab : a = b := List.ext_getElem? (fun j => by
        by_cases hj : j < k
        · exact hk2 j hj
        · rw [List.getElem?_eq_none (by omega), List.getElem?_eq_none (by omega)])
      refine vcC_sound _ _ _ rfl ?_
      simp only [↓vcC, plainC, plainOps, goInt, List.getElem?_toArray, Option.bind_some, List.getElem_toArray, List.getElem_cons_succ, List.getElem_cons_zero, Option.getD_some, Option.getD_none, List.getElem?_nil, Nat.reduceSub, AV.ren, AV.rens, named, ↓sp_true, ↓sp_false, spE, pk, placesOf, fillA, pairI, asI, allEq, ↓reduceIte, Nat.ble_eq, Nat.reduceLeDiff, Nat.reduceMul, Nat.zero_mul, range1, getz, getz0, Nat.zero_mod, vals_nil, vals_cons, Blk.own.injEq, owns, List.map_cons, List.map_nil, List.cons_append, List.nil_append, Int.toNat_natCast, ↓RE, ↓rv, ↓rvs, ↓rvK, ↓fin, kvv, kval, kput, vstY, vstT, vstN, ↓plainOp, oneOf, ↓vcl, ↓vcd, ↓gv, ↓ov, argT, St.ev, tk, Nat.reduceBEq, Nat.beq, cond_true, cond_false, St.put, St.know, AV.cells, onesB, AV.one, AV.noL, AV.noLs, Value.oneCell', killI, AV.noI, AV.noIs, Hp.put, Hp.push, lput, lget, Bool.and_true, Bool.true_and, Bool.and_self, true_and, and_true, ↓pv, ↓nxt, ↓blkQ, Id.l.injEq, Id.g.injEq, reduceCtorEq, Nat.reduceEqDiff, decide_true, decide_false, Bool.not_false, Bool.not_true, ite_true, ite_false, if_true, if_false, Hp.get, Blk.cells, Nat.add_zero, Nat.zero_add, Nat.reduceAdd, List.getElem?_cons_zero, List.getElem?_cons_succ, Option.some.injEq, exists_eq_left, exists_eq, exists_eq', exists_eq_left', ne_eq, not_false_eq_true, not_true_eq_false, ↓bvP, Nat.reduceLeDiff, List.length_cons, List.length_nil, List.drop_zero, List.drop_succ_cons, List.take_succ_cons, List.take_zero, List.set_cons_zero, List.set_cons_succ, upd, En.lets, En.mine, false_implies, implies_true, forall_const, Bool.false_eq_true, eq_self, true_implies, ty3, ty51, ty22]
      subst hab
      simp
end Go.Proofs.Ytcphdfjoodebiaa
