/- Rings: what popping leaves; equal lists; the count of turns. -/
import Derived.Test.YtbacblphkppigaaRingPRing6
set_option linter.unusedVariables false
set_option linter.unusedSimpArgs false
namespace Go.Proofs.Ytbacblphkppigaa.Ring
open Go.BH
set_option maxRecDepth 100000
theorem same_refl (xs : List Int) (hx : xs.length ≤ 64) : EvF fes 9 [LI xs, LI xs] [.b true] := by
  refine EvF.w (fe := e9) (t := t9) rfl rfl ?_
  rw [show envA e9.sig [LI xs, LI xs] = [LI xs, LI xs] from rfl]
  have hlen : (Pr.len [.int .i64]).eval [LI xs] = some (.i xs.length) := by simp [LI]
  (try simp only [W_out, l_pr, l_call, l_ite, l_seq, W_loop, l_blk, l_some, l_true, l_false, l_qs, l_qb, l_ql, len_LN, len_LI, Wm_some, den_k, den_v, items_l, row_one, setRow_one, rowsOf_one, unrow_one, envA, lensOf, List.map_cons, List.map_nil, List.cons_append, List.nil_append, List.append_nil, List.getElem?_cons_zero, List.getElem?_cons_succ, List.getElem?_nil, Option.getD_some, Option.getD_none, List.length_cons, List.length_nil, decide_true, decide_false, Bool.false_eq_true, Bool.true_eq_false, Bool.not_true, Bool.not_false, Bool.true_and, Bool.and_true, Bool.false_and, Bool.and_false, Bool.true_or, Bool.or_true, Bool.false_or, Bool.or_false, ↓reduceIte, if_true, reduceCtorEq, Nat.reduceEqDiff, Nat.one_ne_zero, or_true, true_or, or_false, false_or, or_self, and_true, true_and, false_and, and_false, and_self, ne_eq, not_true_eq_false, not_false_eq_true, eq_self, Int.natCast_nonneg, natLt0, Int.cast_ofNat_Int, Int.natCast_one, Int.natCast_zero, Int.reduceLT, Int.reduceLE, Int.reduceEq, Int.reduceAdd, Int.reduceMul, Int.reduceSub, Int.reduceNeg, ev_add, ev_sub, ev_mul, ev_quo, ev_rem, ev_eql, ev_neq, ev_lss, ev_leq, ev_gtr, ev_geq, ev_not, ev_and, ev_or, ev_eqb, ev_nat, ev_neg, ev_conv, ev_mx, ev_mn, ev_len, ev_lenS, ev_get, ev_ixc, ev_cut, ev_cutS, ev_rng, ev_plus, ev_idxS, ev_app, ev_mk, ev_mkz, ev_set, ev_bstr, ev_ite, ev_cat, neqS, eqlS, t9, hlen]; repeat (simp (disch := omega) only [wrap64, wrapU32, wrapU64, wrapU8]; try simp only [W_out, l_pr, l_call, l_ite, l_seq, W_loop, l_blk, l_some, l_true, l_false, l_qs, l_qb, l_ql, len_LN, len_LI, Wm_some, den_k, den_v, items_l, row_one, setRow_one, rowsOf_one, unrow_one, envA, lensOf, List.map_cons, List.map_nil, List.cons_append, List.nil_append, List.append_nil, List.getElem?_cons_zero, List.getElem?_cons_succ, List.getElem?_nil, Option.getD_some, Option.getD_none, List.length_cons, List.length_nil, decide_true, decide_false, Bool.false_eq_true, Bool.true_eq_false, Bool.not_true, Bool.not_false, Bool.true_and, Bool.and_true, Bool.false_and, Bool.and_false, Bool.true_or, Bool.or_true, Bool.false_or, Bool.or_false, ↓reduceIte, if_true, reduceCtorEq, Nat.reduceEqDiff, Nat.one_ne_zero, or_true, true_or, or_false, false_or, or_self, and_true, true_and, false_and, and_false, and_self, ne_eq, not_true_eq_false, not_false_eq_true, eq_self, Int.natCast_nonneg, natLt0, Int.cast_ofNat_Int, Int.natCast_one, Int.natCast_zero, Int.reduceLT, Int.reduceLE, Int.reduceEq, Int.reduceAdd, Int.reduceMul, Int.reduceSub, Int.reduceNeg, ev_add, ev_sub, ev_mul, ev_quo, ev_rem, ev_eql, ev_neq, ev_lss, ev_leq, ev_gtr, ev_geq, ev_not, ev_and, ev_or, ev_eqb, ev_nat, ev_neg, ev_conv, ev_mx, ev_mn, ev_len, ev_lenS, ev_get, ev_ixc, ev_cut, ev_cutS, ev_rng, ev_plus, ev_idxS, ev_app, ev_mk, ev_mkz, ev_set, ev_bstr, ev_ite, ev_cat, neqS, eqlS, t9, hlen]))
  refine LW.cnt xs.length (fun j => [.i (j : Int)]) (fun j hj => ?_) ?_ rfl
  · have d1 : (j : Int) < (xs.length : Int) := by omega
    have e1 := get_LI (k := .i64) hj
    have q1 : (j : Int) + 1 = ((j + 1 : Nat) : Int) := by omega
    (try simp only [W_out, l_pr, l_call, l_ite, l_seq, W_loop, l_blk, l_some, l_true, l_false, l_qs, l_qb, l_ql, len_LN, len_LI, Wm_some, den_k, den_v, items_l, row_one, setRow_one, rowsOf_one, unrow_one, envA, lensOf, List.map_cons, List.map_nil, List.cons_append, List.nil_append, List.append_nil, List.getElem?_cons_zero, List.getElem?_cons_succ, List.getElem?_nil, Option.getD_some, Option.getD_none, List.length_cons, List.length_nil, decide_true, decide_false, Bool.false_eq_true, Bool.true_eq_false, Bool.not_true, Bool.not_false, Bool.true_and, Bool.and_true, Bool.false_and, Bool.and_false, Bool.true_or, Bool.or_true, Bool.false_or, Bool.or_false, ↓reduceIte, if_true, reduceCtorEq, Nat.reduceEqDiff, Nat.one_ne_zero, or_true, true_or, or_false, false_or, or_self, and_true, true_and, false_and, and_false, and_self, ne_eq, not_true_eq_false, not_false_eq_true, eq_self, Int.natCast_nonneg, natLt0, Int.cast_ofNat_Int, Int.natCast_one, Int.natCast_zero, Int.reduceLT, Int.reduceLE, Int.reduceEq, Int.reduceAdd, Int.reduceMul, Int.reduceSub, Int.reduceNeg, ev_add, ev_sub, ev_mul, ev_quo, ev_rem, ev_eql, ev_neq, ev_lss, ev_leq, ev_gtr, ev_geq, ev_not, ev_and, ev_or, ev_eqb, ev_nat, ev_neg, ev_conv, ev_mx, ev_mn, ev_len, ev_lenS, ev_get, ev_ixc, ev_cut, ev_cutS, ev_rng, ev_plus, ev_idxS, ev_app, ev_mk, ev_mkz, ev_set, ev_bstr, ev_ite, ev_cat, neqS, eqlS, hlen, d1, e1, q1]; repeat (simp (disch := omega) only [wrap64, wrapU32, wrapU64, wrapU8]; try simp only [W_out, l_pr, l_call, l_ite, l_seq, W_loop, l_blk, l_some, l_true, l_false, l_qs, l_qb, l_ql, len_LN, len_LI, Wm_some, den_k, den_v, items_l, row_one, setRow_one, rowsOf_one, unrow_one, envA, lensOf, List.map_cons, List.map_nil, List.cons_append, List.nil_append, List.append_nil, List.getElem?_cons_zero, List.getElem?_cons_succ, List.getElem?_nil, Option.getD_some, Option.getD_none, List.length_cons, List.length_nil, decide_true, decide_false, Bool.false_eq_true, Bool.true_eq_false, Bool.not_true, Bool.not_false, Bool.true_and, Bool.and_true, Bool.false_and, Bool.and_false, Bool.true_or, Bool.or_true, Bool.false_or, Bool.or_false, ↓reduceIte, if_true, reduceCtorEq, Nat.reduceEqDiff, Nat.one_ne_zero, or_true, true_or, or_false, false_or, or_self, and_true, true_and, false_and, and_false, and_self, ne_eq, not_true_eq_false, not_false_eq_true, eq_self, Int.natCast_nonneg, natLt0, Int.cast_ofNat_Int, Int.natCast_one, Int.natCast_zero, Int.reduceLT, Int.reduceLE, Int.reduceEq, Int.reduceAdd, Int.reduceMul, Int.reduceSub, Int.reduceNeg, ev_add, ev_sub, ev_mul, ev_quo, ev_rem, ev_eql, ev_neq, ev_lss, ev_leq, ev_gtr, ev_geq, ev_not, ev_and, ev_or, ev_eqb, ev_nat, ev_neg, ev_conv, ev_mx, ev_mn, ev_len, ev_lenS, ev_get, ev_ixc, ev_cut, ev_cutS, ev_rng, ev_plus, ev_idxS, ev_app, ev_mk, ev_mkz, ev_set, ev_bstr, ev_ite, ev_cat, neqS, eqlS, hlen, d1, e1, q1]))
  · have d1 : ¬ (xs.length : Int) < (xs.length : Int) := by omega
    (try simp only [W_out, l_pr, l_call, l_ite, l_seq, W_loop, l_blk, l_some, l_true, l_false, l_qs, l_qb, l_ql, len_LN, len_LI, Wm_some, den_k, den_v, items_l, row_one, setRow_one, rowsOf_one, unrow_one, envA, lensOf, List.map_cons, List.map_nil, List.cons_append, List.nil_append, List.append_nil, List.getElem?_cons_zero, List.getElem?_cons_succ, List.getElem?_nil, Option.getD_some, Option.getD_none, List.length_cons, List.length_nil, decide_true, decide_false, Bool.false_eq_true, Bool.true_eq_false, Bool.not_true, Bool.not_false, Bool.true_and, Bool.and_true, Bool.false_and, Bool.and_false, Bool.true_or, Bool.or_true, Bool.false_or, Bool.or_false, ↓reduceIte, if_true, reduceCtorEq, Nat.reduceEqDiff, Nat.one_ne_zero, or_true, true_or, or_false, false_or, or_self, and_true, true_and, false_and, and_false, and_self, ne_eq, not_true_eq_false, not_false_eq_true, eq_self, Int.natCast_nonneg, natLt0, Int.cast_ofNat_Int, Int.natCast_one, Int.natCast_zero, Int.reduceLT, Int.reduceLE, Int.reduceEq, Int.reduceAdd, Int.reduceMul, Int.reduceSub, Int.reduceNeg, ev_add, ev_sub, ev_mul, ev_quo, ev_rem, ev_eql, ev_neq, ev_lss, ev_leq, ev_gtr, ev_geq, ev_not, ev_and, ev_or, ev_eqb, ev_nat, ev_neg, ev_conv, ev_mx, ev_mn, ev_len, ev_lenS, ev_get, ev_ixc, ev_cut, ev_cutS, ev_rng, ev_plus, ev_idxS, ev_app, ev_mk, ev_mkz, ev_set, ev_bstr, ev_ite, ev_cat, neqS, eqlS, hlen, d1]; repeat (simp (disch := omega) only [wrap64, wrapU32, wrapU64, wrapU8]; try simp only [W_out, l_pr, l_call, l_ite, l_seq, W_loop, l_blk, l_some, l_true, l_false, l_qs, l_qb, l_ql, len_LN, len_LI, Wm_some, den_k, den_v, items_l, row_one, setRow_one, rowsOf_one, unrow_one, envA, lensOf, List.map_cons, List.map_nil, List.cons_append, List.nil_append, List.append_nil, List.getElem?_cons_zero, List.getElem?_cons_succ, List.getElem?_nil, Option.getD_some, Option.getD_none, List.length_cons, List.length_nil, decide_true, decide_false, Bool.false_eq_true, Bool.true_eq_false, Bool.not_true, Bool.not_false, Bool.true_and, Bool.and_true, Bool.false_and, Bool.and_false, Bool.true_or, Bool.or_true, Bool.false_or, Bool.or_false, ↓reduceIte, if_true, reduceCtorEq, Nat.reduceEqDiff, Nat.one_ne_zero, or_true, true_or, or_false, false_or, or_self, and_true, true_and, false_and, and_false, and_self, ne_eq, not_true_eq_false, not_false_eq_true, eq_self, Int.natCast_nonneg, natLt0, Int.cast_ofNat_Int, Int.natCast_one, Int.natCast_zero, Int.reduceLT, Int.reduceLE, Int.reduceEq, Int.reduceAdd, Int.reduceMul, Int.reduceSub, Int.reduceNeg, ev_add, ev_sub, ev_mul, ev_quo, ev_rem, ev_eql, ev_neq, ev_lss, ev_leq, ev_gtr, ev_geq, ev_not, ev_and, ev_or, ev_eqb, ev_nat, ev_neg, ev_conv, ev_mx, ev_mn, ev_len, ev_lenS, ev_get, ev_ixc, ev_cut, ev_cutS, ev_rng, ev_plus, ev_idxS, ev_app, ev_mk, ev_mkz, ev_set, ev_bstr, ev_ite, ev_cat, neqS, eqlS, hlen, d1]))
theorem mod_ne {h j n : Nat} (h1 : 0 < j) (h2 : j < n) : (h + j) % n ≠ h % n := fun e => by
  have := Nat.sub_mod_eq_zero_of_mod_eq e
  rw [show h + j - h = j by omega, Nat.mod_eq_of_lt h2] at this
  omega
theorem slot_set_ne {S : List (Int × Int)} {k h : Nat} {p : Int × Int} (e : k % S.length ≠ h % S.length) : slot (S.set (h % S.length) p) k = slot S k := by
  unfold slot
  rw [List.length_set, List.getD_eq_getElem?_getD, List.getD_eq_getElem?_getD, List.getElem?_set_ne (Ne.symm e)]
theorem slot_set_eq {S : List (Int × Int)} {k h : Nat} {p : Int × Int} (h0 : 0 < S.length) (e : k % S.length = h % S.length) : slot (S.set (h % S.length) p) k = p := by
  unfold slot
  rw [List.length_set, List.getD_eq_getElem?_getD, e, List.getElem?_set_self (Nat.mod_lt _ h0)]
  rfl
theorem rok_gs {h : Nat} {t : Int} {S : List (Int × Int)} (g : rok h t S = true) {j : Nat} (hj : j < S.length) : gs ((h : Int) + j) t (slot S (h + j)) = true := by
  unfold rok at g
  rw [Bool.and_eq_true, List.all_eq_true] at g
  have := g.2 j (List.mem_range.2 hj)
  rwa [Int.toNat_natCast] at this
theorem pop_rok {h t : Nat} {S : List (Int × Int)} (g : rok h t S = true) (ne : h < t) : rok ((h + 1 : Nat) : Int) t (popS h S) = true := by
  obtain ⟨g1, g2, g3, g4, g5, g6⟩ := rok_hdr g
  have hl : (popS h S).length = S.length := by simp [popS]
  refine rok_all (by rw [hl]; exact ⟨g1, g2, by omega, by omega, by omega, by omega⟩) (fun j hj => ?_)
  rw [hl] at hj
  rw [Int.toNat_natCast]
  unfold popS
  rcases Nat.lt_or_ge (j + 1) S.length with q | q
  · rw [slot_set_ne (by rw [show h + 1 + j = h + (j + 1) by omega]; exact mod_ne (by omega) q)]
    have := rok_gs g (j := j + 1) q
    rw [show h + (j + 1) = h + 1 + j by omega] at this
    rw [show ((h + 1 : Nat) : Int) + (j : Int) = (h : Int) + ((j + 1 : Nat) : Int) by omega]
    exact this
  · rw [slot_set_eq (by omega) (by rw [show h + 1 + j = h + S.length by omega, Nat.add_mod_right])]
    unfold gs
    have e : ((h + 1 : Nat) : Int) + (j : Int) = (h : Int) + (S.length : Int) := by omega
    rw [e]
    exact decide_eq_true ⟨by simp, by simp, .inr ⟨by omega, rfl, rfl⟩⟩
theorem vals_cons {h m : Nat} {S : List (Int × Int)} : vals h (m + 1) S = (slot S h).2 :: vals (h + 1) m S := by
  unfold vals
  rw [List.range_succ_eq_map, List.map_cons, List.map_map]
  congr 1
  refine List.map_congr_left (fun j _ => ?_)
  simp only [Function.comp_apply]
  rw [show h + Nat.succ j = h + 1 + j by omega]
theorem pop_vals {h m : Nat} {S : List (Int × Int)} (hm : m < S.length) : vals (h + 1) m (popS h S) = vals (h + 1) m S := by
  unfold vals popS
  refine List.map_congr_left (fun j hj => ?_)
  have := List.mem_range.1 hj
  rw [slot_set_ne (by rw [show h + 1 + j = h + (j + 1) by omega]; exact mod_ne (by omega) (by omega))]
end Go.Proofs.Ytbacblphkppigaa.Ring
