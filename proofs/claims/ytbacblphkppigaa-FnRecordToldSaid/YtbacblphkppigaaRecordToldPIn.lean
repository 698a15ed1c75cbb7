/- within. -/
import Derived.Test.YtbacblphkppigaaTRecordTold
import Derived.Test.YtbacblphkppigaaMA
set_option linter.unusedVariables false
set_option linter.unusedSimpArgs false
namespace Go.Proofs.Ytbacblphkppigaa.RecordTold
open Go.BH
set_option maxRecDepth 100000
theorem f12 (x a b : Int) : EvF fes 12 [.i x, .i a, .i b] [.b (decide (a ≤ x) && decide (x ≤ b))] := by
  refine EvF.w (fe := e12) (t := t12) rfl rfl ?_
  simp only [W_out, l_pr, l_call, l_ite, l_seq, W_loop, l_blk, l_some, l_true, l_false, l_qs, l_qb, l_ql, len_LN, len_LI, Wm_some, den_k, den_v, items_l, row_one, setRow_one, rowsOf_one, unrow_one, envA, lensOf, List.map_cons, List.map_nil, List.cons_append, List.nil_append, List.append_nil, List.getElem?_cons_zero, List.getElem?_cons_succ, List.getElem?_nil, Option.getD_some, Option.getD_none, List.length_cons, List.length_nil, decide_true, decide_false, Bool.false_eq_true, Bool.true_eq_false, Bool.not_true, Bool.not_false, Bool.true_and, Bool.and_true, Bool.false_and, Bool.and_false, Bool.true_or, Bool.or_true, Bool.false_or, Bool.or_false, ↓reduceIte, if_true, reduceCtorEq, Nat.reduceEqDiff, Nat.one_ne_zero, or_true, true_or, or_false, false_or, or_self, and_true, true_and, false_and, and_false, and_self, ne_eq, not_true_eq_false, not_false_eq_true, eq_self, Int.natCast_nonneg, natLt0, Int.cast_ofNat_Int, Int.natCast_one, Int.natCast_zero, Int.reduceLT, Int.reduceLE, Int.reduceEq, Int.reduceAdd, Int.reduceMul, Int.reduceSub, Int.reduceNeg, ev_add, ev_sub, ev_mul, ev_quo, ev_rem, ev_eql, ev_neq, ev_lss, ev_leq, ev_gtr, ev_geq, ev_not, ev_and, ev_or, ev_eqb, ev_nat, ev_neg, ev_conv, ev_mx, ev_mn, ev_len, ev_lenS, ev_get, ev_ixc, ev_cut, ev_cutS, ev_rng, ev_plus, ev_idxS, ev_app, ev_mk, ev_mkz, ev_set, ev_bstr, ev_ite, ev_cat, neqS, eqlS, t12, e12, l_dec]
  by_cases h : a ≤ x <;> simp [h]
end Go.Proofs.Ytbacblphkppigaa.RecordTold
