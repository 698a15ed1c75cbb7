/- AuditSum: what it counts. -/
import Derived.Test.YtbacblphkppigaaUsesQA
set_option linter.unusedVariables false
set_option linter.unusedSimpArgs false
namespace Go.Proofs.Ytbacblphkppigaa.Uses
open Go.BH
set_option maxRecDepth 100000
/-- How many words of a kind lie before a place. -/
def cn (p : Nat → Bool) (xs : List Nat) (i : Nat) : Nat := (xs.take i).countP p
theorem cn_zero (p : Nat → Bool) (xs : List Nat) : cn p xs 0 = 0 := by simp [cn]
theorem cn_succ (p : Nat → Bool) {xs : List Nat} {i : Nat} (h : i < xs.length) : cn p xs (i + 1) = cn p xs i + if p xs[i] then 1 else 0 := by
  unfold cn
  rw [List.take_add_one, List.getElem?_eq_getElem h, List.countP_append]
  simp [List.countP_cons]
theorem cn_le (p : Nat → Bool) (xs : List Nat) (i : Nat) : cn p xs i ≤ xs.length := by
  unfold cn
  exact Nat.le_trans List.countP_le_length (by rw [List.length_take]; omega)
def pF (w : Nat) : Bool := decide (kd w = 0)
def pP (w : Nat) : Bool := decide (kd w = 1)
def pL (w : Nat) : Bool := decide (kd w ≠ 0 ∧ kd w ≠ 1)
def sumA (xs : List Nat) : List D := if okm xs = true then [.i (cn pF xs xs.length : Nat), .i (cn pP xs xs.length : Nat), .i (cn pL xs xs.length : Nat)] else [.i (-1), .i (-1), .i (-1)]
set_option maxHeartbeats 1000000 in
theorem f87 (xs : List Nat) (hl : xs.length < 9223372036854775808) (hx : ∀ n ∈ xs, n < 4294967296) : EvF fes 87 [LN xs] (sumA xs) := by
  refine EvF.w (fe := e87) (t := t87) rfl rfl ?_
  rw [show envA e87.sig [LN xs] = [LN xs] from rfl]
  simp only [Ja,Jb,Jc,Jd,Je,Jf,Jg,Jh,Ji,Jj,Jk,Jl,Jm,Jn,Jo,Jp,Jq,Jr,Js,Jt,Ju,Jv,Jw,envA,lensOf,Jx,Jy,Jz,JA,JB,JC,JD,JE,JF,JG,JH,JI,JJ,JK,JL,JM,JN,JO,JP,JQ,JR,JS,JT,JU,JV,JW,↓reduceIte,if_true,reduceCtorEq,Nat.reduceEqDiff,JX,JY,JZ,J0,J1,J2,J3,J4,J5,J6,J7,Ya,Yb,Yc,Yd,Ye,Yf,Int.cast_ofNat_Int,Yg,Yh,Int.reduceLT,Int.reduceLE,Int.reduceEq,Int.reduceAdd,Int.reduceMul,Int.reduceSub,Int.reduceNeg,Yi,Yj,Yk,Yl,Ym,Yn,Yo,Yp,Yq,Yr,Ys,Yt,Yu,Yv,Yw,Yx,Yy,Yz,YA,YB,YC,YD,YE,YF,YG,YH,YI,YJ,YK,YL,YM,YN,YO,YP,YQ,YR,YS,YT, t87]
  refine WC.mk (f78 xs hl hx) ?_
  unfold sumA
  cases hk : okm xs with
  | false => simp only [Ja,Jb,Jc,Jd,Je,Jf,Jg,Jh,Ji,Jj,Jk,Jl,Jm,Jn,Jo,Jp,Jq,Jr,Js,Jt,Ju,Jv,Jw,envA,lensOf,Jx,Jy,Jz,JA,JB,JC,JD,JE,JF,JG,JH,JI,JJ,JK,JL,JM,JN,JO,JP,JQ,JR,JS,JT,JU,JV,JW,↓reduceIte,if_true,reduceCtorEq,Nat.reduceEqDiff,JX,JY,JZ,J0,J1,J2,J3,J4,J5,J6,J7,Ya,Yb,Yc,Yd,Ye,Yf,Int.cast_ofNat_Int,Yg,Yh,Int.reduceLT,Int.reduceLE,Int.reduceEq,Int.reduceAdd,Int.reduceMul,Int.reduceSub,Int.reduceNeg,Yi,Yj,Yk,Yl,Ym,Yn,Yo,Yp,Yq,Yr,Ys,Yt,Yu,Yv,Yw,Yx,Yy,Yz,YA,YB,YC,YD,YE,YF,YG,YH,YI,YJ,YK,YL,YM,YN,YO,YP,YQ,YR,YS,YT]
  | true =>
  obtain ⟨h16, hall⟩ := okm_all' hk
  simp only [Ja,Jb,Jc,Jd,Je,Jf,Jg,Jh,Ji,Jj,Jk,Jl,Jm,Jn,Jo,Jp,Jq,Jr,Js,Jt,Ju,Jv,Jw,envA,lensOf,Jx,Jy,Jz,JA,JB,JC,JD,JE,JF,JG,JH,JI,JJ,JK,JL,JM,JN,JO,JP,JQ,JR,JS,JT,JU,JV,JW,↓reduceIte,if_true,reduceCtorEq,Nat.reduceEqDiff,JX,JY,JZ,J0,J1,J2,J3,J4,J5,J6,J7,Ya,Yb,Yc,Yd,Ye,Yf,Int.cast_ofNat_Int,Yg,Yh,Int.reduceLT,Int.reduceLE,Int.reduceEq,Int.reduceAdd,Int.reduceMul,Int.reduceSub,Int.reduceNeg,Yi,Yj,Yk,Yl,Ym,Yn,Yo,Yp,Yq,Yr,Ys,Yt,Yu,Yv,Yw,Yx,Yy,Yz,YA,YB,YC,YD,YE,YF,YG,YH,YI,YJ,YK,YL,YM,YN,YO,YP,YQ,YR,YS,YT, len_LN]
  refine LW.cnt xs.length (fun j => [.i (cn pF xs j : Nat), .i (cn pP xs j : Nat), .i (cn pL xs j : Nat), .i (j : Nat)]) (fun j hj => ?_) ?_ (by simp [cn_zero])
  · have hj' : (j : Int) < xs.length := by omega
    have hw := hall _ (List.getElem_mem hj)
    have s1 := cn_succ pF hj
    have s2 := cn_succ pP hj
    have s3 := cn_succ pL hj
    have b1 := cn_le pF xs j
    have b2 := cn_le pP xs j
    have b3 := cn_le pL xs j
    have hc := f74 _ (hx _ (List.getElem_mem hj))
    have hg : (Pr.get [ku32] 0).eval [LN xs, .i (j : Int)] = some (.i (xs[j] : Nat)) := get_LN hj
    have jq : (j : Int) + 1 = ((j + 1 : Nat) : Int) := by omega
    generalize xs[j] = w at hw s1 s2 s3 hc hg
    simp only [rdw, hw, if_true] at hc
    (repeat (first | simp (disch := omega) only [wrap64, wrapU32, wrapU64, wrapU8] | simp only [Ja,Jb,Jc,Jd,Je,Jf,Jg,Jh,Ji,Jj,Jk,Jl,Jm,Jn,Jo,Jp,Jq,Jr,Js,Jt,Ju,Jv,Jw,envA,lensOf,Jx,Jy,Jz,JA,JB,JC,JD,JE,JF,JG,JH,JI,JJ,JK,JL,JM,JN,JO,JP,JQ,JR,JS,JT,JU,JV,JW,↓reduceIte,if_true,reduceCtorEq,Nat.reduceEqDiff,JX,JY,JZ,J0,J1,J2,J3,J4,J5,J6,J7,Ya,Yb,Yc,Yd,Ye,Yf,Int.cast_ofNat_Int,Yg,Yh,Int.reduceLT,Int.reduceLE,Int.reduceEq,Int.reduceAdd,Int.reduceMul,Int.reduceSub,Int.reduceNeg,Yi,Yj,Yk,Yl,Ym,Yn,Yo,Yp,Yq,Yr,Ys,Yt,Yu,Yv,Yw,Yx,Yy,Yz,YA,YB,YC,YD,YE,YF,YG,YH,YI,YJ,YK,YL,YM,YN,YO,YP,YQ,YR,YS,YT, len_LN, hj', hg]))
    refine WC.mk hc ?_
    by_cases k0 : kd w = 0
    · have e1 : cn pF xs (j + 1) = cn pF xs j + 1 := by rw [s1]; simp [pF, k0]
      have e2 : cn pP xs (j + 1) = cn pP xs j := by rw [s2]; simp [pP, k0]
      have e3 : cn pL xs (j + 1) = cn pL xs j := by rw [s3]; simp [pL, k0]
      have q : (cn pF xs j : Int) + 1 = ((cn pF xs (j + 1) : Nat) : Int) := by omega
      rw [e2, e3]
      generalize cn pF xs (j + 1) = v at q e1
      (repeat (first | simp (disch := omega) only [wrap64, wrapU32, wrapU64, wrapU8] | simp only [Ja,Jb,Jc,Jd,Je,Jf,Jg,Jh,Ji,Jj,Jk,Jl,Jm,Jn,Jo,Jp,Jq,Jr,Js,Jt,Ju,Jv,Jw,envA,lensOf,Jx,Jy,Jz,JA,JB,JC,JD,JE,JF,JG,JH,JI,JJ,JK,JL,JM,JN,JO,JP,JQ,JR,JS,JT,JU,JV,JW,↓reduceIte,if_true,reduceCtorEq,Nat.reduceEqDiff,JX,JY,JZ,J0,J1,J2,J3,J4,J5,J6,J7,Ya,Yb,Yc,Yd,Ye,Yf,Int.cast_ofNat_Int,Yg,Yh,Int.reduceLT,Int.reduceLE,Int.reduceEq,Int.reduceAdd,Int.reduceMul,Int.reduceSub,Int.reduceNeg,Yi,Yj,Yk,Yl,Ym,Yn,Yo,Yp,Yq,Yr,Ys,Yt,Yu,Yv,Yw,Yx,Yy,Yz,YA,YB,YC,YD,YE,YF,YG,YH,YI,YJ,YK,YL,YM,YN,YO,YP,YQ,YR,YS,YT, k0, q, jq]))
    · have k0' : ¬ (kd w : Int) = 0 := by omega
      by_cases k1 : kd w = 1
      · have e1 : cn pF xs (j + 1) = cn pF xs j := by rw [s1]; simp [pF, k1]
        have e2 : cn pP xs (j + 1) = cn pP xs j + 1 := by rw [s2]; simp [pP, k1]
        have e3 : cn pL xs (j + 1) = cn pL xs j := by rw [s3]; simp [pL, k1]
        have q : (cn pP xs j : Int) + 1 = ((cn pP xs (j + 1) : Nat) : Int) := by omega
        rw [e1, e3]
        generalize cn pP xs (j + 1) = v at q e2
        (repeat (first | simp (disch := omega) only [wrap64, wrapU32, wrapU64, wrapU8] | simp only [Ja,Jb,Jc,Jd,Je,Jf,Jg,Jh,Ji,Jj,Jk,Jl,Jm,Jn,Jo,Jp,Jq,Jr,Js,Jt,Ju,Jv,Jw,envA,lensOf,Jx,Jy,Jz,JA,JB,JC,JD,JE,JF,JG,JH,JI,JJ,JK,JL,JM,JN,JO,JP,JQ,JR,JS,JT,JU,JV,JW,↓reduceIte,if_true,reduceCtorEq,Nat.reduceEqDiff,JX,JY,JZ,J0,J1,J2,J3,J4,J5,J6,J7,Ya,Yb,Yc,Yd,Ye,Yf,Int.cast_ofNat_Int,Yg,Yh,Int.reduceLT,Int.reduceLE,Int.reduceEq,Int.reduceAdd,Int.reduceMul,Int.reduceSub,Int.reduceNeg,Yi,Yj,Yk,Yl,Ym,Yn,Yo,Yp,Yq,Yr,Ys,Yt,Yu,Yv,Yw,Yx,Yy,Yz,YA,YB,YC,YD,YE,YF,YG,YH,YI,YJ,YK,YL,YM,YN,YO,YP,YQ,YR,YS,YT, k1, q, jq]))
      · have k1' : ¬ (kd w : Int) = 1 := by omega
        have e1 : cn pF xs (j + 1) = cn pF xs j := by rw [s1]; simp [pF, k0]
        have e2 : cn pP xs (j + 1) = cn pP xs j := by rw [s2]; simp [pP, k1]
        have e3 : cn pL xs (j + 1) = cn pL xs j + 1 := by rw [s3]; simp [pL, k0, k1]
        have q : (cn pL xs j : Int) + 1 = ((cn pL xs (j + 1) : Nat) : Int) := by omega
        rw [e1, e2]
        generalize cn pL xs (j + 1) = v at q e3
        (repeat (first | simp (disch := omega) only [wrap64, wrapU32, wrapU64, wrapU8] | simp only [Ja,Jb,Jc,Jd,Je,Jf,Jg,Jh,Ji,Jj,Jk,Jl,Jm,Jn,Jo,Jp,Jq,Jr,Js,Jt,Ju,Jv,Jw,envA,lensOf,Jx,Jy,Jz,JA,JB,JC,JD,JE,JF,JG,JH,JI,JJ,JK,JL,JM,JN,JO,JP,JQ,JR,JS,JT,JU,JV,JW,↓reduceIte,if_true,reduceCtorEq,Nat.reduceEqDiff,JX,JY,JZ,J0,J1,J2,J3,J4,J5,J6,J7,Ya,Yb,Yc,Yd,Ye,Yf,Int.cast_ofNat_Int,Yg,Yh,Int.reduceLT,Int.reduceLE,Int.reduceEq,Int.reduceAdd,Int.reduceMul,Int.reduceSub,Int.reduceNeg,Yi,Yj,Yk,Yl,Ym,Yn,Yo,Yp,Yq,Yr,Ys,Yt,Yu,Yv,Yw,Yx,Yy,Yz,YA,YB,YC,YD,YE,YF,YG,YH,YI,YJ,YK,YL,YM,YN,YO,YP,YQ,YR,YS,YT, k0', k1', q, jq]))
  · have hj' : ¬ (xs.length : Int) < xs.length := by omega
    (repeat (first | simp (disch := omega) only [wrap64, wrapU32, wrapU64, wrapU8] | simp only [Ja,Jb,Jc,Jd,Je,Jf,Jg,Jh,Ji,Jj,Jk,Jl,Jm,Jn,Jo,Jp,Jq,Jr,Js,Jt,Ju,Jv,Jw,envA,lensOf,Jx,Jy,Jz,JA,JB,JC,JD,JE,JF,JG,JH,JI,JJ,JK,JL,JM,JN,JO,JP,JQ,JR,JS,JT,JU,JV,JW,↓reduceIte,if_true,reduceCtorEq,Nat.reduceEqDiff,JX,JY,JZ,J0,J1,J2,J3,J4,J5,J6,J7,Ya,Yb,Yc,Yd,Ye,Yf,Int.cast_ofNat_Int,Yg,Yh,Int.reduceLT,Int.reduceLE,Int.reduceEq,Int.reduceAdd,Int.reduceMul,Int.reduceSub,Int.reduceNeg,Yi,Yj,Yk,Yl,Ym,Yn,Yo,Yp,Yq,Yr,Ys,Yt,Yu,Yv,Yw,Yx,Yy,Yz,YA,YB,YC,YD,YE,YF,YG,YH,YI,YJ,YK,YL,YM,YN,YO,YP,YQ,YR,YS,YT, hj']))
end Go.Proofs.Ytbacblphkppigaa.Uses
