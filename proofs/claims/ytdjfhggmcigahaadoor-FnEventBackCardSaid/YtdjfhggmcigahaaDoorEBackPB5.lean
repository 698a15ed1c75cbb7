/- FnEventBack: the law is true of every code. -/
import Derived.Test.YtdjfhggmcigahaaDoorEBackPB2
import Derived.Test.YtdjfhggmcigahaaDoorEBackPB3
import Derived.Test.YtdjfhggmcigahaaDoorEBackPB4
set_option linter.unusedVariables false
set_option linter.unusedSimpArgs false
namespace Go.Proofs.YtdjfhggmcigahaaDoor.EBack
open Go.BH Go.Proofs
set_option maxRecDepth 100000
theorem f27 (xs : List Nat) (h : xs.length < 1000000) : EvF fes 27 [LN xs] [LN xs] := by
  have ha : (Pr.app [ku8] 1).eval [LN [], LN xs] = some (LN xs) := app_LN (xs := []) (by omega) (by simp; omega)
  refine EvF.w (fe := e27) (t := t27) rfl rfl ?_
  rw [show envA e27.sig [LN xs] = [LN xs] from rfl]
  simp only [Ja,Jb,Jc,Jd,Je,Jf,Jg,Jh,Ji,Jj,Jk,Jl,Jm,Jn,Jo,Jp,Jq,Jr,Js,Jt,Ju,Jv,Jw,envA,lensOf,Jx,Jy,Jz,JA,JB,JC,JD,JE,JF,JG,JH,JI,JJ,JK,JL,JM,JN,JO,JP,JQ,JR,JS,JT,JU,JV,JW,↓reduceIte,if_true,reduceCtorEq,Nat.reduceEqDiff,JX,JY,JZ,J0,J1,J2,J3,J4,J5,J6,J7,Ya,Yb,Yc,Yd,Ye,Yf,Int.cast_ofNat_Int,Yg,Yh,Int.reduceLT,Int.reduceLE,Int.reduceEq,Int.reduceAdd,Int.reduceMul,Int.reduceSub,Int.reduceNeg,Yi,Yj,Yk,Yl,Ym,Yn,Yo,Yp,Yq,Yr,Ys,Yt,Yu,Yv,Yw,Yx,Yy,Yz,YA,YB,YC,YD,YE,YF,YG,YH,YI,YJ,YK,YL,YM,YN,YO,YP,YQ,YR,YS,YT, t27, LN_nil, ha]
theorem f31 {e : Ev} (h : e.ok = true) (hv : e.vs.length ≤ 8) : EvF fes 31 [LN e.by] (.b true :: e.ds) := by
  have hl := eb_len h
  have hlt := eb_lt h
  have h1 := f30 e.by (by show (eb e.k e.w e.n e.rk e.vs).length < _; omega) hlt
  rw [show erd e.by = some e from erd_by h] at h1
  refine EvF.w (fe := e31) (t := t31) rfl rfl ?_
  simp only [Ja,Jb,Jc,Jd,Je,Jf,Jg,Jh,Ji,Jj,Jk,Jl,Jm,Jn,Jo,Jp,Jq,Jr,Js,Jt,Ju,Jv,Jw,envA,lensOf,Jx,Jy,Jz,JA,JB,JC,JD,JE,JF,JG,JH,JI,JJ,JK,JL,JM,JN,JO,JP,JQ,JR,JS,JT,JU,JV,JW,↓reduceIte,if_true,reduceCtorEq,Nat.reduceEqDiff,JX,JY,JZ,J0,J1,J2,J3,J4,J5,J6,J7,Ya,Yb,Yc,Yd,Ye,Yf,Int.cast_ofNat_Int,Yg,Yh,Int.reduceLT,Int.reduceLE,Int.reduceEq,Int.reduceAdd,Int.reduceMul,Int.reduceSub,Int.reduceNeg,Yi,Yj,Yk,Yl,Ym,Yn,Yo,Yp,Yq,Yr,Ys,Yt,Yu,Yv,Yw,Yx,Yy,Yz,YA,YB,YC,YD,YE,YF,YG,YH,YI,YJ,YK,YL,YM,YN,YO,YP,YQ,YR,YS,YT, t31, e31]
  refine WC.mk h1 ?_
  simp only [Ja,Jb,Jc,Jd,Je,Jf,Jg,Jh,Ji,Jj,Jk,Jl,Jm,Jn,Jo,Jp,Jq,Jr,Js,Jt,Ju,Jv,Jw,envA,lensOf,Jx,Jy,Jz,JA,JB,JC,JD,JE,JF,JG,JH,JI,JJ,JK,JL,JM,JN,JO,JP,JQ,JR,JS,JT,JU,JV,JW,↓reduceIte,if_true,reduceCtorEq,Nat.reduceEqDiff,JX,JY,JZ,J0,J1,J2,J3,J4,J5,J6,J7,Ya,Yb,Yc,Yd,Ye,Yf,Int.cast_ofNat_Int,Yg,Yh,Int.reduceLT,Int.reduceLE,Int.reduceEq,Int.reduceAdd,Int.reduceMul,Int.reduceSub,Int.reduceNeg,Yi,Yj,Yk,Yl,Ym,Yn,Yo,Yp,Yq,Yr,Ys,Yt,Yu,Yv,Yw,Yx,Yy,Yz,YA,YB,YC,YD,YE,YF,YG,YH,YI,YJ,YK,YL,YM,YN,YO,YP,YQ,YR,YS,YT, Ev.ds, erR, len_LI]
theorem f38 (vs : List Int) (hl : vs.length ≤ 1000) : EvF fes 38 [LI vs, LI vs] [.b true] := by
  refine EvF.w (fe := e38) (t := t38) rfl rfl ?_
  rw [show envA e38.sig [LI vs, LI vs] = [LI vs, LI vs] from rfl]
  simp only [Ja,Jb,Jc,Jd,Je,Jf,Jg,Jh,Ji,Jj,Jk,Jl,Jm,Jn,Jo,Jp,Jq,Jr,Js,Jt,Ju,Jv,Jw,envA,lensOf,Jx,Jy,Jz,JA,JB,JC,JD,JE,JF,JG,JH,JI,JJ,JK,JL,JM,JN,JO,JP,JQ,JR,JS,JT,JU,JV,JW,↓reduceIte,if_true,reduceCtorEq,Nat.reduceEqDiff,JX,JY,JZ,J0,J1,J2,J3,J4,J5,J6,J7,Ya,Yb,Yc,Yd,Ye,Yf,Int.cast_ofNat_Int,Yg,Yh,Int.reduceLT,Int.reduceLE,Int.reduceEq,Int.reduceAdd,Int.reduceMul,Int.reduceSub,Int.reduceNeg,Yi,Yj,Yk,Yl,Ym,Yn,Yo,Yp,Yq,Yr,Ys,Yt,Yu,Yv,Yw,Yx,Yy,Yz,YA,YB,YC,YD,YE,YF,YG,YH,YI,YJ,YK,YL,YM,YN,YO,YP,YQ,YR,YS,YT, t38]
  refine LW.cnt vs.length (fun j => [.i (j : Nat)]) (fun j hj => ?_) ?_ (by simp)
  · have hj' : (j : Int) < vs.length := by omega
    have q1 : (j : Int) + 1 = ((j + 1 : Nat) : Int) := by omega
    (repeat (first | simp (disch := omega) only [wrap64, wrapU32, wrapU64, wrapU8] | simp only [Ja,Jb,Jc,Jd,Je,Jf,Jg,Jh,Ji,Jj,Jk,Jl,Jm,Jn,Jo,Jp,Jq,Jr,Js,Jt,Ju,Jv,Jw,envA,lensOf,Jx,Jy,Jz,JA,JB,JC,JD,JE,JF,JG,JH,JI,JJ,JK,JL,JM,JN,JO,JP,JQ,JR,JS,JT,JU,JV,JW,↓reduceIte,if_true,reduceCtorEq,Nat.reduceEqDiff,JX,JY,JZ,J0,J1,J2,J3,J4,J5,J6,J7,Ya,Yb,Yc,Yd,Ye,Yf,Int.cast_ofNat_Int,Yg,Yh,Int.reduceLT,Int.reduceLE,Int.reduceEq,Int.reduceAdd,Int.reduceMul,Int.reduceSub,Int.reduceNeg,Yi,Yj,Yk,Yl,Ym,Yn,Yo,Yp,Yq,Yr,Ys,Yt,Yu,Yv,Yw,Yx,Yy,Yz,YA,YB,YC,YD,YE,YF,YG,YH,YI,YJ,YK,YL,YM,YN,YO,YP,YQ,YR,YS,YT, hj', ixc_N (k := .i64) hj, get_LI hj, q1]))
  · have hj' : ¬ (vs.length : Int) < vs.length := by omega
    (repeat (first | simp (disch := omega) only [wrap64, wrapU32, wrapU64, wrapU8] | simp only [Ja,Jb,Jc,Jd,Je,Jf,Jg,Jh,Ji,Jj,Jk,Jl,Jm,Jn,Jo,Jp,Jq,Jr,Js,Jt,Ju,Jv,Jw,envA,lensOf,Jx,Jy,Jz,JA,JB,JC,JD,JE,JF,JG,JH,JI,JJ,JK,JL,JM,JN,JO,JP,JQ,JR,JS,JT,JU,JV,JW,↓reduceIte,if_true,reduceCtorEq,Nat.reduceEqDiff,JX,JY,JZ,J0,J1,J2,J3,J4,J5,J6,J7,Ya,Yb,Yc,Yd,Ye,Yf,Int.cast_ofNat_Int,Yg,Yh,Int.reduceLT,Int.reduceLE,Int.reduceEq,Int.reduceAdd,Int.reduceMul,Int.reduceSub,Int.reduceNeg,Yi,Yj,Yk,Yl,Ym,Yn,Yo,Yp,Yq,Yr,Ys,Yt,Yu,Yv,Yw,Yx,Yy,Yz,YA,YB,YC,YD,YE,YF,YG,YH,YI,YJ,YK,YL,YM,YN,YO,YP,YQ,YR,YS,YT, hj']))
theorem f39 (k w n rk : Int) (vs : List Int) (hl : vs.length ≤ 1000) : EvF fes 39 [.i k, .i w, .i n, .i rk, LI vs, .i k, .i w, .i n, .i rk, LI vs] [.b true] := by
  refine EvF.w (fe := e39) (t := t39) rfl rfl ?_
  simp only [Ja,Jb,Jc,Jd,Je,Jf,Jg,Jh,Ji,Jj,Jk,Jl,Jm,Jn,Jo,Jp,Jq,Jr,Js,Jt,Ju,Jv,Jw,envA,lensOf,Jx,Jy,Jz,JA,JB,JC,JD,JE,JF,JG,JH,JI,JJ,JK,JL,JM,JN,JO,JP,JQ,JR,JS,JT,JU,JV,JW,↓reduceIte,if_true,reduceCtorEq,Nat.reduceEqDiff,JX,JY,JZ,J0,J1,J2,J3,J4,J5,J6,J7,Ya,Yb,Yc,Yd,Ye,Yf,Int.cast_ofNat_Int,Yg,Yh,Int.reduceLT,Int.reduceLE,Int.reduceEq,Int.reduceAdd,Int.reduceMul,Int.reduceSub,Int.reduceNeg,Yi,Yj,Yk,Yl,Ym,Yn,Yo,Yp,Yq,Yr,Ys,Yt,Yu,Yv,Yw,Yx,Yy,Yz,YA,YB,YC,YD,YE,YF,YG,YH,YI,YJ,YK,YL,YM,YN,YO,YP,YQ,YR,YS,YT, t39, e39]
  refine WC.mk (f38 vs hl) ?_
  simp only [Ja,Jb,Jc,Jd,Je,Jf,Jg,Jh,Ji,Jj,Jk,Jl,Jm,Jn,Jo,Jp,Jq,Jr,Js,Jt,Ju,Jv,Jw,envA,lensOf,Jx,Jy,Jz,JA,JB,JC,JD,JE,JF,JG,JH,JI,JJ,JK,JL,JM,JN,JO,JP,JQ,JR,JS,JT,JU,JV,JW,↓reduceIte,if_true,reduceCtorEq,Nat.reduceEqDiff,JX,JY,JZ,J0,J1,J2,J3,J4,J5,J6,J7,Ya,Yb,Yc,Yd,Ye,Yf,Int.cast_ofNat_Int,Yg,Yh,Int.reduceLT,Int.reduceLE,Int.reduceEq,Int.reduceAdd,Int.reduceMul,Int.reduceSub,Int.reduceNeg,Yi,Yj,Yk,Yl,Ym,Yn,Yo,Yp,Yq,Yr,Ys,Yt,Yu,Yv,Yw,Yx,Yy,Yz,YA,YB,YC,YD,YE,YF,YG,YH,YI,YJ,YK,YL,YM,YN,YO,YP,YQ,YR,YS,YT]
set_option maxHeartbeats 1000000 in
theorem f40 (cs : List Nat) (hl : cs.length < 9223372036854775808) (hb : ∀ x ∈ cs, x < 256) : EvF fes 40 [LN cs] [.b true] := by
  refine EvF.w (fe := e40) (t := t40) rfl rfl ?_
  rw [show envA e40.sig [LN cs] = [LN cs] from rfl]
  simp only [Ja,Jb,Jc,Jd,Je,Jf,Jg,Jh,Ji,Jj,Jk,Jl,Jm,Jn,Jo,Jp,Jq,Jr,Js,Jt,Ju,Jv,Jw,envA,lensOf,Jx,Jy,Jz,JA,JB,JC,JD,JE,JF,JG,JH,JI,JJ,JK,JL,JM,JN,JO,JP,JQ,JR,JS,JT,JU,JV,JW,↓reduceIte,if_true,reduceCtorEq,Nat.reduceEqDiff,JX,JY,JZ,J0,J1,J2,J3,J4,J5,J6,J7,Ya,Yb,Yc,Yd,Ye,Yf,Int.cast_ofNat_Int,Yg,Yh,Int.reduceLT,Int.reduceLE,Int.reduceEq,Int.reduceAdd,Int.reduceMul,Int.reduceSub,Int.reduceNeg,Yi,Yj,Yk,Yl,Ym,Yn,Yo,Yp,Yq,Yr,Ys,Yt,Yu,Yv,Yw,Yx,Yy,Yz,YA,YB,YC,YD,YE,YF,YG,YH,YI,YJ,YK,YL,YM,YN,YO,YP,YQ,YR,YS,YT, t40]
  refine WC.mk (f0 cs) ?_
  by_cases h20 : cs.length ≤ 1048576
  rotate_left
  · have : (1048576 : Int) < cs.length := by omega
    simp only [Ja,Jb,Jc,Jd,Je,Jf,Jg,Jh,Ji,Jj,Jk,Jl,Jm,Jn,Jo,Jp,Jq,Jr,Js,Jt,Ju,Jv,Jw,envA,lensOf,Jx,Jy,Jz,JA,JB,JC,JD,JE,JF,JG,JH,JI,JJ,JK,JL,JM,JN,JO,JP,JQ,JR,JS,JT,JU,JV,JW,↓reduceIte,if_true,reduceCtorEq,Nat.reduceEqDiff,JX,JY,JZ,J0,J1,J2,J3,J4,J5,J6,J7,Ya,Yb,Yc,Yd,Ye,Yf,Int.cast_ofNat_Int,Yg,Yh,Int.reduceLT,Int.reduceLE,Int.reduceEq,Int.reduceAdd,Int.reduceMul,Int.reduceSub,Int.reduceNeg,Yi,Yj,Yk,Yl,Ym,Yn,Yo,Yp,Yq,Yr,Ys,Yt,Yu,Yv,Yw,Yx,Yy,Yz,YA,YB,YC,YD,YE,YF,YG,YH,YI,YJ,YK,YL,YM,YN,YO,YP,YQ,YR,YS,YT, this]
  have h20' : ¬ (1048576 : Int) < cs.length := by omega
  have hc : Code cs := ⟨h20, hb⟩
  obtain ⟨k, w, n, rk, vs, d1, d2⟩ := drawEB hc
  have ok := f26 k w n rk vs (by omega)
  have h1 := f22 k w n rk vs (by omega)
  have h2 := f25 k w n rk vs (by omega)
  have h3 := f37 k w n rk vs (by omega)
  have h4 := f39 k w n rk vs (by omega)
  simp only [Ja,Jb,Jc,Jd,Je,Jf,Jg,Jh,Ji,Jj,Jk,Jl,Jm,Jn,Jo,Jp,Jq,Jr,Js,Jt,Ju,Jv,Jw,envA,lensOf,Jx,Jy,Jz,JA,JB,JC,JD,JE,JF,JG,JH,JI,JJ,JK,JL,JM,JN,JO,JP,JQ,JR,JS,JT,JU,JV,JW,↓reduceIte,if_true,reduceCtorEq,Nat.reduceEqDiff,JX,JY,JZ,J0,J1,J2,J3,J4,J5,J6,J7,Ya,Yb,Yc,Yd,Ye,Yf,Int.cast_ofNat_Int,Yg,Yh,Int.reduceLT,Int.reduceLE,Int.reduceEq,Int.reduceAdd,Int.reduceMul,Int.reduceSub,Int.reduceNeg,Yi,Yj,Yk,Yl,Ym,Yn,Yo,Yp,Yq,Yr,Ys,Yt,Yu,Yv,Yw,Yx,Yy,Yz,YA,YB,YC,YD,YE,YF,YG,YH,YI,YJ,YK,YL,YM,YN,YO,YP,YQ,YR,YS,YT, h20']
  refine WC.mk d1 ?_
  simp only [Ja,Jb,Jc,Jd,Je,Jf,Jg,Jh,Ji,Jj,Jk,Jl,Jm,Jn,Jo,Jp,Jq,Jr,Js,Jt,Ju,Jv,Jw,envA,lensOf,Jx,Jy,Jz,JA,JB,JC,JD,JE,JF,JG,JH,JI,JJ,JK,JL,JM,JN,JO,JP,JQ,JR,JS,JT,JU,JV,JW,↓reduceIte,if_true,reduceCtorEq,Nat.reduceEqDiff,JX,JY,JZ,J0,J1,J2,J3,J4,J5,J6,J7,Ya,Yb,Yc,Yd,Ye,Yf,Int.cast_ofNat_Int,Yg,Yh,Int.reduceLT,Int.reduceLE,Int.reduceEq,Int.reduceAdd,Int.reduceMul,Int.reduceSub,Int.reduceNeg,Yi,Yj,Yk,Yl,Ym,Yn,Yo,Yp,Yq,Yr,Ys,Yt,Yu,Yv,Yw,Yx,Yy,Yz,YA,YB,YC,YD,YE,YF,YG,YH,YI,YJ,YK,YL,YM,YN,YO,YP,YQ,YR,YS,YT, len_LI]
  cases h : evOk k w n rk vs with
  | false =>
    rw [h] at ok h1 h2
    simp only [Bool.false_eq_true, if_false] at h1 h2
    refine WC.mk h1 ?_
    simp only [Ja,Jb,Jc,Jd,Je,Jf,Jg,Jh,Ji,Jj,Jk,Jl,Jm,Jn,Jo,Jp,Jq,Jr,Js,Jt,Ju,Jv,Jw,envA,lensOf,Jx,Jy,Jz,JA,JB,JC,JD,JE,JF,JG,JH,JI,JJ,JK,JL,JM,JN,JO,JP,JQ,JR,JS,JT,JU,JV,JW,↓reduceIte,if_true,reduceCtorEq,Nat.reduceEqDiff,JX,JY,JZ,J0,J1,J2,J3,J4,J5,J6,J7,Ya,Yb,Yc,Yd,Ye,Yf,Int.cast_ofNat_Int,Yg,Yh,Int.reduceLT,Int.reduceLE,Int.reduceEq,Int.reduceAdd,Int.reduceMul,Int.reduceSub,Int.reduceNeg,Yi,Yj,Yk,Yl,Ym,Yn,Yo,Yp,Yq,Yr,Ys,Yt,Yu,Yv,Yw,Yx,Yy,Yz,YA,YB,YC,YD,YE,YF,YG,YH,YI,YJ,YK,YL,YM,YN,YO,YP,YQ,YR,YS,YT, len_LN]
    refine WC.mk h2 ?_
    simp only [Ja,Jb,Jc,Jd,Je,Jf,Jg,Jh,Ji,Jj,Jk,Jl,Jm,Jn,Jo,Jp,Jq,Jr,Js,Jt,Ju,Jv,Jw,envA,lensOf,Jx,Jy,Jz,JA,JB,JC,JD,JE,JF,JG,JH,JI,JJ,JK,JL,JM,JN,JO,JP,JQ,JR,JS,JT,JU,JV,JW,↓reduceIte,if_true,reduceCtorEq,Nat.reduceEqDiff,JX,JY,JZ,J0,J1,J2,J3,J4,J5,J6,J7,Ya,Yb,Yc,Yd,Ye,Yf,Int.cast_ofNat_Int,Yg,Yh,Int.reduceLT,Int.reduceLE,Int.reduceEq,Int.reduceAdd,Int.reduceMul,Int.reduceSub,Int.reduceNeg,Yi,Yj,Yk,Yl,Ym,Yn,Yo,Yp,Yq,Yr,Ys,Yt,Yu,Yv,Yw,Yx,Yy,Yz,YA,YB,YC,YD,YE,YF,YG,YH,YI,YJ,YK,YL,YM,YN,YO,YP,YQ,YR,YS,YT]
    refine WC.mk ok ?_
    simp only [Ja,Jb,Jc,Jd,Je,Jf,Jg,Jh,Ji,Jj,Jk,Jl,Jm,Jn,Jo,Jp,Jq,Jr,Js,Jt,Ju,Jv,Jw,envA,lensOf,Jx,Jy,Jz,JA,JB,JC,JD,JE,JF,JG,JH,JI,JJ,JK,JL,JM,JN,JO,JP,JQ,JR,JS,JT,JU,JV,JW,↓reduceIte,if_true,reduceCtorEq,Nat.reduceEqDiff,JX,JY,JZ,J0,J1,J2,J3,J4,J5,J6,J7,Ya,Yb,Yc,Yd,Ye,Yf,Int.cast_ofNat_Int,Yg,Yh,Int.reduceLT,Int.reduceLE,Int.reduceEq,Int.reduceAdd,Int.reduceMul,Int.reduceSub,Int.reduceNeg,Yi,Yj,Yk,Yl,Ym,Yn,Yo,Yp,Yq,Yr,Ys,Yt,Yu,Yv,Yw,Yx,Yy,Yz,YA,YB,YC,YD,YE,YF,YG,YH,YI,YJ,YK,YL,YM,YN,YO,YP,YQ,YR,YS,YT]
  | true =>
    rw [h] at ok h1 h2 h3
    simp only [if_true] at h1 h2 h3
    have hbl := eb_len h
    have h5 := f27 (eb k w n rk vs) (by omega)
    have h6 := f31 (e := ⟨k, w, n, rk, vs⟩) h d2
    rw [show Ev.by ⟨k, w, n, rk, vs⟩ = eb k w n rk vs from rfl] at h6
    simp only [Ev.ds] at h6
    have ht := outI_text (e := ⟨k, w, n, rk, vs⟩) h
    obtain ⟨_, _, _, _, _, _, _, htl⟩ := ok_text (e := ⟨k, w, n, rk, vs⟩) h
    rw [show Ev5.txt ⟨k, w, n, rk, vs⟩ = etL k w n rk vs from rfl] at ht htl
    obtain ⟨b', k', w', n', rk', vs', q1, h7⟩ := f35 (etL k w n rk vs) (by omega)
    rw [← q1, ht] at h7
    simp only [Ev5.D] at h7
    refine WC.mk h1 ?_
    simp only [Ja,Jb,Jc,Jd,Je,Jf,Jg,Jh,Ji,Jj,Jk,Jl,Jm,Jn,Jo,Jp,Jq,Jr,Js,Jt,Ju,Jv,Jw,envA,lensOf,Jx,Jy,Jz,JA,JB,JC,JD,JE,JF,JG,JH,JI,JJ,JK,JL,JM,JN,JO,JP,JQ,JR,JS,JT,JU,JV,JW,↓reduceIte,if_true,reduceCtorEq,Nat.reduceEqDiff,JX,JY,JZ,J0,J1,J2,J3,J4,J5,J6,J7,Ya,Yb,Yc,Yd,Ye,Yf,Int.cast_ofNat_Int,Yg,Yh,Int.reduceLT,Int.reduceLE,Int.reduceEq,Int.reduceAdd,Int.reduceMul,Int.reduceSub,Int.reduceNeg,Yi,Yj,Yk,Yl,Ym,Yn,Yo,Yp,Yq,Yr,Ys,Yt,Yu,Yv,Yw,Yx,Yy,Yz,YA,YB,YC,YD,YE,YF,YG,YH,YI,YJ,YK,YL,YM,YN,YO,YP,YQ,YR,YS,YT, len_LN]
    refine WC.mk h2 ?_
    simp only [Ja,Jb,Jc,Jd,Je,Jf,Jg,Jh,Ji,Jj,Jk,Jl,Jm,Jn,Jo,Jp,Jq,Jr,Js,Jt,Ju,Jv,Jw,envA,lensOf,Jx,Jy,Jz,JA,JB,JC,JD,JE,JF,JG,JH,JI,JJ,JK,JL,JM,JN,JO,JP,JQ,JR,JS,JT,JU,JV,JW,↓reduceIte,if_true,reduceCtorEq,Nat.reduceEqDiff,JX,JY,JZ,J0,J1,J2,J3,J4,J5,J6,J7,Ya,Yb,Yc,Yd,Ye,Yf,Int.cast_ofNat_Int,Yg,Yh,Int.reduceLT,Int.reduceLE,Int.reduceEq,Int.reduceAdd,Int.reduceMul,Int.reduceSub,Int.reduceNeg,Yi,Yj,Yk,Yl,Ym,Yn,Yo,Yp,Yq,Yr,Ys,Yt,Yu,Yv,Yw,Yx,Yy,Yz,YA,YB,YC,YD,YE,YF,YG,YH,YI,YJ,YK,YL,YM,YN,YO,YP,YQ,YR,YS,YT]
    refine WC.mk ok ?_
    simp only [Ja,Jb,Jc,Jd,Je,Jf,Jg,Jh,Ji,Jj,Jk,Jl,Jm,Jn,Jo,Jp,Jq,Jr,Js,Jt,Ju,Jv,Jw,envA,lensOf,Jx,Jy,Jz,JA,JB,JC,JD,JE,JF,JG,JH,JI,JJ,JK,JL,JM,JN,JO,JP,JQ,JR,JS,JT,JU,JV,JW,↓reduceIte,if_true,reduceCtorEq,Nat.reduceEqDiff,JX,JY,JZ,J0,J1,J2,J3,J4,J5,J6,J7,Ya,Yb,Yc,Yd,Ye,Yf,Int.cast_ofNat_Int,Yg,Yh,Int.reduceLT,Int.reduceLE,Int.reduceEq,Int.reduceAdd,Int.reduceMul,Int.reduceSub,Int.reduceNeg,Yi,Yj,Yk,Yl,Ym,Yn,Yo,Yp,Yq,Yr,Ys,Yt,Yu,Yv,Yw,Yx,Yy,Yz,YA,YB,YC,YD,YE,YF,YG,YH,YI,YJ,YK,YL,YM,YN,YO,YP,YQ,YR,YS,YT]
    refine WC.mk h5 ?_
    simp only [Ja,Jb,Jc,Jd,Je,Jf,Jg,Jh,Ji,Jj,Jk,Jl,Jm,Jn,Jo,Jp,Jq,Jr,Js,Jt,Ju,Jv,Jw,envA,lensOf,Jx,Jy,Jz,JA,JB,JC,JD,JE,JF,JG,JH,JI,JJ,JK,JL,JM,JN,JO,JP,JQ,JR,JS,JT,JU,JV,JW,↓reduceIte,if_true,reduceCtorEq,Nat.reduceEqDiff,JX,JY,JZ,J0,J1,J2,J3,J4,J5,J6,J7,Ya,Yb,Yc,Yd,Ye,Yf,Int.cast_ofNat_Int,Yg,Yh,Int.reduceLT,Int.reduceLE,Int.reduceEq,Int.reduceAdd,Int.reduceMul,Int.reduceSub,Int.reduceNeg,Yi,Yj,Yk,Yl,Ym,Yn,Yo,Yp,Yq,Yr,Ys,Yt,Yu,Yv,Yw,Yx,Yy,Yz,YA,YB,YC,YD,YE,YF,YG,YH,YI,YJ,YK,YL,YM,YN,YO,YP,YQ,YR,YS,YT, len_LN]
    refine WC.mk h6 ?_
    simp only [Ja,Jb,Jc,Jd,Je,Jf,Jg,Jh,Ji,Jj,Jk,Jl,Jm,Jn,Jo,Jp,Jq,Jr,Js,Jt,Ju,Jv,Jw,envA,lensOf,Jx,Jy,Jz,JA,JB,JC,JD,JE,JF,JG,JH,JI,JJ,JK,JL,JM,JN,JO,JP,JQ,JR,JS,JT,JU,JV,JW,↓reduceIte,if_true,reduceCtorEq,Nat.reduceEqDiff,JX,JY,JZ,J0,J1,J2,J3,J4,J5,J6,J7,Ya,Yb,Yc,Yd,Ye,Yf,Int.cast_ofNat_Int,Yg,Yh,Int.reduceLT,Int.reduceLE,Int.reduceEq,Int.reduceAdd,Int.reduceMul,Int.reduceSub,Int.reduceNeg,Yi,Yj,Yk,Yl,Ym,Yn,Yo,Yp,Yq,Yr,Ys,Yt,Yu,Yv,Yw,Yx,Yy,Yz,YA,YB,YC,YD,YE,YF,YG,YH,YI,YJ,YK,YL,YM,YN,YO,YP,YQ,YR,YS,YT, len_LI]
    refine WC.mk h7 ?_
    simp only [Ja,Jb,Jc,Jd,Je,Jf,Jg,Jh,Ji,Jj,Jk,Jl,Jm,Jn,Jo,Jp,Jq,Jr,Js,Jt,Ju,Jv,Jw,envA,lensOf,Jx,Jy,Jz,JA,JB,JC,JD,JE,JF,JG,JH,JI,JJ,JK,JL,JM,JN,JO,JP,JQ,JR,JS,JT,JU,JV,JW,↓reduceIte,if_true,reduceCtorEq,Nat.reduceEqDiff,JX,JY,JZ,J0,J1,J2,J3,J4,J5,J6,J7,Ya,Yb,Yc,Yd,Ye,Yf,Int.cast_ofNat_Int,Yg,Yh,Int.reduceLT,Int.reduceLE,Int.reduceEq,Int.reduceAdd,Int.reduceMul,Int.reduceSub,Int.reduceNeg,Yi,Yj,Yk,Yl,Ym,Yn,Yo,Yp,Yq,Yr,Ys,Yt,Yu,Yv,Yw,Yx,Yy,Yz,YA,YB,YC,YD,YE,YF,YG,YH,YI,YJ,YK,YL,YM,YN,YO,YP,YQ,YR,YS,YT, len_LI]
    refine WC.mk h3 ?_
    simp only [Ja,Jb,Jc,Jd,Je,Jf,Jg,Jh,Ji,Jj,Jk,Jl,Jm,Jn,Jo,Jp,Jq,Jr,Js,Jt,Ju,Jv,Jw,envA,lensOf,Jx,Jy,Jz,JA,JB,JC,JD,JE,JF,JG,JH,JI,JJ,JK,JL,JM,JN,JO,JP,JQ,JR,JS,JT,JU,JV,JW,↓reduceIte,if_true,reduceCtorEq,Nat.reduceEqDiff,JX,JY,JZ,J0,J1,J2,J3,J4,J5,J6,J7,Ya,Yb,Yc,Yd,Ye,Yf,Int.cast_ofNat_Int,Yg,Yh,Int.reduceLT,Int.reduceLE,Int.reduceEq,Int.reduceAdd,Int.reduceMul,Int.reduceSub,Int.reduceNeg,Yi,Yj,Yk,Yl,Ym,Yn,Yo,Yp,Yq,Yr,Ys,Yt,Yu,Yv,Yw,Yx,Yy,Yz,YA,YB,YC,YD,YE,YF,YG,YH,YI,YJ,YK,YL,YM,YN,YO,YP,YQ,YR,YS,YT, beq_self_eq_true]
    refine WC.mk h4 ?_
    simp only [Ja,Jb,Jc,Jd,Je,Jf,Jg,Jh,Ji,Jj,Jk,Jl,Jm,Jn,Jo,Jp,Jq,Jr,Js,Jt,Ju,Jv,Jw,envA,lensOf,Jx,Jy,Jz,JA,JB,JC,JD,JE,JF,JG,JH,JI,JJ,JK,JL,JM,JN,JO,JP,JQ,JR,JS,JT,JU,JV,JW,↓reduceIte,if_true,reduceCtorEq,Nat.reduceEqDiff,JX,JY,JZ,J0,J1,J2,J3,J4,J5,J6,J7,Ya,Yb,Yc,Yd,Ye,Yf,Int.cast_ofNat_Int,Yg,Yh,Int.reduceLT,Int.reduceLE,Int.reduceEq,Int.reduceAdd,Int.reduceMul,Int.reduceSub,Int.reduceNeg,Yi,Yj,Yk,Yl,Ym,Yn,Yo,Yp,Yq,Yr,Ys,Yt,Yu,Yv,Yw,Yx,Yy,Yz,YA,YB,YC,YD,YE,YF,YG,YH,YI,YJ,YK,YL,YM,YN,YO,YP,YQ,YR,YS,YT]
    refine WC.mk h4 ?_
    simp only [Ja,Jb,Jc,Jd,Je,Jf,Jg,Jh,Ji,Jj,Jk,Jl,Jm,Jn,Jo,Jp,Jq,Jr,Js,Jt,Ju,Jv,Jw,envA,lensOf,Jx,Jy,Jz,JA,JB,JC,JD,JE,JF,JG,JH,JI,JJ,JK,JL,JM,JN,JO,JP,JQ,JR,JS,JT,JU,JV,JW,↓reduceIte,if_true,reduceCtorEq,Nat.reduceEqDiff,JX,JY,JZ,J0,J1,J2,J3,J4,J5,J6,J7,Ya,Yb,Yc,Yd,Ye,Yf,Int.cast_ofNat_Int,Yg,Yh,Int.reduceLT,Int.reduceLE,Int.reduceEq,Int.reduceAdd,Int.reduceMul,Int.reduceSub,Int.reduceNeg,Yi,Yj,Yk,Yl,Ym,Yn,Yo,Yp,Yq,Yr,Ys,Yt,Yu,Yv,Yw,Yx,Yy,Yz,YA,YB,YC,YD,YE,YF,YG,YH,YI,YJ,YK,YL,YM,YN,YO,YP,YQ,YR,YS,YT]
theorem law (ds : List D) (h : wfZ [.sl [.int .u8]] ds) : EvF fes 40 ds [.b true] := by
  obtain ⟨d0, r, rfl, h0, h⟩ := wfZ_cons h
  obtain rfl := wfZ_nil h
  obtain ⟨xs, rfl, hl, hx⟩ := bytes_of h0
  exact f40 xs hl hx
end Go.Proofs.YtdjfhggmcigahaaDoor.EBack
