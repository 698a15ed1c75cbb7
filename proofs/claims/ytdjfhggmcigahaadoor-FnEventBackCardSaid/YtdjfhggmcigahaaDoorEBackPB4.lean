/- PNum PErd PBack PEvS PEvBytesLaw in one text. -/
import Derived.Test.YtdjfhggmcigahaaDoorEBackPB1
import Derived.Test.YtdjfhggmcigahaaDoorMR
/- Numbers as bytes, and read again: what both sides reckon. -/
set_option linter.unusedVariables false
set_option linter.unusedSimpArgs false
namespace Go.Proofs.YtdjfhggmcigahaaDoor.EBack
open Go.BH
set_option maxRecDepth 100000
/-- The number that begins at a place, and the place behind it. -/
def nrd (xs : List Nat) (a : Nat) : Option (Nat × Nat) := match xs[a]? with
  | none => none
  | some b0 => if b0 < 128 then some (b0, a + 1) else match xs[a + 1]? with
    | none => none
    | some b1 => if b1 < 128 then (if b1 = 0 then none else some (b0 % 128 + 128 * b1, a + 2)) else match xs[a + 2]? with
      | none => none
      | some b2 => if b2 < 128 ∧ b2 ≠ 0 ∧ b0 % 128 + 128 * (b1 % 128) + 16384 * b2 ≤ 65535 then some (b0 % 128 + 128 * (b1 % 128) + 16384 * b2, a + 3) else none
def nrR : Option (Nat × Nat) → List D
  | none => [.i 0, .i 0, .b false]
  | some (n, j) => [.i n, .i j, .b true]
theorem seg1 {xs : List Nat} {a : Nat} (h : a < xs.length) : (xs.drop a).take 1 = [xs[a]] := by
  rw [List.drop_eq_getElem_cons h]
  rfl
theorem seg2 {xs : List Nat} {a : Nat} (h : a + 1 < xs.length) : (xs.drop a).take 2 = [xs[a], xs[a + 1]] := by
  rw [List.drop_eq_getElem_cons (by omega), List.drop_eq_getElem_cons h]
  rfl
theorem seg3 {xs : List Nat} {a : Nat} (h : a + 2 < xs.length) : (xs.drop a).take 3 = [xs[a], xs[a + 1], xs[a + 2]] := by
  rw [List.drop_eq_getElem_cons (by omega), List.drop_eq_getElem_cons (by omega), List.drop_eq_getElem_cons h]
  rfl
theorem f28 (xs : List Nat) (a : Nat) (hl : xs.length < 4611686018427387904) (hx : ∀ n ∈ xs, n < 256) : EvF fes 28 [LN xs, .i a] (nrR (nrd xs a)) := by
  refine EvF.w (fe := e28) (t := t28) rfl rfl ?_
  have h0 : ¬ (a : Int) < 0 := by omega
  have s127 : ∀ n : Nat, n < 256 → (Pr.bin .and .u8).eval [.i (n : Int), .i 127] = some (.i ((n % 128 : Nat) : Int)) := fun n hn => by
    have := band8 (x := n) (y := 127) hn (by omega)
    rw [and127] at this
    exact this
  simp only [Ja,Jb,Jc,Jd,Je,Jf,Jg,Jh,Ji,Jj,Jk,Jl,Jm,Jn,Jo,Jp,Jq,Jr,Js,Jt,Ju,Jv,Jw,envA,lensOf,Jx,Jy,Jz,JA,JB,JC,JD,JE,JF,JG,JH,JI,JJ,JK,JL,JM,JN,JO,JP,JQ,JR,JS,JT,JU,JV,JW,↓reduceIte,if_true,reduceCtorEq,Nat.reduceEqDiff,JX,JY,JZ,J0,J1,J2,J3,J4,J5,J6,J7,Ya,Yb,Yc,Yd,Ye,Yf,Int.cast_ofNat_Int,Yg,Yh,Int.reduceLT,Int.reduceLE,Int.reduceEq,Int.reduceAdd,Int.reduceMul,Int.reduceSub,Int.reduceNeg,Yi,Yj,Yk,Yl,Ym,Yn,Yo,Yp,Yq,Yr,Ys,Yt,Yu,Yv,Yw,Yx,Yy,Yz,YA,YB,YC,YD,YE,YF,YG,YH,YI,YJ,YK,YL,YM,YN,YO,YP,YQ,YR,YS,YT, t28, e28, h0]
  refine LW.rd ?_
  by_cases ha : a < xs.length
  rotate_left
  · have h1 : ¬ (a : Int) < xs.length := by omega
    have e1 : nrd xs a = none := by
      unfold nrd
      rw [List.getElem?_eq_none (by omega)]
    simp only [Ja,Jb,Jc,Jd,Je,Jf,Jg,Jh,Ji,Jj,Jk,Jl,Jm,Jn,Jo,Jp,Jq,Jr,Js,Jt,Ju,Jv,Jw,envA,lensOf,Jx,Jy,Jz,JA,JB,JC,JD,JE,JF,JG,JH,JI,JJ,JK,JL,JM,JN,JO,JP,JQ,JR,JS,JT,JU,JV,JW,↓reduceIte,if_true,reduceCtorEq,Nat.reduceEqDiff,JX,JY,JZ,J0,J1,J2,J3,J4,J5,J6,J7,Ya,Yb,Yc,Yd,Ye,Yf,Int.cast_ofNat_Int,Yg,Yh,Int.reduceLT,Int.reduceLE,Int.reduceEq,Int.reduceAdd,Int.reduceMul,Int.reduceSub,Int.reduceNeg,Yi,Yj,Yk,Yl,Ym,Yn,Yo,Yp,Yq,Yr,Ys,Yt,Yu,Yv,Yw,Yx,Yy,Yz,YA,YB,YC,YD,YE,YF,YG,YH,YI,YJ,YK,YL,YM,YN,YO,YP,YQ,YR,YS,YT, h0, h1, len_LN, e1]
    rfl
  have ha' : (a : Int) < xs.length := by omega
  have g0 := hx _ (List.getElem_mem ha)
  have e0 : xs[a]? = some xs[a] := List.getElem?_eq_getElem ha
  have a3 : ((a : Int) + 3) = ((a + 3 : Nat) : Int) := by omega
  have p1 : ∀ b : Nat, ((b : Int) + 1) = ((b + 1 : Nat) : Int) := fun b => by omega
  have l3 : (a : Int) < ((a + 3 : Nat) : Int) := by omega
  have u0 : ((a : Int) - (a : Int)) = 0 := by omega
  have sh0 : ∀ n : Nat, n < 256 → (Pr.sh .shl .i64 .i64).eval [.i (n : Int), .i 0] = some (.i (n : Int)) := fun n hn => by
    have := shl64 (x := n) (j := 0) (by omega) (by omega)
    rw [Nat.pow_zero, Nat.mul_one] at this
    exact this
  have or0 : ∀ n : Nat, n < 256 → (Pr.bin .or .i64).eval [.i 0, .i (n : Int)] = some (.i (n : Int)) := fun n hn => by
    have := bor64 (x := 0) (y := n) (by omega) (by omega)
    rw [Nat.zero_or] at this
    exact this
  (repeat (first | simp (disch := omega) only [wrap64, wrapU32, wrapU64, wrapU8] | simp only [Ja,Jb,Jc,Jd,Je,Jf,Jg,Jh,Ji,Jj,Jk,Jl,Jm,Jn,Jo,Jp,Jq,Jr,Js,Jt,Ju,Jv,Jw,envA,lensOf,Jx,Jy,Jz,JA,JB,JC,JD,JE,JF,JG,JH,JI,JJ,JK,JL,JM,JN,JO,JP,JQ,JR,JS,JT,JU,JV,JW,↓reduceIte,if_true,reduceCtorEq,Nat.reduceEqDiff,JX,JY,JZ,J0,J1,J2,J3,J4,J5,J6,J7,Ya,Yb,Yc,Yd,Ye,Yf,Int.cast_ofNat_Int,Yg,Yh,Int.reduceLT,Int.reduceLE,Int.reduceEq,Int.reduceAdd,Int.reduceMul,Int.reduceSub,Int.reduceNeg,Yi,Yj,Yk,Yl,Ym,Yn,Yo,Yp,Yq,Yr,Ys,Yt,Yu,Yv,Yw,Yx,Yy,Yz,YA,YB,YC,YD,YE,YF,YG,YH,YI,YJ,YK,YL,YM,YN,YO,YP,YQ,YR,YS,YT, len_LN, ha', a3]))
  (repeat (first | simp (disch := omega) only [wrap64, wrapU32, wrapU64, wrapU8] | simp only [Ja,Jb,Jc,Jd,Je,Jf,Jg,Jh,Ji,Jj,Jk,Jl,Jm,Jn,Jo,Jp,Jq,Jr,Js,Jt,Ju,Jv,Jw,envA,lensOf,Jx,Jy,Jz,JA,JB,JC,JD,JE,JF,JG,JH,JI,JJ,JK,JL,JM,JN,JO,JP,JQ,JR,JS,JT,JU,JV,JW,↓reduceIte,if_true,reduceCtorEq,Nat.reduceEqDiff,JX,JY,JZ,J0,J1,J2,J3,J4,J5,J6,J7,Ya,Yb,Yc,Yd,Ye,Yf,Int.cast_ofNat_Int,Yg,Yh,Int.reduceLT,Int.reduceLE,Int.reduceEq,Int.reduceAdd,Int.reduceMul,Int.reduceSub,Int.reduceNeg,Yi,Yj,Yk,Yl,Ym,Yn,Yo,Yp,Yq,Yr,Ys,Yt,Yu,Yv,Yw,Yx,Yy,Yz,YA,YB,YC,YD,YE,YF,YG,YH,YI,YJ,YK,YL,YM,YN,YO,YP,YQ,YR,YS,YT, l3, ixc_N ha, get_LN ha]))
  rw [s127 _ g0]
  (repeat (first | simp (disch := omega) only [wrap64, wrapU32, wrapU64, wrapU8] | simp only [Ja,Jb,Jc,Jd,Je,Jf,Jg,Jh,Ji,Jj,Jk,Jl,Jm,Jn,Jo,Jp,Jq,Jr,Js,Jt,Ju,Jv,Jw,envA,lensOf,Jx,Jy,Jz,JA,JB,JC,JD,JE,JF,JG,JH,JI,JJ,JK,JL,JM,JN,JO,JP,JQ,JR,JS,JT,JU,JV,JW,↓reduceIte,if_true,reduceCtorEq,Nat.reduceEqDiff,JX,JY,JZ,J0,J1,J2,J3,J4,J5,J6,J7,Ya,Yb,Yc,Yd,Ye,Yf,Int.cast_ofNat_Int,Yg,Yh,Int.reduceLT,Int.reduceLE,Int.reduceEq,Int.reduceAdd,Int.reduceMul,Int.reduceSub,Int.reduceNeg,Yi,Yj,Yk,Yl,Ym,Yn,Yo,Yp,Yq,Yr,Ys,Yt,Yu,Yv,Yw,Yx,Yy,Yz,YA,YB,YC,YD,YE,YF,YG,YH,YI,YJ,YK,YL,YM,YN,YO,YP,YQ,YR,YS,YT, u0, show (7 : Int) * 0 = 0 by rfl]))
  rw [sh0 _ (by omega)]
  (repeat (first | simp (disch := omega) only [wrap64, wrapU32, wrapU64, wrapU8] | simp only [Ja,Jb,Jc,Jd,Je,Jf,Jg,Jh,Ji,Jj,Jk,Jl,Jm,Jn,Jo,Jp,Jq,Jr,Js,Jt,Ju,Jv,Jw,envA,lensOf,Jx,Jy,Jz,JA,JB,JC,JD,JE,JF,JG,JH,JI,JJ,JK,JL,JM,JN,JO,JP,JQ,JR,JS,JT,JU,JV,JW,↓reduceIte,if_true,reduceCtorEq,Nat.reduceEqDiff,JX,JY,JZ,J0,J1,J2,J3,J4,J5,J6,J7,Ya,Yb,Yc,Yd,Ye,Yf,Int.cast_ofNat_Int,Yg,Yh,Int.reduceLT,Int.reduceLE,Int.reduceEq,Int.reduceAdd,Int.reduceMul,Int.reduceSub,Int.reduceNeg,Yi,Yj,Yk,Yl,Ym,Yn,Yo,Yp,Yq,Yr,Ys,Yt,Yu,Yv,Yw,Yx,Yy,Yz,YA,YB,YC,YD,YE,YF,YG,YH,YI,YJ,YK,YL,YM,YN,YO,YP,YQ,YR,YS,YT]))
  rw [or0 _ (by omega)]
  (repeat (first | simp (disch := omega) only [wrap64, wrapU32, wrapU64, wrapU8] | simp only [Ja,Jb,Jc,Jd,Je,Jf,Jg,Jh,Ji,Jj,Jk,Jl,Jm,Jn,Jo,Jp,Jq,Jr,Js,Jt,Ju,Jv,Jw,envA,lensOf,Jx,Jy,Jz,JA,JB,JC,JD,JE,JF,JG,JH,JI,JJ,JK,JL,JM,JN,JO,JP,JQ,JR,JS,JT,JU,JV,JW,↓reduceIte,if_true,reduceCtorEq,Nat.reduceEqDiff,JX,JY,JZ,J0,J1,J2,J3,J4,J5,J6,J7,Ya,Yb,Yc,Yd,Ye,Yf,Int.cast_ofNat_Int,Yg,Yh,Int.reduceLT,Int.reduceLE,Int.reduceEq,Int.reduceAdd,Int.reduceMul,Int.reduceSub,Int.reduceNeg,Yi,Yj,Yk,Yl,Ym,Yn,Yo,Yp,Yq,Yr,Ys,Yt,Yu,Yv,Yw,Yx,Yy,Yz,YA,YB,YC,YD,YE,YF,YG,YH,YI,YJ,YK,YL,YM,YN,YO,YP,YQ,YR,YS,YT, len_LN, ixc_N ha, get_LN ha]))
  by_cases c0 : xs[a] < 128
  · have c0' : ¬ (127 : Int) < xs[a] := by omega
    have c1' : ¬ (65535 : Int) < (xs[a] : Int) := by omega
    have e2 : xs[a] % 128 = xs[a] := Nat.mod_eq_of_lt c0
    have e4 : nrd xs a = some (xs[a], a + 1) := by
      unfold nrd
      rw [e0]
      simp only [if_pos c0]
    (repeat (first | simp (disch := omega) only [wrap64, wrapU32, wrapU64, wrapU8] | simp only [Ja,Jb,Jc,Jd,Je,Jf,Jg,Jh,Ji,Jj,Jk,Jl,Jm,Jn,Jo,Jp,Jq,Jr,Js,Jt,Ju,Jv,Jw,envA,lensOf,Jx,Jy,Jz,JA,JB,JC,JD,JE,JF,JG,JH,JI,JJ,JK,JL,JM,JN,JO,JP,JQ,JR,JS,JT,JU,JV,JW,↓reduceIte,if_true,reduceCtorEq,Nat.reduceEqDiff,JX,JY,JZ,J0,J1,J2,J3,J4,J5,J6,J7,Ya,Yb,Yc,Yd,Ye,Yf,Int.cast_ofNat_Int,Yg,Yh,Int.reduceLT,Int.reduceLE,Int.reduceEq,Int.reduceAdd,Int.reduceMul,Int.reduceSub,Int.reduceNeg,Yi,Yj,Yk,Yl,Ym,Yn,Yo,Yp,Yq,Yr,Ys,Yt,Yu,Yv,Yw,Yx,Yy,Yz,YA,YB,YC,YD,YE,YF,YG,YH,YI,YJ,YK,YL,YM,YN,YO,YP,YQ,YR,YS,YT, c0', c1', show ¬ (a : Int) < a by omega, p1, e4, nrR, e2]))
  have c0' : (127 : Int) < xs[a] := by omega
  (repeat (first | simp (disch := omega) only [wrap64, wrapU32, wrapU64, wrapU8] | simp only [Ja,Jb,Jc,Jd,Je,Jf,Jg,Jh,Ji,Jj,Jk,Jl,Jm,Jn,Jo,Jp,Jq,Jr,Js,Jt,Ju,Jv,Jw,envA,lensOf,Jx,Jy,Jz,JA,JB,JC,JD,JE,JF,JG,JH,JI,JJ,JK,JL,JM,JN,JO,JP,JQ,JR,JS,JT,JU,JV,JW,↓reduceIte,if_true,reduceCtorEq,Nat.reduceEqDiff,JX,JY,JZ,J0,J1,J2,J3,J4,J5,J6,J7,Ya,Yb,Yc,Yd,Ye,Yf,Int.cast_ofNat_Int,Yg,Yh,Int.reduceLT,Int.reduceLE,Int.reduceEq,Int.reduceAdd,Int.reduceMul,Int.reduceSub,Int.reduceNeg,Yi,Yj,Yk,Yl,Ym,Yn,Yo,Yp,Yq,Yr,Ys,Yt,Yu,Yv,Yw,Yx,Yy,Yz,YA,YB,YC,YD,YE,YF,YG,YH,YI,YJ,YK,YL,YM,YN,YO,YP,YQ,YR,YS,YT, c0', p1]))
  refine LW.rd ?_
  by_cases hb : a + 1 < xs.length
  rotate_left
  · have hb' : ¬ (((a + 1 : Nat) : Int)) < xs.length := by omega
    have e4 : nrd xs a = none := by
      unfold nrd
      rw [e0]
      simp only [if_neg c0]
      rw [List.getElem?_eq_none (by omega)]
    (repeat (first | simp (disch := omega) only [wrap64, wrapU32, wrapU64, wrapU8] | simp only [Ja,Jb,Jc,Jd,Je,Jf,Jg,Jh,Ji,Jj,Jk,Jl,Jm,Jn,Jo,Jp,Jq,Jr,Js,Jt,Ju,Jv,Jw,envA,lensOf,Jx,Jy,Jz,JA,JB,JC,JD,JE,JF,JG,JH,JI,JJ,JK,JL,JM,JN,JO,JP,JQ,JR,JS,JT,JU,JV,JW,↓reduceIte,if_true,reduceCtorEq,Nat.reduceEqDiff,JX,JY,JZ,J0,J1,J2,J3,J4,J5,J6,J7,Ya,Yb,Yc,Yd,Ye,Yf,Int.cast_ofNat_Int,Yg,Yh,Int.reduceLT,Int.reduceLE,Int.reduceEq,Int.reduceAdd,Int.reduceMul,Int.reduceSub,Int.reduceNeg,Yi,Yj,Yk,Yl,Ym,Yn,Yo,Yp,Yq,Yr,Ys,Yt,Yu,Yv,Yw,Yx,Yy,Yz,YA,YB,YC,YD,YE,YF,YG,YH,YI,YJ,YK,YL,YM,YN,YO,YP,YQ,YR,YS,YT, len_LN, hb', e4, nrR]))
  have hb' : ((a + 1 : Nat) : Int) < xs.length := by omega
  have l3' : ((a + 1 : Nat) : Int) < ((a + 3 : Nat) : Int) := by omega
  have g1 := hx _ (List.getElem_mem hb)
  have e1 : xs[a + 1]? = some xs[a + 1] := List.getElem?_eq_getElem hb
  have u1 : ((a + 1 : Nat) : Int) - (a : Int) = 1 := by omega
  have sh7 : ∀ n : Nat, n < 256 → (Pr.sh .shl .i64 .i64).eval [.i (n : Int), .i 7] = some (.i ((n * 128 : Nat) : Int)) := fun n hn => shl64 (x := n) (j := 7) (by omega) (by omega)
  have or7 : ∀ x y : Nat, x < 128 → y < 128 → (Pr.bin .or .i64).eval [.i (x : Int), .i ((y * 128 : Nat) : Int)] = some (.i ((x + 128 * y : Nat) : Int)) := fun x y hx hy => by
    have := bor64 (x := x) (y := y * 128) (by omega) (by omega)
    rw [show y * 128 = y * 2 ^ 7 from rfl, or_shift (j := 7) hx] at this
    rw [show y * 128 = y * 2 ^ 7 from rfl, this]
    congr 3
    omega
  have pos1 : (a : Int) < ((a + 1 : Nat) : Int) := by omega
  (repeat (first | simp (disch := omega) only [wrap64, wrapU32, wrapU64, wrapU8] | simp only [Ja,Jb,Jc,Jd,Je,Jf,Jg,Jh,Ji,Jj,Jk,Jl,Jm,Jn,Jo,Jp,Jq,Jr,Js,Jt,Ju,Jv,Jw,envA,lensOf,Jx,Jy,Jz,JA,JB,JC,JD,JE,JF,JG,JH,JI,JJ,JK,JL,JM,JN,JO,JP,JQ,JR,JS,JT,JU,JV,JW,↓reduceIte,if_true,reduceCtorEq,Nat.reduceEqDiff,JX,JY,JZ,J0,J1,J2,J3,J4,J5,J6,J7,Ya,Yb,Yc,Yd,Ye,Yf,Int.cast_ofNat_Int,Yg,Yh,Int.reduceLT,Int.reduceLE,Int.reduceEq,Int.reduceAdd,Int.reduceMul,Int.reduceSub,Int.reduceNeg,Yi,Yj,Yk,Yl,Ym,Yn,Yo,Yp,Yq,Yr,Ys,Yt,Yu,Yv,Yw,Yx,Yy,Yz,YA,YB,YC,YD,YE,YF,YG,YH,YI,YJ,YK,YL,YM,YN,YO,YP,YQ,YR,YS,YT, len_LN, hb', a3]))
  (repeat (first | simp (disch := omega) only [wrap64, wrapU32, wrapU64, wrapU8] | simp only [Ja,Jb,Jc,Jd,Je,Jf,Jg,Jh,Ji,Jj,Jk,Jl,Jm,Jn,Jo,Jp,Jq,Jr,Js,Jt,Ju,Jv,Jw,envA,lensOf,Jx,Jy,Jz,JA,JB,JC,JD,JE,JF,JG,JH,JI,JJ,JK,JL,JM,JN,JO,JP,JQ,JR,JS,JT,JU,JV,JW,↓reduceIte,if_true,reduceCtorEq,Nat.reduceEqDiff,JX,JY,JZ,J0,J1,J2,J3,J4,J5,J6,J7,Ya,Yb,Yc,Yd,Ye,Yf,Int.cast_ofNat_Int,Yg,Yh,Int.reduceLT,Int.reduceLE,Int.reduceEq,Int.reduceAdd,Int.reduceMul,Int.reduceSub,Int.reduceNeg,Yi,Yj,Yk,Yl,Ym,Yn,Yo,Yp,Yq,Yr,Ys,Yt,Yu,Yv,Yw,Yx,Yy,Yz,YA,YB,YC,YD,YE,YF,YG,YH,YI,YJ,YK,YL,YM,YN,YO,YP,YQ,YR,YS,YT, l3', ixc_N hb, get_LN hb]))
  rw [s127 _ g1]
  (repeat (first | simp (disch := omega) only [wrap64, wrapU32, wrapU64, wrapU8] | simp only [Ja,Jb,Jc,Jd,Je,Jf,Jg,Jh,Ji,Jj,Jk,Jl,Jm,Jn,Jo,Jp,Jq,Jr,Js,Jt,Ju,Jv,Jw,envA,lensOf,Jx,Jy,Jz,JA,JB,JC,JD,JE,JF,JG,JH,JI,JJ,JK,JL,JM,JN,JO,JP,JQ,JR,JS,JT,JU,JV,JW,↓reduceIte,if_true,reduceCtorEq,Nat.reduceEqDiff,JX,JY,JZ,J0,J1,J2,J3,J4,J5,J6,J7,Ya,Yb,Yc,Yd,Ye,Yf,Int.cast_ofNat_Int,Yg,Yh,Int.reduceLT,Int.reduceLE,Int.reduceEq,Int.reduceAdd,Int.reduceMul,Int.reduceSub,Int.reduceNeg,Yi,Yj,Yk,Yl,Ym,Yn,Yo,Yp,Yq,Yr,Ys,Yt,Yu,Yv,Yw,Yx,Yy,Yz,YA,YB,YC,YD,YE,YF,YG,YH,YI,YJ,YK,YL,YM,YN,YO,YP,YQ,YR,YS,YT, u1, show (7 : Int) * 1 = 7 by rfl]))
  rw [sh7 _ (by omega)]
  (repeat (first | simp (disch := omega) only [wrap64, wrapU32, wrapU64, wrapU8] | simp only [Ja,Jb,Jc,Jd,Je,Jf,Jg,Jh,Ji,Jj,Jk,Jl,Jm,Jn,Jo,Jp,Jq,Jr,Js,Jt,Ju,Jv,Jw,envA,lensOf,Jx,Jy,Jz,JA,JB,JC,JD,JE,JF,JG,JH,JI,JJ,JK,JL,JM,JN,JO,JP,JQ,JR,JS,JT,JU,JV,JW,↓reduceIte,if_true,reduceCtorEq,Nat.reduceEqDiff,JX,JY,JZ,J0,J1,J2,J3,J4,J5,J6,J7,Ya,Yb,Yc,Yd,Ye,Yf,Int.cast_ofNat_Int,Yg,Yh,Int.reduceLT,Int.reduceLE,Int.reduceEq,Int.reduceAdd,Int.reduceMul,Int.reduceSub,Int.reduceNeg,Yi,Yj,Yk,Yl,Ym,Yn,Yo,Yp,Yq,Yr,Ys,Yt,Yu,Yv,Yw,Yx,Yy,Yz,YA,YB,YC,YD,YE,YF,YG,YH,YI,YJ,YK,YL,YM,YN,YO,YP,YQ,YR,YS,YT]))
  rw [or7 _ _ (by omega) (by omega)]
  (repeat (first | simp (disch := omega) only [wrap64, wrapU32, wrapU64, wrapU8] | simp only [Ja,Jb,Jc,Jd,Je,Jf,Jg,Jh,Ji,Jj,Jk,Jl,Jm,Jn,Jo,Jp,Jq,Jr,Js,Jt,Ju,Jv,Jw,envA,lensOf,Jx,Jy,Jz,JA,JB,JC,JD,JE,JF,JG,JH,JI,JJ,JK,JL,JM,JN,JO,JP,JQ,JR,JS,JT,JU,JV,JW,↓reduceIte,if_true,reduceCtorEq,Nat.reduceEqDiff,JX,JY,JZ,J0,J1,J2,J3,J4,J5,J6,J7,Ya,Yb,Yc,Yd,Ye,Yf,Int.cast_ofNat_Int,Yg,Yh,Int.reduceLT,Int.reduceLE,Int.reduceEq,Int.reduceAdd,Int.reduceMul,Int.reduceSub,Int.reduceNeg,Yi,Yj,Yk,Yl,Ym,Yn,Yo,Yp,Yq,Yr,Ys,Yt,Yu,Yv,Yw,Yx,Yy,Yz,YA,YB,YC,YD,YE,YF,YG,YH,YI,YJ,YK,YL,YM,YN,YO,YP,YQ,YR,YS,YT, len_LN, ixc_N hb, get_LN hb]))
  by_cases c1 : xs[a + 1] < 128
  · have c1' : ¬ (127 : Int) < xs[a + 1] := by omega
    have c2' : ¬ (65535 : Int) < ((xs[a] % 128 + 128 * (xs[a + 1] % 128) : Nat) : Int) := by omega
    have e2 : xs[a + 1] % 128 = xs[a + 1] := Nat.mod_eq_of_lt c1
    by_cases c2 : xs[a + 1] = 0
    · have e4 : nrd xs a = none := by
        unfold nrd
        rw [e0]
        simp only [if_neg c0, e1, if_pos c1, if_pos c2]
      have c3 : (xs[a + 1] : Int) = 0 := by omega
      (repeat (first | simp (disch := omega) only [wrap64, wrapU32, wrapU64, wrapU8] | simp only [Ja,Jb,Jc,Jd,Je,Jf,Jg,Jh,Ji,Jj,Jk,Jl,Jm,Jn,Jo,Jp,Jq,Jr,Js,Jt,Ju,Jv,Jw,envA,lensOf,Jx,Jy,Jz,JA,JB,JC,JD,JE,JF,JG,JH,JI,JJ,JK,JL,JM,JN,JO,JP,JQ,JR,JS,JT,JU,JV,JW,↓reduceIte,if_true,reduceCtorEq,Nat.reduceEqDiff,JX,JY,JZ,J0,J1,J2,J3,J4,J5,J6,J7,Ya,Yb,Yc,Yd,Ye,Yf,Int.cast_ofNat_Int,Yg,Yh,Int.reduceLT,Int.reduceLE,Int.reduceEq,Int.reduceAdd,Int.reduceMul,Int.reduceSub,Int.reduceNeg,Yi,Yj,Yk,Yl,Ym,Yn,Yo,Yp,Yq,Yr,Ys,Yt,Yu,Yv,Yw,Yx,Yy,Yz,YA,YB,YC,YD,YE,YF,YG,YH,YI,YJ,YK,YL,YM,YN,YO,YP,YQ,YR,YS,YT, c1', c2', pos1, len_LN, ixc_N hb, get_LN hb, c3, e4, nrR]))
    · have e4 : nrd xs a = some (xs[a] % 128 + 128 * xs[a + 1], a + 2) := by
        unfold nrd
        rw [e0]
        simp only [if_neg c0, e1, if_pos c1, if_neg c2]
      have c3 : ¬ (xs[a + 1] : Int) = 0 := by omega
      (repeat (first | simp (disch := omega) only [wrap64, wrapU32, wrapU64, wrapU8] | simp only [Ja,Jb,Jc,Jd,Je,Jf,Jg,Jh,Ji,Jj,Jk,Jl,Jm,Jn,Jo,Jp,Jq,Jr,Js,Jt,Ju,Jv,Jw,envA,lensOf,Jx,Jy,Jz,JA,JB,JC,JD,JE,JF,JG,JH,JI,JJ,JK,JL,JM,JN,JO,JP,JQ,JR,JS,JT,JU,JV,JW,↓reduceIte,if_true,reduceCtorEq,Nat.reduceEqDiff,JX,JY,JZ,J0,J1,J2,J3,J4,J5,J6,J7,Ya,Yb,Yc,Yd,Ye,Yf,Int.cast_ofNat_Int,Yg,Yh,Int.reduceLT,Int.reduceLE,Int.reduceEq,Int.reduceAdd,Int.reduceMul,Int.reduceSub,Int.reduceNeg,Yi,Yj,Yk,Yl,Ym,Yn,Yo,Yp,Yq,Yr,Ys,Yt,Yu,Yv,Yw,Yx,Yy,Yz,YA,YB,YC,YD,YE,YF,YG,YH,YI,YJ,YK,YL,YM,YN,YO,YP,YQ,YR,YS,YT, c1', c2', pos1, len_LN, ixc_N hb, get_LN hb, c3, e4, nrR, p1]))
      rw [e2]
  have c1' : (127 : Int) < xs[a + 1] := by omega
  (repeat (first | simp (disch := omega) only [wrap64, wrapU32, wrapU64, wrapU8] | simp only [Ja,Jb,Jc,Jd,Je,Jf,Jg,Jh,Ji,Jj,Jk,Jl,Jm,Jn,Jo,Jp,Jq,Jr,Js,Jt,Ju,Jv,Jw,envA,lensOf,Jx,Jy,Jz,JA,JB,JC,JD,JE,JF,JG,JH,JI,JJ,JK,JL,JM,JN,JO,JP,JQ,JR,JS,JT,JU,JV,JW,↓reduceIte,if_true,reduceCtorEq,Nat.reduceEqDiff,JX,JY,JZ,J0,J1,J2,J3,J4,J5,J6,J7,Ya,Yb,Yc,Yd,Ye,Yf,Int.cast_ofNat_Int,Yg,Yh,Int.reduceLT,Int.reduceLE,Int.reduceEq,Int.reduceAdd,Int.reduceMul,Int.reduceSub,Int.reduceNeg,Yi,Yj,Yk,Yl,Ym,Yn,Yo,Yp,Yq,Yr,Ys,Yt,Yu,Yv,Yw,Yx,Yy,Yz,YA,YB,YC,YD,YE,YF,YG,YH,YI,YJ,YK,YL,YM,YN,YO,YP,YQ,YR,YS,YT, c1', p1]))
  refine LW.rd ?_
  by_cases hc : a + 2 < xs.length
  rotate_left
  · have hc' : ¬ (((a + 1 + 1 : Nat) : Int)) < xs.length := by omega
    have e4 : nrd xs a = none := by
      unfold nrd
      rw [e0]
      simp only [if_neg c0, e1, if_neg c1]
      rw [List.getElem?_eq_none (by omega)]
    (repeat (first | simp (disch := omega) only [wrap64, wrapU32, wrapU64, wrapU8] | simp only [Ja,Jb,Jc,Jd,Je,Jf,Jg,Jh,Ji,Jj,Jk,Jl,Jm,Jn,Jo,Jp,Jq,Jr,Js,Jt,Ju,Jv,Jw,envA,lensOf,Jx,Jy,Jz,JA,JB,JC,JD,JE,JF,JG,JH,JI,JJ,JK,JL,JM,JN,JO,JP,JQ,JR,JS,JT,JU,JV,JW,↓reduceIte,if_true,reduceCtorEq,Nat.reduceEqDiff,JX,JY,JZ,J0,J1,J2,J3,J4,J5,J6,J7,Ya,Yb,Yc,Yd,Ye,Yf,Int.cast_ofNat_Int,Yg,Yh,Int.reduceLT,Int.reduceLE,Int.reduceEq,Int.reduceAdd,Int.reduceMul,Int.reduceSub,Int.reduceNeg,Yi,Yj,Yk,Yl,Ym,Yn,Yo,Yp,Yq,Yr,Ys,Yt,Yu,Yv,Yw,Yx,Yy,Yz,YA,YB,YC,YD,YE,YF,YG,YH,YI,YJ,YK,YL,YM,YN,YO,YP,YQ,YR,YS,YT, len_LN, hc', e4, nrR]))
  have hc' : ((a + 1 + 1 : Nat) : Int) < xs.length := by omega
  have hcc : a + 1 + 1 < xs.length := hc
  have l3'' : ((a + 1 + 1 : Nat) : Int) < ((a + 3 : Nat) : Int) := by omega
  have g2 : xs[a + 1 + 1] < 256 := hx _ (List.getElem_mem hc)
  have e2 : xs[a + 2]? = some xs[a + 1 + 1] := List.getElem?_eq_getElem hc
  have u2 : ((a + 1 + 1 : Nat) : Int) - (a : Int) = 2 := by omega
  have sh14 : ∀ n : Nat, n < 256 → (Pr.sh .shl .i64 .i64).eval [.i (n : Int), .i 14] = some (.i ((n * 16384 : Nat) : Int)) := fun n hn => shl64 (x := n) (j := 14) (by omega) (by omega)
  have or14 : ∀ x y : Nat, x < 16384 → y < 128 → (Pr.bin .or .i64).eval [.i (x : Int), .i ((y * 16384 : Nat) : Int)] = some (.i ((x + 16384 * y : Nat) : Int)) := fun x y hx hy => by
    have := bor64 (x := x) (y := y * 16384) (by omega) (by omega)
    rw [show y * 16384 = y * 2 ^ 14 from rfl, or_shift (j := 14) hx] at this
    rw [show y * 16384 = y * 2 ^ 14 from rfl, this]
    congr 3
    omega
  have pos2 : (a : Int) < ((a + 1 + 1 : Nat) : Int) := by omega
  (repeat (first | simp (disch := omega) only [wrap64, wrapU32, wrapU64, wrapU8] | simp only [Ja,Jb,Jc,Jd,Je,Jf,Jg,Jh,Ji,Jj,Jk,Jl,Jm,Jn,Jo,Jp,Jq,Jr,Js,Jt,Ju,Jv,Jw,envA,lensOf,Jx,Jy,Jz,JA,JB,JC,JD,JE,JF,JG,JH,JI,JJ,JK,JL,JM,JN,JO,JP,JQ,JR,JS,JT,JU,JV,JW,↓reduceIte,if_true,reduceCtorEq,Nat.reduceEqDiff,JX,JY,JZ,J0,J1,J2,J3,J4,J5,J6,J7,Ya,Yb,Yc,Yd,Ye,Yf,Int.cast_ofNat_Int,Yg,Yh,Int.reduceLT,Int.reduceLE,Int.reduceEq,Int.reduceAdd,Int.reduceMul,Int.reduceSub,Int.reduceNeg,Yi,Yj,Yk,Yl,Ym,Yn,Yo,Yp,Yq,Yr,Ys,Yt,Yu,Yv,Yw,Yx,Yy,Yz,YA,YB,YC,YD,YE,YF,YG,YH,YI,YJ,YK,YL,YM,YN,YO,YP,YQ,YR,YS,YT, len_LN, hc', a3]))
  (repeat (first | simp (disch := omega) only [wrap64, wrapU32, wrapU64, wrapU8] | simp only [Ja,Jb,Jc,Jd,Je,Jf,Jg,Jh,Ji,Jj,Jk,Jl,Jm,Jn,Jo,Jp,Jq,Jr,Js,Jt,Ju,Jv,Jw,envA,lensOf,Jx,Jy,Jz,JA,JB,JC,JD,JE,JF,JG,JH,JI,JJ,JK,JL,JM,JN,JO,JP,JQ,JR,JS,JT,JU,JV,JW,↓reduceIte,if_true,reduceCtorEq,Nat.reduceEqDiff,JX,JY,JZ,J0,J1,J2,J3,J4,J5,J6,J7,Ya,Yb,Yc,Yd,Ye,Yf,Int.cast_ofNat_Int,Yg,Yh,Int.reduceLT,Int.reduceLE,Int.reduceEq,Int.reduceAdd,Int.reduceMul,Int.reduceSub,Int.reduceNeg,Yi,Yj,Yk,Yl,Ym,Yn,Yo,Yp,Yq,Yr,Ys,Yt,Yu,Yv,Yw,Yx,Yy,Yz,YA,YB,YC,YD,YE,YF,YG,YH,YI,YJ,YK,YL,YM,YN,YO,YP,YQ,YR,YS,YT, l3'', ixc_N hcc, get_LN hcc]))
  rw [s127 _ g2]
  (repeat (first | simp (disch := omega) only [wrap64, wrapU32, wrapU64, wrapU8] | simp only [Ja,Jb,Jc,Jd,Je,Jf,Jg,Jh,Ji,Jj,Jk,Jl,Jm,Jn,Jo,Jp,Jq,Jr,Js,Jt,Ju,Jv,Jw,envA,lensOf,Jx,Jy,Jz,JA,JB,JC,JD,JE,JF,JG,JH,JI,JJ,JK,JL,JM,JN,JO,JP,JQ,JR,JS,JT,JU,JV,JW,↓reduceIte,if_true,reduceCtorEq,Nat.reduceEqDiff,JX,JY,JZ,J0,J1,J2,J3,J4,J5,J6,J7,Ya,Yb,Yc,Yd,Ye,Yf,Int.cast_ofNat_Int,Yg,Yh,Int.reduceLT,Int.reduceLE,Int.reduceEq,Int.reduceAdd,Int.reduceMul,Int.reduceSub,Int.reduceNeg,Yi,Yj,Yk,Yl,Ym,Yn,Yo,Yp,Yq,Yr,Ys,Yt,Yu,Yv,Yw,Yx,Yy,Yz,YA,YB,YC,YD,YE,YF,YG,YH,YI,YJ,YK,YL,YM,YN,YO,YP,YQ,YR,YS,YT, u2, show (7 : Int) * 2 = 14 by rfl]))
  rw [sh14 _ (by omega)]
  (repeat (first | simp (disch := omega) only [wrap64, wrapU32, wrapU64, wrapU8] | simp only [Ja,Jb,Jc,Jd,Je,Jf,Jg,Jh,Ji,Jj,Jk,Jl,Jm,Jn,Jo,Jp,Jq,Jr,Js,Jt,Ju,Jv,Jw,envA,lensOf,Jx,Jy,Jz,JA,JB,JC,JD,JE,JF,JG,JH,JI,JJ,JK,JL,JM,JN,JO,JP,JQ,JR,JS,JT,JU,JV,JW,↓reduceIte,if_true,reduceCtorEq,Nat.reduceEqDiff,JX,JY,JZ,J0,J1,J2,J3,J4,J5,J6,J7,Ya,Yb,Yc,Yd,Ye,Yf,Int.cast_ofNat_Int,Yg,Yh,Int.reduceLT,Int.reduceLE,Int.reduceEq,Int.reduceAdd,Int.reduceMul,Int.reduceSub,Int.reduceNeg,Yi,Yj,Yk,Yl,Ym,Yn,Yo,Yp,Yq,Yr,Ys,Yt,Yu,Yv,Yw,Yx,Yy,Yz,YA,YB,YC,YD,YE,YF,YG,YH,YI,YJ,YK,YL,YM,YN,YO,YP,YQ,YR,YS,YT]))
  rw [or14 _ _ (by omega) (by omega)]
  (repeat (first | simp (disch := omega) only [wrap64, wrapU32, wrapU64, wrapU8] | simp only [Ja,Jb,Jc,Jd,Je,Jf,Jg,Jh,Ji,Jj,Jk,Jl,Jm,Jn,Jo,Jp,Jq,Jr,Js,Jt,Ju,Jv,Jw,envA,lensOf,Jx,Jy,Jz,JA,JB,JC,JD,JE,JF,JG,JH,JI,JJ,JK,JL,JM,JN,JO,JP,JQ,JR,JS,JT,JU,JV,JW,↓reduceIte,if_true,reduceCtorEq,Nat.reduceEqDiff,JX,JY,JZ,J0,J1,J2,J3,J4,J5,J6,J7,Ya,Yb,Yc,Yd,Ye,Yf,Int.cast_ofNat_Int,Yg,Yh,Int.reduceLT,Int.reduceLE,Int.reduceEq,Int.reduceAdd,Int.reduceMul,Int.reduceSub,Int.reduceNeg,Yi,Yj,Yk,Yl,Ym,Yn,Yo,Yp,Yq,Yr,Ys,Yt,Yu,Yv,Yw,Yx,Yy,Yz,YA,YB,YC,YD,YE,YF,YG,YH,YI,YJ,YK,YL,YM,YN,YO,YP,YQ,YR,YS,YT, len_LN, ixc_N hcc, get_LN hcc]))
  by_cases c2 : xs[a + 1 + 1] < 128
  · have c2' : ¬ (127 : Int) < xs[a + 1 + 1] := by omega
    have e6 : xs[a + 1 + 1] % 128 = xs[a + 1 + 1] := Nat.mod_eq_of_lt c2
    (repeat (first | simp (disch := omega) only [wrap64, wrapU32, wrapU64, wrapU8] | simp only [Ja,Jb,Jc,Jd,Je,Jf,Jg,Jh,Ji,Jj,Jk,Jl,Jm,Jn,Jo,Jp,Jq,Jr,Js,Jt,Ju,Jv,Jw,envA,lensOf,Jx,Jy,Jz,JA,JB,JC,JD,JE,JF,JG,JH,JI,JJ,JK,JL,JM,JN,JO,JP,JQ,JR,JS,JT,JU,JV,JW,↓reduceIte,if_true,reduceCtorEq,Nat.reduceEqDiff,JX,JY,JZ,J0,J1,J2,J3,J4,J5,J6,J7,Ya,Yb,Yc,Yd,Ye,Yf,Int.cast_ofNat_Int,Yg,Yh,Int.reduceLT,Int.reduceLE,Int.reduceEq,Int.reduceAdd,Int.reduceMul,Int.reduceSub,Int.reduceNeg,Yi,Yj,Yk,Yl,Ym,Yn,Yo,Yp,Yq,Yr,Ys,Yt,Yu,Yv,Yw,Yx,Yy,Yz,YA,YB,YC,YD,YE,YF,YG,YH,YI,YJ,YK,YL,YM,YN,YO,YP,YQ,YR,YS,YT, c2', e6]))
    by_cases c3 : xs[a] % 128 + 128 * (xs[a + 1] % 128) + 16384 * xs[a + 1 + 1] ≤ 65535
    · have c3' : ¬ (65535 : Int) < ((xs[a] % 128 + 128 * (xs[a + 1] % 128) + 16384 * xs[a + 1 + 1] : Nat) : Int) := by omega
      by_cases c4 : xs[a + 1 + 1] = 0
      · have e4 : nrd xs a = none := by
          unfold nrd
          rw [e0]
          simp only [if_neg c0, e1, if_neg c1, e2]
          rw [if_neg (by omega)]
        have c5 : (xs[a + 1 + 1] : Int) = 0 := by omega
        (repeat (first | simp (disch := omega) only [wrap64, wrapU32, wrapU64, wrapU8] | simp only [Ja,Jb,Jc,Jd,Je,Jf,Jg,Jh,Ji,Jj,Jk,Jl,Jm,Jn,Jo,Jp,Jq,Jr,Js,Jt,Ju,Jv,Jw,envA,lensOf,Jx,Jy,Jz,JA,JB,JC,JD,JE,JF,JG,JH,JI,JJ,JK,JL,JM,JN,JO,JP,JQ,JR,JS,JT,JU,JV,JW,↓reduceIte,if_true,reduceCtorEq,Nat.reduceEqDiff,JX,JY,JZ,J0,J1,J2,J3,J4,J5,J6,J7,Ya,Yb,Yc,Yd,Ye,Yf,Int.cast_ofNat_Int,Yg,Yh,Int.reduceLT,Int.reduceLE,Int.reduceEq,Int.reduceAdd,Int.reduceMul,Int.reduceSub,Int.reduceNeg,Yi,Yj,Yk,Yl,Ym,Yn,Yo,Yp,Yq,Yr,Ys,Yt,Yu,Yv,Yw,Yx,Yy,Yz,YA,YB,YC,YD,YE,YF,YG,YH,YI,YJ,YK,YL,YM,YN,YO,YP,YQ,YR,YS,YT, c3', pos2, len_LN, ixc_N hcc, get_LN hcc, c5, e4, nrR]))
      · have e4 : nrd xs a = some (xs[a] % 128 + 128 * (xs[a + 1] % 128) + 16384 * xs[a + 1 + 1], a + 3) := by
          unfold nrd
          rw [e0]
          simp only [if_neg c0, e1, if_neg c1, e2]
          rw [if_pos ⟨c2, c4, c3⟩]
        have c5 : ¬ (xs[a + 1 + 1] : Int) = 0 := by omega
        (repeat (first | simp (disch := omega) only [wrap64, wrapU32, wrapU64, wrapU8] | simp only [Ja,Jb,Jc,Jd,Je,Jf,Jg,Jh,Ji,Jj,Jk,Jl,Jm,Jn,Jo,Jp,Jq,Jr,Js,Jt,Ju,Jv,Jw,envA,lensOf,Jx,Jy,Jz,JA,JB,JC,JD,JE,JF,JG,JH,JI,JJ,JK,JL,JM,JN,JO,JP,JQ,JR,JS,JT,JU,JV,JW,↓reduceIte,if_true,reduceCtorEq,Nat.reduceEqDiff,JX,JY,JZ,J0,J1,J2,J3,J4,J5,J6,J7,Ya,Yb,Yc,Yd,Ye,Yf,Int.cast_ofNat_Int,Yg,Yh,Int.reduceLT,Int.reduceLE,Int.reduceEq,Int.reduceAdd,Int.reduceMul,Int.reduceSub,Int.reduceNeg,Yi,Yj,Yk,Yl,Ym,Yn,Yo,Yp,Yq,Yr,Ys,Yt,Yu,Yv,Yw,Yx,Yy,Yz,YA,YB,YC,YD,YE,YF,YG,YH,YI,YJ,YK,YL,YM,YN,YO,YP,YQ,YR,YS,YT, c3', pos2, len_LN, ixc_N hcc, get_LN hcc, c5, e4, nrR, p1]))
    · have c3' : (65535 : Int) < ((xs[a] % 128 + 128 * (xs[a + 1] % 128) + 16384 * xs[a + 1 + 1] : Nat) : Int) := by omega
      have e4 : nrd xs a = none := by
        unfold nrd
        rw [e0]
        simp only [if_neg c0, e1, if_neg c1, e2]
        rw [if_neg (by omega)]
      (repeat (first | simp (disch := omega) only [wrap64, wrapU32, wrapU64, wrapU8] | simp only [Ja,Jb,Jc,Jd,Je,Jf,Jg,Jh,Ji,Jj,Jk,Jl,Jm,Jn,Jo,Jp,Jq,Jr,Js,Jt,Ju,Jv,Jw,envA,lensOf,Jx,Jy,Jz,JA,JB,JC,JD,JE,JF,JG,JH,JI,JJ,JK,JL,JM,JN,JO,JP,JQ,JR,JS,JT,JU,JV,JW,↓reduceIte,if_true,reduceCtorEq,Nat.reduceEqDiff,JX,JY,JZ,J0,J1,J2,J3,J4,J5,J6,J7,Ya,Yb,Yc,Yd,Ye,Yf,Int.cast_ofNat_Int,Yg,Yh,Int.reduceLT,Int.reduceLE,Int.reduceEq,Int.reduceAdd,Int.reduceMul,Int.reduceSub,Int.reduceNeg,Yi,Yj,Yk,Yl,Ym,Yn,Yo,Yp,Yq,Yr,Ys,Yt,Yu,Yv,Yw,Yx,Yy,Yz,YA,YB,YC,YD,YE,YF,YG,YH,YI,YJ,YK,YL,YM,YN,YO,YP,YQ,YR,YS,YT, c3', e4, nrR]))
  · have c2' : (127 : Int) < xs[a + 1 + 1] := by omega
    (repeat (first | simp (disch := omega) only [wrap64, wrapU32, wrapU64, wrapU8] | simp only [Ja,Jb,Jc,Jd,Je,Jf,Jg,Jh,Ji,Jj,Jk,Jl,Jm,Jn,Jo,Jp,Jq,Jr,Js,Jt,Ju,Jv,Jw,envA,lensOf,Jx,Jy,Jz,JA,JB,JC,JD,JE,JF,JG,JH,JI,JJ,JK,JL,JM,JN,JO,JP,JQ,JR,JS,JT,JU,JV,JW,↓reduceIte,if_true,reduceCtorEq,Nat.reduceEqDiff,JX,JY,JZ,J0,J1,J2,J3,J4,J5,J6,J7,Ya,Yb,Yc,Yd,Ye,Yf,Int.cast_ofNat_Int,Yg,Yh,Int.reduceLT,Int.reduceLE,Int.reduceEq,Int.reduceAdd,Int.reduceMul,Int.reduceSub,Int.reduceNeg,Yi,Yj,Yk,Yl,Ym,Yn,Yo,Yp,Yq,Yr,Ys,Yt,Yu,Yv,Yw,Yx,Yy,Yz,YA,YB,YC,YD,YE,YF,YG,YH,YI,YJ,YK,YL,YM,YN,YO,YP,YQ,YR,YS,YT, c2', p1]))
    refine LW.rd ?_
    have l4 : ¬ ((a + 1 + 1 + 1 : Nat) : Int) < ((a + 3 : Nat) : Int) := by omega
    have e4 : nrd xs a = none := by
      unfold nrd
      rw [e0]
      simp only [if_neg c0, e1, if_neg c1, e2]
      rw [if_neg (by omega)]
    by_cases hd : a + 3 < xs.length
    · have hd' : ((a + 1 + 1 + 1 : Nat) : Int) < xs.length := by omega
      (repeat (first | simp (disch := omega) only [wrap64, wrapU32, wrapU64, wrapU8] | simp only [Ja,Jb,Jc,Jd,Je,Jf,Jg,Jh,Ji,Jj,Jk,Jl,Jm,Jn,Jo,Jp,Jq,Jr,Js,Jt,Ju,Jv,Jw,envA,lensOf,Jx,Jy,Jz,JA,JB,JC,JD,JE,JF,JG,JH,JI,JJ,JK,JL,JM,JN,JO,JP,JQ,JR,JS,JT,JU,JV,JW,↓reduceIte,if_true,reduceCtorEq,Nat.reduceEqDiff,JX,JY,JZ,J0,J1,J2,J3,J4,J5,J6,J7,Ya,Yb,Yc,Yd,Ye,Yf,Int.cast_ofNat_Int,Yg,Yh,Int.reduceLT,Int.reduceLE,Int.reduceEq,Int.reduceAdd,Int.reduceMul,Int.reduceSub,Int.reduceNeg,Yi,Yj,Yk,Yl,Ym,Yn,Yo,Yp,Yq,Yr,Ys,Yt,Yu,Yv,Yw,Yx,Yy,Yz,YA,YB,YC,YD,YE,YF,YG,YH,YI,YJ,YK,YL,YM,YN,YO,YP,YQ,YR,YS,YT, len_LN, hd', a3]))
      (repeat (first | simp (disch := omega) only [wrap64, wrapU32, wrapU64, wrapU8] | simp only [Ja,Jb,Jc,Jd,Je,Jf,Jg,Jh,Ji,Jj,Jk,Jl,Jm,Jn,Jo,Jp,Jq,Jr,Js,Jt,Ju,Jv,Jw,envA,lensOf,Jx,Jy,Jz,JA,JB,JC,JD,JE,JF,JG,JH,JI,JJ,JK,JL,JM,JN,JO,JP,JQ,JR,JS,JT,JU,JV,JW,↓reduceIte,if_true,reduceCtorEq,Nat.reduceEqDiff,JX,JY,JZ,J0,J1,J2,J3,J4,J5,J6,J7,Ya,Yb,Yc,Yd,Ye,Yf,Int.cast_ofNat_Int,Yg,Yh,Int.reduceLT,Int.reduceLE,Int.reduceEq,Int.reduceAdd,Int.reduceMul,Int.reduceSub,Int.reduceNeg,Yi,Yj,Yk,Yl,Ym,Yn,Yo,Yp,Yq,Yr,Ys,Yt,Yu,Yv,Yw,Yx,Yy,Yz,YA,YB,YC,YD,YE,YF,YG,YH,YI,YJ,YK,YL,YM,YN,YO,YP,YQ,YR,YS,YT, l4, e4, nrR]))
    · have hd' : ¬ ((a + 1 + 1 + 1 : Nat) : Int) < xs.length := by omega
      (repeat (first | simp (disch := omega) only [wrap64, wrapU32, wrapU64, wrapU8] | simp only [Ja,Jb,Jc,Jd,Je,Jf,Jg,Jh,Ji,Jj,Jk,Jl,Jm,Jn,Jo,Jp,Jq,Jr,Js,Jt,Ju,Jv,Jw,envA,lensOf,Jx,Jy,Jz,JA,JB,JC,JD,JE,JF,JG,JH,JI,JJ,JK,JL,JM,JN,JO,JP,JQ,JR,JS,JT,JU,JV,JW,↓reduceIte,if_true,reduceCtorEq,Nat.reduceEqDiff,JX,JY,JZ,J0,J1,J2,J3,J4,J5,J6,J7,Ya,Yb,Yc,Yd,Ye,Yf,Int.cast_ofNat_Int,Yg,Yh,Int.reduceLT,Int.reduceLE,Int.reduceEq,Int.reduceAdd,Int.reduceMul,Int.reduceSub,Int.reduceNeg,Yi,Yj,Yk,Yl,Ym,Yn,Yo,Yp,Yq,Yr,Ys,Yt,Yu,Yv,Yw,Yx,Yy,Yz,YA,YB,YC,YD,YE,YF,YG,YH,YI,YJ,YK,YL,YM,YN,YO,YP,YQ,YR,YS,YT, len_LN, hd', e4, nrR]))
end Go.Proofs.YtdjfhggmcigahaaDoor.EBack

/- Events read from bytes: what both sides reckon. -/
set_option linter.unusedVariables false
set_option linter.unusedSimpArgs false
namespace Go.Proofs.YtdjfhggmcigahaaDoor.EBack
open Go.BH
set_option maxRecDepth 100000
theorem nrd_spec {xs : List Nat} {a n b : Nat} (hx : ∀ x ∈ xs, x < 256) (h : nrd xs a = some (n, b)) : n ≤ 65535 ∧ a < b ∧ b ≤ xs.length ∧ xs.take b = xs.take a ++ nb n := by
  unfold nrd at h
  cases e0 : xs[a]? with
  | none => rw [e0] at h; cases h
  | some b0 =>
    rw [e0] at h
    have l0 : a < xs.length := (List.getElem?_eq_some_iff.1 e0).1
    have g0 := hx b0 (List.mem_of_getElem? e0)
    have t1 : xs.take (a + 1) = xs.take a ++ [b0] := by rw [List.take_add_one, e0]; rfl
    simp only at h
    by_cases c0 : b0 < 128
    · rw [if_pos c0] at h
      cases h
      refine ⟨by omega, by omega, by omega, ?_⟩
      rw [t1, nb, if_pos c0]
    · rw [if_neg c0] at h
      cases e1 : xs[a + 1]? with
      | none => rw [e1] at h; cases h
      | some b1 =>
        rw [e1] at h
        have l1 : a + 1 < xs.length := (List.getElem?_eq_some_iff.1 e1).1
        have g1 := hx b1 (List.mem_of_getElem? e1)
        have t2 : xs.take (a + 2) = xs.take a ++ [b0, b1] := by rw [List.take_add_one, e1, t1]; simp
        simp only at h
        by_cases c1 : b1 < 128
        · rw [if_pos c1] at h
          by_cases z : b1 = 0
          · rw [if_pos z] at h; cases h
          · rw [if_neg z] at h
            cases h
            refine ⟨by omega, by omega, by omega, ?_⟩
            rw [t2, nb, if_neg (by omega), if_pos (by omega)]
            have q1 : 128 + (b0 % 128 + 128 * b1) % 128 = b0 := by omega
            have q2 : (b0 % 128 + 128 * b1) / 128 = b1 := by omega
            rw [q1, q2]
        · rw [if_neg c1] at h
          cases e2 : xs[a + 2]? with
          | none => rw [e2] at h; cases h
          | some b2 =>
            rw [e2] at h
            have l2 : a + 2 < xs.length := (List.getElem?_eq_some_iff.1 e2).1
            have t3 : xs.take (a + 3) = xs.take a ++ [b0, b1, b2] := by rw [List.take_add_one, e2, t2]; simp
            simp only at h
            split at h
            · rename_i c2
              cases h
              obtain ⟨c2, c3, c4⟩ := c2
              refine ⟨c4, by omega, by omega, ?_⟩
              rw [t3, nb, if_neg (by omega), if_neg (by omega)]
              have q1 : 128 + (b0 % 128 + 128 * (b1 % 128) + 16384 * b2) % 128 = b0 := by omega
              have q2 : 128 + (b0 % 128 + 128 * (b1 % 128) + 16384 * b2) / 128 % 128 = b1 := by omega
              have q3 : (b0 % 128 + 128 * (b1 % 128) + 16384 * b2) / 16384 = b2 := by omega
              rw [q1, q2, q3]
            · cases h
/-- m numbers, one less each, behind those read so far. -/
def rdN (xs : List Nat) : Nat → Nat → List Int → Option (List Int × Nat)
  | 0, a, acc => some (acc, a)
  | m + 1, a, acc => match nrd xs a with
    | none => none
    | some (n, b) => rdN xs m b (acc ++ [(n : Int) - 1])
theorem rdN_spec {xs : List Nat} (hx : ∀ x ∈ xs, x < 256) : ∀ {m a : Nat} {acc vs : List Int} {b : Nat}, rdN xs m a acc = some (vs, b) → a ≤ xs.length → a ≤ b ∧ b ≤ xs.length ∧ vs.length = acc.length + m ∧ ∃ r, vs = acc ++ r ∧ xs.take b = xs.take a ++ vb r
  | 0, a, acc, vs, b, h, hl => by
    cases h
    exact ⟨Nat.le_refl _, hl, rfl, [], by simp, by simp [vb]⟩
  | m + 1, a, acc, vs, b, h, hl => by
    unfold rdN at h
    split at h
    · cases h
    · rename_i n c hn
      obtain ⟨k1, k2, k3, k4⟩ := nrd_spec hx hn
      obtain ⟨g1, g2, g3, r, g4, g5⟩ := rdN_spec hx h k3
      refine ⟨by omega, g2, by simp at g3; omega, ((n : Int) - 1) :: r, by rw [g4]; simp, ?_⟩
      rw [g5, k4]
      have : ((n : Int) - 1 + 1).toNat = n := by omega
      simp [vb, this]
structure Ev where
  k : Int
  w : Int
  n : Int
  rk : Int
  vs : List Int
def Ev.ok (e : Ev) : Bool := evOk e.k e.w e.n e.rk e.vs
def Ev.by (e : Ev) : List Nat := eb e.k e.w e.n e.rk e.vs
def Ev.ds (e : Ev) : List D := [.i e.k, .i e.w, .i e.n, .i e.rk, LI e.vs]
/-- What is read, before it is asked whether it is valid and whole. -/
def epre (xs : List Nat) : Option (Ev × Nat) := match nrd xs 1 with
  | none => none
  | some (n, a) => if xs[0]? = some 3 then some (⟨3, 0, n, 0, []⟩, a) else if xs[0]? = some 1 then (match xs[a]? with
    | none => none
    | some q => match rdN xs 8 (a + 1) [] with
      | none => none
      | some (vs, b) => some (⟨1, n, 0, q, vs⟩, b)) else some (⟨(((xs[0]?).getD 0 : Nat) : Int), n, 0, 0, []⟩, a)
def erd (xs : List Nat) : Option Ev := match epre xs with
  | none => none
  | some (e, a) => if a = xs.length ∧ e.ok = true then some e else none
def erR : Option Ev → List D
  | none => [.b false, .i 0, .i 0, .i 0, .i 0, LI []]
  | some e => .b true :: e.ds
theorem nrd1 {xs : List Nat} {p : Nat × Nat} (hx : ∀ x ∈ xs, x < 256) (h : nrd xs 1 = some p) : ∃ x0, xs[0]? = some x0 ∧ x0 < 256 ∧ 0 < xs.length := by
  obtain ⟨n, b⟩ := p
  obtain ⟨h1, h2, h3, h4⟩ := nrd_spec hx h
  have : 0 < xs.length := by omega
  exact ⟨xs[0], List.getElem?_eq_getElem this, hx _ (List.getElem_mem this), this⟩
theorem epre_spec {xs : List Nat} {e : Ev} {a : Nat} (hx : ∀ x ∈ xs, x < 256) (h : epre xs = some (e, a)) : a ≤ xs.length ∧ e.vs.length ≤ 8 ∧ (e.ok = true → e.by = xs.take a) := by
  unfold epre at h
  cases hn : nrd xs 1 with
  | none => rw [hn] at h; cases h
  | some p =>
    obtain ⟨n, b⟩ := p
    rw [hn] at h
    obtain ⟨x0, e0, g0, l0⟩ := nrd1 hx hn
    obtain ⟨k1, k2, k3, k4⟩ := nrd_spec hx hn
    have t1 : xs.take 1 = [x0] := by rw [List.take_add_one, e0]; rfl
    rw [t1] at k4
    simp only [e0] at h
    by_cases c3 : x0 = 3
    · subst c3
      rw [if_pos rfl] at h
      cases h
      refine ⟨k3, by simp, fun _ => ?_⟩
      rw [k4]
      simp [Ev.by, eb]
    · rw [if_neg (by simpa using c3)] at h
      by_cases c1 : x0 = 1
      · subst c1
        rw [if_pos rfl] at h
        cases eq : xs[b]? with
        | none => rw [eq] at h; cases h
        | some q =>
          rw [eq] at h
          simp only at h
          have lq : b < xs.length := (List.getElem?_eq_some_iff.1 eq).1
          split at h
          · cases h
          · rename_i vs c hr
            cases h
            obtain ⟨g1, g2, g3, r, g4, g5⟩ := rdN_spec hx hr (by omega)
            simp only [List.nil_append] at g4
            subst g4
            refine ⟨g2, by simp at g3; simp; omega, fun _ => ?_⟩
            rw [g5, List.take_add_one, eq, k4]
            simp [Ev.by, eb]
      · rw [if_neg (by simpa using c1)] at h
        cases h
        refine ⟨k3, by simp, fun ho => ?_⟩
        rw [k4]
        have : x0 = 2 := by
          rcases evOk_spec ho with ⟨h, _⟩ | ⟨h, _⟩ | ⟨h, _⟩ <;> simp at h <;> omega
        subst this
        simp [Ev.by, eb]
theorem nrR_none : nrR none = [.i 0, .i 0, .b false] := rfl
theorem nrR_some {n j : Nat} : nrR (some (n, j)) = [.i n, .i j, .b true] := rfl
theorem txt_dec {xs ys : List Nat} (hx : ∀ n ∈ xs, n < 256) (hy : ∀ n ∈ ys, n < 256) : (decide (txt xs = txt ys)) = decide (xs = ys) := by
  simp only [txt_eq hx hy]
theorem take_all_iff {xs : List Nat} {a : Nat} (h : a ≤ xs.length) : (xs.take a = xs) ↔ a = xs.length := by
  constructor
  · intro e
    have := congrArg List.length e
    rw [List.length_take] at this
    omega
  · intro e
    rw [e, List.take_length]
theorem f29 (xs ys : List Nat) (hx : ∀ n ∈ xs, n < 256) (hy : ∀ n ∈ ys, n < 256) : EvF fes 29 [LN xs, LN ys] [.b (decide (xs = ys))] := by
  refine EvF.w (fe := e29) (t := t29) rfl rfl ?_
  simp only [Ja,Jb,Jc,Jd,Je,Jf,Jg,Jh,Ji,Jj,Jk,Jl,Jm,Jn,Jo,Jp,Jq,Jr,Js,Jt,Ju,Jv,Jw,envA,lensOf,Jx,Jy,Jz,JA,JB,JC,JD,JE,JF,JG,JH,JI,JJ,JK,JL,JM,JN,JO,JP,JQ,JR,JS,JT,JU,JV,JW,↓reduceIte,if_true,reduceCtorEq,Nat.reduceEqDiff,JX,JY,JZ,J0,J1,J2,J3,J4,J5,J6,J7,Ya,Yb,Yc,Yd,Ye,Yf,Int.cast_ofNat_Int,Yg,Yh,Int.reduceLT,Int.reduceLE,Int.reduceEq,Int.reduceAdd,Int.reduceMul,Int.reduceSub,Int.reduceNeg,Yi,Yj,Yk,Yl,Ym,Yn,Yo,Yp,Yq,Yr,Ys,Yt,Yu,Yv,Yw,Yx,Yy,Yz,YA,YB,YC,YD,YE,YF,YG,YH,YI,YJ,YK,YL,YM,YN,YO,YP,YQ,YR,YS,YT, t29, e29, bstr_LN, txt_dec hx hy]
set_option maxHeartbeats 1000000 in
theorem f30 (xs : List Nat) (hl : xs.length < 4611686018427387904) (hx : ∀ x ∈ xs, x < 256) : EvF fes 30 [LN xs] (erR (erd xs)) := by
  refine EvF.w (fe := e30) (t := t30) rfl rfl ?_
  have hr := fun a : Nat => f28 xs a hl hx
  simp only [Ja,Jb,Jc,Jd,Je,Jf,Jg,Jh,Ji,Jj,Jk,Jl,Jm,Jn,Jo,Jp,Jq,Jr,Js,Jt,Ju,Jv,Jw,envA,lensOf,Jx,Jy,Jz,JA,JB,JC,JD,JE,JF,JG,JH,JI,JJ,JK,JL,JM,JN,JO,JP,JQ,JR,JS,JT,JU,JV,JW,↓reduceIte,if_true,reduceCtorEq,Nat.reduceEqDiff,JX,JY,JZ,J0,J1,J2,J3,J4,J5,J6,J7,Ya,Yb,Yc,Yd,Ye,Yf,Int.cast_ofNat_Int,Yg,Yh,Int.reduceLT,Int.reduceLE,Int.reduceEq,Int.reduceAdd,Int.reduceMul,Int.reduceSub,Int.reduceNeg,Yi,Yj,Yk,Yl,Ym,Yn,Yo,Yp,Yq,Yr,Ys,Yt,Yu,Yv,Yw,Yx,Yy,Yz,YA,YB,YC,YD,YE,YF,YG,YH,YI,YJ,YK,YL,YM,YN,YO,YP,YQ,YR,YS,YT, t30, e30]
  unfold erd
  by_cases l0 : 0 < xs.length
  rotate_left
  · have h0 : (xs.length : Int) = 0 := by omega
    have hn : nrd xs 1 = none := by
      unfold nrd
      rw [List.getElem?_eq_none (by omega)]
    have : epre xs = none := by unfold epre; rw [hn]
    simp only [Ja,Jb,Jc,Jd,Je,Jf,Jg,Jh,Ji,Jj,Jk,Jl,Jm,Jn,Jo,Jp,Jq,Jr,Js,Jt,Ju,Jv,Jw,envA,lensOf,Jx,Jy,Jz,JA,JB,JC,JD,JE,JF,JG,JH,JI,JJ,JK,JL,JM,JN,JO,JP,JQ,JR,JS,JT,JU,JV,JW,↓reduceIte,if_true,reduceCtorEq,Nat.reduceEqDiff,JX,JY,JZ,J0,J1,J2,J3,J4,J5,J6,J7,Ya,Yb,Yc,Yd,Ye,Yf,Int.cast_ofNat_Int,Yg,Yh,Int.reduceLT,Int.reduceLE,Int.reduceEq,Int.reduceAdd,Int.reduceMul,Int.reduceSub,Int.reduceNeg,Yi,Yj,Yk,Yl,Ym,Yn,Yo,Yp,Yq,Yr,Ys,Yt,Yu,Yv,Yw,Yx,Yy,Yz,YA,YB,YC,YD,YE,YF,YG,YH,YI,YJ,YK,YL,YM,YN,YO,YP,YQ,YR,YS,YT, h0, this, erR]
    rfl
  have h0 : ¬ (xs.length : Int) = 0 := by omega
  obtain ⟨x0, gx⟩ : ∃ x0, xs[0] = x0 := ⟨_, rfl⟩
  have e0 : xs[0]? = some x0 := by rw [List.getElem?_eq_getElem l0, gx]
  have g0 : x0 < 256 := hx _ (List.mem_of_getElem? e0)
  have i0 : (Pr.ixc .i64).eval [.i 0, .i (xs.length : Int)] = some (.i 0) := ixc_N (i := 0) l0
  have get0 : (Pr.get [ku8] 0).eval [LN xs, .i 0] = some (.i (x0 : Int)) := by
    have := get_LN (k := .u8) l0
    rw [gx] at this
    exact this
  have l0' : (0 : Int) < xs.length := by omega
  (repeat (first | simp (disch := omega) only [wrap64, wrapU32, wrapU64, wrapU8] | simp only [Ja,Jb,Jc,Jd,Je,Jf,Jg,Jh,Ji,Jj,Jk,Jl,Jm,Jn,Jo,Jp,Jq,Jr,Js,Jt,Ju,Jv,Jw,envA,lensOf,Jx,Jy,Jz,JA,JB,JC,JD,JE,JF,JG,JH,JI,JJ,JK,JL,JM,JN,JO,JP,JQ,JR,JS,JT,JU,JV,JW,↓reduceIte,if_true,reduceCtorEq,Nat.reduceEqDiff,JX,JY,JZ,J0,J1,J2,J3,J4,J5,J6,J7,Ya,Yb,Yc,Yd,Ye,Yf,Int.cast_ofNat_Int,Yg,Yh,Int.reduceLT,Int.reduceLE,Int.reduceEq,Int.reduceAdd,Int.reduceMul,Int.reduceSub,Int.reduceNeg,Yi,Yj,Yk,Yl,Ym,Yn,Yo,Yp,Yq,Yr,Ys,Yt,Yu,Yv,Yw,Yx,Yy,Yz,YA,YB,YC,YD,YE,YF,YG,YH,YI,YJ,YK,YL,YM,YN,YO,YP,YQ,YR,YS,YT, h0, l0', get0]))
  refine WC.mk (hr 1) ?_
  cases hn : nrd xs 1 with
  | none =>
    have : epre xs = none := by unfold epre; rw [hn]
    simp only [Ja,Jb,Jc,Jd,Je,Jf,Jg,Jh,Ji,Jj,Jk,Jl,Jm,Jn,Jo,Jp,Jq,Jr,Js,Jt,Ju,Jv,Jw,envA,lensOf,Jx,Jy,Jz,JA,JB,JC,JD,JE,JF,JG,JH,JI,JJ,JK,JL,JM,JN,JO,JP,JQ,JR,JS,JT,JU,JV,JW,↓reduceIte,if_true,reduceCtorEq,Nat.reduceEqDiff,JX,JY,JZ,J0,J1,J2,J3,J4,J5,J6,J7,Ya,Yb,Yc,Yd,Ye,Yf,Int.cast_ofNat_Int,Yg,Yh,Int.reduceLT,Int.reduceLE,Int.reduceEq,Int.reduceAdd,Int.reduceMul,Int.reduceSub,Int.reduceNeg,Yi,Yj,Yk,Yl,Ym,Yn,Yo,Yp,Yq,Yr,Ys,Yt,Yu,Yv,Yw,Yx,Yy,Yz,YA,YB,YC,YD,YE,YF,YG,YH,YI,YJ,YK,YL,YM,YN,YO,YP,YQ,YR,YS,YT, nrR_none, this, erR]
    rfl
  | some p =>
    obtain ⟨n, a⟩ := p
    obtain ⟨k1, k2, k3, k4⟩ := nrd_spec hx hn
    have hpre : epre xs = (if x0 = 3 then some (⟨3, 0, n, 0, []⟩, a) else if x0 = 1 then (match xs[a]? with
      | none => none
      | some q => match rdN xs 8 (a + 1) [] with
        | none => none
        | some (vs, b) => some (⟨1, n, 0, q, vs⟩, b)) else some (⟨x0, n, 0, 0, []⟩, a)) := by
      unfold epre
      rw [hn]
      simp only [e0, Option.some.injEq, Option.getD_some]
    -- what is asked at the end
    have fin : ∀ (e : Ev) (a : Nat), epre xs = some (e, a) → (e.ok = true → (decide (e.by = xs)) = decide (a = xs.length)) ∧ e.vs.length ≤ 8 := fun e a h => by
      obtain ⟨h1, h2, h3⟩ := epre_spec hx h
      refine ⟨fun ho => ?_, h2⟩
      rw [h3 ho]
      exact decide_eq_decide.2 (take_all_iff h1)
    have ask : ∀ (e : Ev) (a : Nat), epre xs = some (e, a) → ∀ {t : Tr} {env : List D} {Q : Nat → List D → Prop}, True := fun _ _ _ _ _ _ => trivial
    have eqb : ∀ e : Ev, e.ok = true → EvF fes 29 [LN e.by, LN xs] [.b (decide (e.by = xs))] := fun e ho => f29 _ _ (eb_lt ho) hx
    (repeat (first | simp (disch := omega) only [wrap64, wrapU32, wrapU64, wrapU8] | simp only [Ja,Jb,Jc,Jd,Je,Jf,Jg,Jh,Ji,Jj,Jk,Jl,Jm,Jn,Jo,Jp,Jq,Jr,Js,Jt,Ju,Jv,Jw,envA,lensOf,Jx,Jy,Jz,JA,JB,JC,JD,JE,JF,JG,JH,JI,JJ,JK,JL,JM,JN,JO,JP,JQ,JR,JS,JT,JU,JV,JW,↓reduceIte,if_true,reduceCtorEq,Nat.reduceEqDiff,JX,JY,JZ,J0,J1,J2,J3,J4,J5,J6,J7,Ya,Yb,Yc,Yd,Ye,Yf,Int.cast_ofNat_Int,Yg,Yh,Int.reduceLT,Int.reduceLE,Int.reduceEq,Int.reduceAdd,Int.reduceMul,Int.reduceSub,Int.reduceNeg,Yi,Yj,Yk,Yl,Ym,Yn,Yo,Yp,Yq,Yr,Ys,Yt,Yu,Yv,Yw,Yx,Yy,Yz,YA,YB,YC,YD,YE,YF,YG,YH,YI,YJ,YK,YL,YM,YN,YO,YP,YQ,YR,YS,YT, nrR_some]))
    by_cases c3 : x0 = 3
    · subst c3
      rw [if_pos rfl] at hpre
      rw [hpre]
      obtain ⟨q1, q2⟩ := fin _ _ hpre
      (repeat (first | simp (disch := omega) only [wrap64, wrapU32, wrapU64, wrapU8] | simp only [Ja,Jb,Jc,Jd,Je,Jf,Jg,Jh,Ji,Jj,Jk,Jl,Jm,Jn,Jo,Jp,Jq,Jr,Js,Jt,Ju,Jv,Jw,envA,lensOf,Jx,Jy,Jz,JA,JB,JC,JD,JE,JF,JG,JH,JI,JJ,JK,JL,JM,JN,JO,JP,JQ,JR,JS,JT,JU,JV,JW,↓reduceIte,if_true,reduceCtorEq,Nat.reduceEqDiff,JX,JY,JZ,J0,J1,J2,J3,J4,J5,J6,J7,Ya,Yb,Yc,Yd,Ye,Yf,Int.cast_ofNat_Int,Yg,Yh,Int.reduceLT,Int.reduceLE,Int.reduceEq,Int.reduceAdd,Int.reduceMul,Int.reduceSub,Int.reduceNeg,Yi,Yj,Yk,Yl,Ym,Yn,Yo,Yp,Yq,Yr,Ys,Yt,Yu,Yv,Yw,Yx,Yy,Yz,YA,YB,YC,YD,YE,YF,YG,YH,YI,YJ,YK,YL,YM,YN,YO,YP,YQ,YR,YS,YT, LI_nil]))
      refine WC.mk (f19 3 0 n 0 [] (by simp)) ?_
      rw [show (⟨3, 0, n, 0, []⟩ : Ev).ok = evOk 3 0 n 0 [] from rfl] at q1 ⊢
      cases ho : evOk 3 0 n 0 [] with
      | false => simp only [Ja,Jb,Jc,Jd,Je,Jf,Jg,Jh,Ji,Jj,Jk,Jl,Jm,Jn,Jo,Jp,Jq,Jr,Js,Jt,Ju,Jv,Jw,envA,lensOf,Jx,Jy,Jz,JA,JB,JC,JD,JE,JF,JG,JH,JI,JJ,JK,JL,JM,JN,JO,JP,JQ,JR,JS,JT,JU,JV,JW,↓reduceIte,if_true,reduceCtorEq,Nat.reduceEqDiff,JX,JY,JZ,J0,J1,J2,J3,J4,J5,J6,J7,Ya,Yb,Yc,Yd,Ye,Yf,Int.cast_ofNat_Int,Yg,Yh,Int.reduceLT,Int.reduceLE,Int.reduceEq,Int.reduceAdd,Int.reduceMul,Int.reduceSub,Int.reduceNeg,Yi,Yj,Yk,Yl,Ym,Yn,Yo,Yp,Yq,Yr,Ys,Yt,Yu,Yv,Yw,Yx,Yy,Yz,YA,YB,YC,YD,YE,YF,YG,YH,YI,YJ,YK,YL,YM,YN,YO,YP,YQ,YR,YS,YT, erR, Ev.ds]
      | true =>
        have q1 := q1 ho
        have q3 := eqb ⟨3, 0, n, 0, []⟩ ho
        rw [q1] at q3
        simp only [Ja,Jb,Jc,Jd,Je,Jf,Jg,Jh,Ji,Jj,Jk,Jl,Jm,Jn,Jo,Jp,Jq,Jr,Js,Jt,Ju,Jv,Jw,envA,lensOf,Jx,Jy,Jz,JA,JB,JC,JD,JE,JF,JG,JH,JI,JJ,JK,JL,JM,JN,JO,JP,JQ,JR,JS,JT,JU,JV,JW,↓reduceIte,if_true,reduceCtorEq,Nat.reduceEqDiff,JX,JY,JZ,J0,J1,J2,J3,J4,J5,J6,J7,Ya,Yb,Yc,Yd,Ye,Yf,Int.cast_ofNat_Int,Yg,Yh,Int.reduceLT,Int.reduceLE,Int.reduceEq,Int.reduceAdd,Int.reduceMul,Int.reduceSub,Int.reduceNeg,Yi,Yj,Yk,Yl,Ym,Yn,Yo,Yp,Yq,Yr,Ys,Yt,Yu,Yv,Yw,Yx,Yy,Yz,YA,YB,YC,YD,YE,YF,YG,YH,YI,YJ,YK,YL,YM,YN,YO,YP,YQ,YR,YS,YT]
        refine WC.mk (f21 3 0 n 0 [] ho) ?_
        simp only [Ja,Jb,Jc,Jd,Je,Jf,Jg,Jh,Ji,Jj,Jk,Jl,Jm,Jn,Jo,Jp,Jq,Jr,Js,Jt,Ju,Jv,Jw,envA,lensOf,Jx,Jy,Jz,JA,JB,JC,JD,JE,JF,JG,JH,JI,JJ,JK,JL,JM,JN,JO,JP,JQ,JR,JS,JT,JU,JV,JW,↓reduceIte,if_true,reduceCtorEq,Nat.reduceEqDiff,JX,JY,JZ,J0,J1,J2,J3,J4,J5,J6,J7,Ya,Yb,Yc,Yd,Ye,Yf,Int.cast_ofNat_Int,Yg,Yh,Int.reduceLT,Int.reduceLE,Int.reduceEq,Int.reduceAdd,Int.reduceMul,Int.reduceSub,Int.reduceNeg,Yi,Yj,Yk,Yl,Ym,Yn,Yo,Yp,Yq,Yr,Ys,Yt,Yu,Yv,Yw,Yx,Yy,Yz,YA,YB,YC,YD,YE,YF,YG,YH,YI,YJ,YK,YL,YM,YN,YO,YP,YQ,YR,YS,YT]
        refine WC.mk q3 ?_
        by_cases hal : a = xs.length
        · simp only [Ja,Jb,Jc,Jd,Je,Jf,Jg,Jh,Ji,Jj,Jk,Jl,Jm,Jn,Jo,Jp,Jq,Jr,Js,Jt,Ju,Jv,Jw,envA,lensOf,Jx,Jy,Jz,JA,JB,JC,JD,JE,JF,JG,JH,JI,JJ,JK,JL,JM,JN,JO,JP,JQ,JR,JS,JT,JU,JV,JW,↓reduceIte,if_true,reduceCtorEq,Nat.reduceEqDiff,JX,JY,JZ,J0,J1,J2,J3,J4,J5,J6,J7,Ya,Yb,Yc,Yd,Ye,Yf,Int.cast_ofNat_Int,Yg,Yh,Int.reduceLT,Int.reduceLE,Int.reduceEq,Int.reduceAdd,Int.reduceMul,Int.reduceSub,Int.reduceNeg,Yi,Yj,Yk,Yl,Ym,Yn,Yo,Yp,Yq,Yr,Ys,Yt,Yu,Yv,Yw,Yx,Yy,Yz,YA,YB,YC,YD,YE,YF,YG,YH,YI,YJ,YK,YL,YM,YN,YO,YP,YQ,YR,YS,YT, hal, erR, Ev.ds]
        · simp only [Ja,Jb,Jc,Jd,Je,Jf,Jg,Jh,Ji,Jj,Jk,Jl,Jm,Jn,Jo,Jp,Jq,Jr,Js,Jt,Ju,Jv,Jw,envA,lensOf,Jx,Jy,Jz,JA,JB,JC,JD,JE,JF,JG,JH,JI,JJ,JK,JL,JM,JN,JO,JP,JQ,JR,JS,JT,JU,JV,JW,↓reduceIte,if_true,reduceCtorEq,Nat.reduceEqDiff,JX,JY,JZ,J0,J1,J2,J3,J4,J5,J6,J7,Ya,Yb,Yc,Yd,Ye,Yf,Int.cast_ofNat_Int,Yg,Yh,Int.reduceLT,Int.reduceLE,Int.reduceEq,Int.reduceAdd,Int.reduceMul,Int.reduceSub,Int.reduceNeg,Yi,Yj,Yk,Yl,Ym,Yn,Yo,Yp,Yq,Yr,Ys,Yt,Yu,Yv,Yw,Yx,Yy,Yz,YA,YB,YC,YD,YE,YF,YG,YH,YI,YJ,YK,YL,YM,YN,YO,YP,YQ,YR,YS,YT, hal, erR, Ev.ds]
    · have c3' : ¬ (x0 : Int) = 3 := by omega
      rw [if_neg c3] at hpre
      by_cases c1 : x0 = 1
      · subst c1
        rw [if_pos rfl] at hpre
        (repeat (first | simp (disch := omega) only [wrap64, wrapU32, wrapU64, wrapU8] | simp only [Ja,Jb,Jc,Jd,Je,Jf,Jg,Jh,Ji,Jj,Jk,Jl,Jm,Jn,Jo,Jp,Jq,Jr,Js,Jt,Ju,Jv,Jw,envA,lensOf,Jx,Jy,Jz,JA,JB,JC,JD,JE,JF,JG,JH,JI,JJ,JK,JL,JM,JN,JO,JP,JQ,JR,JS,JT,JU,JV,JW,↓reduceIte,if_true,reduceCtorEq,Nat.reduceEqDiff,JX,JY,JZ,J0,J1,J2,J3,J4,J5,J6,J7,Ya,Yb,Yc,Yd,Ye,Yf,Int.cast_ofNat_Int,Yg,Yh,Int.reduceLT,Int.reduceLE,Int.reduceEq,Int.reduceAdd,Int.reduceMul,Int.reduceSub,Int.reduceNeg,Yi,Yj,Yk,Yl,Ym,Yn,Yo,Yp,Yq,Yr,Ys,Yt,Yu,Yv,Yw,Yx,Yy,Yz,YA,YB,YC,YD,YE,YF,YG,YH,YI,YJ,YK,YL,YM,YN,YO,YP,YQ,YR,YS,YT, LI_nil]))
        by_cases hal : a < xs.length
        rotate_left
        · have h1 : (a : Int) = xs.length := by omega
          rw [List.getElem?_eq_none (by omega)] at hpre
          (repeat (first | simp (disch := omega) only [wrap64, wrapU32, wrapU64, wrapU8] | simp only [Ja,Jb,Jc,Jd,Je,Jf,Jg,Jh,Ji,Jj,Jk,Jl,Jm,Jn,Jo,Jp,Jq,Jr,Js,Jt,Ju,Jv,Jw,envA,lensOf,Jx,Jy,Jz,JA,JB,JC,JD,JE,JF,JG,JH,JI,JJ,JK,JL,JM,JN,JO,JP,JQ,JR,JS,JT,JU,JV,JW,↓reduceIte,if_true,reduceCtorEq,Nat.reduceEqDiff,JX,JY,JZ,J0,J1,J2,J3,J4,J5,J6,J7,Ya,Yb,Yc,Yd,Ye,Yf,Int.cast_ofNat_Int,Yg,Yh,Int.reduceLT,Int.reduceLE,Int.reduceEq,Int.reduceAdd,Int.reduceMul,Int.reduceSub,Int.reduceNeg,Yi,Yj,Yk,Yl,Ym,Yn,Yo,Yp,Yq,Yr,Ys,Yt,Yu,Yv,Yw,Yx,Yy,Yz,YA,YB,YC,YD,YE,YF,YG,YH,YI,YJ,YK,YL,YM,YN,YO,YP,YQ,YR,YS,YT, h1, hpre, erR]))
        have h1 : ¬ (a : Int) = xs.length := by omega
        obtain ⟨q, hq⟩ : ∃ q, xs[a] = q := ⟨_, rfl⟩
        have gq := hx _ (List.getElem_mem hal)
        rw [hq] at gq
        have h2 : xs[a]? = some q := by rw [List.getElem?_eq_getElem hal, hq]
        have h3 : (a : Int) < xs.length := by omega
        have p1 : ∀ b : Nat, ((b : Int) + 1) = ((b + 1 : Nat) : Int) := fun b => by omega
        rw [h2] at hpre
        simp only at hpre
        (repeat (first | simp (disch := omega) only [wrap64, wrapU32, wrapU64, wrapU8] | simp only [Ja,Jb,Jc,Jd,Je,Jf,Jg,Jh,Ji,Jj,Jk,Jl,Jm,Jn,Jo,Jp,Jq,Jr,Js,Jt,Ju,Jv,Jw,envA,lensOf,Jx,Jy,Jz,JA,JB,JC,JD,JE,JF,JG,JH,JI,JJ,JK,JL,JM,JN,JO,JP,JQ,JR,JS,JT,JU,JV,JW,↓reduceIte,if_true,reduceCtorEq,Nat.reduceEqDiff,JX,JY,JZ,J0,J1,J2,J3,J4,J5,J6,J7,Ya,Yb,Yc,Yd,Ye,Yf,Int.cast_ofNat_Int,Yg,Yh,Int.reduceLT,Int.reduceLE,Int.reduceEq,Int.reduceAdd,Int.reduceMul,Int.reduceSub,Int.reduceNeg,Yi,Yj,Yk,Yl,Ym,Yn,Yo,Yp,Yq,Yr,Ys,Yt,Yu,Yv,Yw,Yx,Yy,Yz,YA,YB,YC,YD,YE,YF,YG,YH,YI,YJ,YK,YL,YM,YN,YO,YP,YQ,YR,YS,YT, h1, h3, ixc_N hal, get_LN hal, hq, p1]))
        generalize hR : rdN xs 8 (a + 1) [] = R at hpre
        refine LW.inv (α := Nat × Nat × List Int) (fun s => s.1 ≤ 8 ∧ s.2.2.length = s.1 ∧ s.2.1 ≤ xs.length ∧ rdN xs (8 - s.1) s.2.1 s.2.2 = R) (fun s => [.i s.2.1, .i s.1, LI s.2.2]) (fun s => 8 - s.1) (fun ⟨i, b, acc⟩ ⟨hi, hacc, hb, hRR⟩ => ?_) (a := (0, a + 1, [])) ⟨by simp, by simp, by simp; omega, by simpa using hR⟩ (by simp)
        simp only at hi hacc hb hRR
        by_cases h8 : i < 8
        · have h8' : (i : Int) < 8 := by omega
          (repeat (first | simp (disch := omega) only [wrap64, wrapU32, wrapU64, wrapU8] | simp only [Ja,Jb,Jc,Jd,Je,Jf,Jg,Jh,Ji,Jj,Jk,Jl,Jm,Jn,Jo,Jp,Jq,Jr,Js,Jt,Ju,Jv,Jw,envA,lensOf,Jx,Jy,Jz,JA,JB,JC,JD,JE,JF,JG,JH,JI,JJ,JK,JL,JM,JN,JO,JP,JQ,JR,JS,JT,JU,JV,JW,↓reduceIte,if_true,reduceCtorEq,Nat.reduceEqDiff,JX,JY,JZ,J0,J1,J2,J3,J4,J5,J6,J7,Ya,Yb,Yc,Yd,Ye,Yf,Int.cast_ofNat_Int,Yg,Yh,Int.reduceLT,Int.reduceLE,Int.reduceEq,Int.reduceAdd,Int.reduceMul,Int.reduceSub,Int.reduceNeg,Yi,Yj,Yk,Yl,Ym,Yn,Yo,Yp,Yq,Yr,Ys,Yt,Yu,Yv,Yw,Yx,Yy,Yz,YA,YB,YC,YD,YE,YF,YG,YH,YI,YJ,YK,YL,YM,YN,YO,YP,YQ,YR,YS,YT, h8']))
          refine WC.mk (hr b) ?_
          rw [show 8 - i = (8 - (i + 1)) + 1 by omega, rdN] at hRR
          cases hnb : nrd xs b with
          | none =>
            rw [hnb] at hRR
            subst hRR
            (repeat (first | simp (disch := omega) only [wrap64, wrapU32, wrapU64, wrapU8] | simp only [Ja,Jb,Jc,Jd,Je,Jf,Jg,Jh,Ji,Jj,Jk,Jl,Jm,Jn,Jo,Jp,Jq,Jr,Js,Jt,Ju,Jv,Jw,envA,lensOf,Jx,Jy,Jz,JA,JB,JC,JD,JE,JF,JG,JH,JI,JJ,JK,JL,JM,JN,JO,JP,JQ,JR,JS,JT,JU,JV,JW,↓reduceIte,if_true,reduceCtorEq,Nat.reduceEqDiff,JX,JY,JZ,J0,J1,J2,J3,J4,J5,J6,J7,Ya,Yb,Yc,Yd,Ye,Yf,Int.cast_ofNat_Int,Yg,Yh,Int.reduceLT,Int.reduceLE,Int.reduceEq,Int.reduceAdd,Int.reduceMul,Int.reduceSub,Int.reduceNeg,Yi,Yj,Yk,Yl,Ym,Yn,Yo,Yp,Yq,Yr,Ys,Yt,Yu,Yv,Yw,Yx,Yy,Yz,YA,YB,YC,YD,YE,YF,YG,YH,YI,YJ,YK,YL,YM,YN,YO,YP,YQ,YR,YS,YT, nrR_none, erR, hpre]))
          | some p =>
            obtain ⟨m, c⟩ := p
            obtain ⟨m1, m2, m3, _⟩ := nrd_spec hx hnb
            rw [hnb] at hRR
            simp only at hRR
            (repeat (first | simp (disch := omega) only [wrap64, wrapU32, wrapU64, wrapU8] | simp only [Ja,Jb,Jc,Jd,Je,Jf,Jg,Jh,Ji,Jj,Jk,Jl,Jm,Jn,Jo,Jp,Jq,Jr,Js,Jt,Ju,Jv,Jw,envA,lensOf,Jx,Jy,Jz,JA,JB,JC,JD,JE,JF,JG,JH,JI,JJ,JK,JL,JM,JN,JO,JP,JQ,JR,JS,JT,JU,JV,JW,↓reduceIte,if_true,reduceCtorEq,Nat.reduceEqDiff,JX,JY,JZ,J0,J1,J2,J3,J4,J5,J6,J7,Ya,Yb,Yc,Yd,Ye,Yf,Int.cast_ofNat_Int,Yg,Yh,Int.reduceLT,Int.reduceLE,Int.reduceEq,Int.reduceAdd,Int.reduceMul,Int.reduceSub,Int.reduceNeg,Yi,Yj,Yk,Yl,Ym,Yn,Yo,Yp,Yq,Yr,Ys,Yt,Yu,Yv,Yw,Yx,Yy,Yz,YA,YB,YC,YD,YE,YF,YG,YH,YI,YJ,YK,YL,YM,YN,YO,YP,YQ,YR,YS,YT, nrR_some]))
            rw [app_LI1 (by omega) (by omega)]
            (repeat (first | simp (disch := omega) only [wrap64, wrapU32, wrapU64, wrapU8] | simp only [Ja,Jb,Jc,Jd,Je,Jf,Jg,Jh,Ji,Jj,Jk,Jl,Jm,Jn,Jo,Jp,Jq,Jr,Js,Jt,Ju,Jv,Jw,envA,lensOf,Jx,Jy,Jz,JA,JB,JC,JD,JE,JF,JG,JH,JI,JJ,JK,JL,JM,JN,JO,JP,JQ,JR,JS,JT,JU,JV,JW,↓reduceIte,if_true,reduceCtorEq,Nat.reduceEqDiff,JX,JY,JZ,J0,J1,J2,J3,J4,J5,J6,J7,Ya,Yb,Yc,Yd,Ye,Yf,Int.cast_ofNat_Int,Yg,Yh,Int.reduceLT,Int.reduceLE,Int.reduceEq,Int.reduceAdd,Int.reduceMul,Int.reduceSub,Int.reduceNeg,Yi,Yj,Yk,Yl,Ym,Yn,Yo,Yp,Yq,Yr,Ys,Yt,Yu,Yv,Yw,Yx,Yy,Yz,YA,YB,YC,YD,YE,YF,YG,YH,YI,YJ,YK,YL,YM,YN,YO,YP,YQ,YR,YS,YT]))
            exact ⟨(i + 1, c, acc ++ [(m : Int) - 1]), ⟨by simp; omega, by simp; omega, by simpa using m3, hRR⟩, by simp; omega, by simp⟩
        · obtain rfl : i = 8 := by omega
          rw [show 8 - 8 = 0 from rfl, rdN] at hRR
          subst hRR
          have h8' : ¬ ((8 : Nat) : Int) < 8 := by omega
          simp only at hpre
          obtain ⟨q1, q2⟩ := fin _ _ hpre
          rw [hpre]
          (repeat (first | simp (disch := omega) only [wrap64, wrapU32, wrapU64, wrapU8] | simp only [Ja,Jb,Jc,Jd,Je,Jf,Jg,Jh,Ji,Jj,Jk,Jl,Jm,Jn,Jo,Jp,Jq,Jr,Js,Jt,Ju,Jv,Jw,envA,lensOf,Jx,Jy,Jz,JA,JB,JC,JD,JE,JF,JG,JH,JI,JJ,JK,JL,JM,JN,JO,JP,JQ,JR,JS,JT,JU,JV,JW,↓reduceIte,if_true,reduceCtorEq,Nat.reduceEqDiff,JX,JY,JZ,J0,J1,J2,J3,J4,J5,J6,J7,Ya,Yb,Yc,Yd,Ye,Yf,Int.cast_ofNat_Int,Yg,Yh,Int.reduceLT,Int.reduceLE,Int.reduceEq,Int.reduceAdd,Int.reduceMul,Int.reduceSub,Int.reduceNeg,Yi,Yj,Yk,Yl,Ym,Yn,Yo,Yp,Yq,Yr,Ys,Yt,Yu,Yv,Yw,Yx,Yy,Yz,YA,YB,YC,YD,YE,YF,YG,YH,YI,YJ,YK,YL,YM,YN,YO,YP,YQ,YR,YS,YT, h8']))
          refine WC.mk (f19 1 n 0 q acc (by omega)) ?_
          rw [show (⟨1, n, 0, q, acc⟩ : Ev).ok = evOk 1 n 0 q acc from rfl] at q1 ⊢
          cases ho : evOk 1 n 0 q acc with
          | false => simp only [Ja,Jb,Jc,Jd,Je,Jf,Jg,Jh,Ji,Jj,Jk,Jl,Jm,Jn,Jo,Jp,Jq,Jr,Js,Jt,Ju,Jv,Jw,envA,lensOf,Jx,Jy,Jz,JA,JB,JC,JD,JE,JF,JG,JH,JI,JJ,JK,JL,JM,JN,JO,JP,JQ,JR,JS,JT,JU,JV,JW,↓reduceIte,if_true,reduceCtorEq,Nat.reduceEqDiff,JX,JY,JZ,J0,J1,J2,J3,J4,J5,J6,J7,Ya,Yb,Yc,Yd,Ye,Yf,Int.cast_ofNat_Int,Yg,Yh,Int.reduceLT,Int.reduceLE,Int.reduceEq,Int.reduceAdd,Int.reduceMul,Int.reduceSub,Int.reduceNeg,Yi,Yj,Yk,Yl,Ym,Yn,Yo,Yp,Yq,Yr,Ys,Yt,Yu,Yv,Yw,Yx,Yy,Yz,YA,YB,YC,YD,YE,YF,YG,YH,YI,YJ,YK,YL,YM,YN,YO,YP,YQ,YR,YS,YT, erR, Ev.ds]
          | true =>
            have q1 := q1 ho
            have q3 := eqb ⟨1, n, 0, q, acc⟩ ho
            rw [q1] at q3
            simp only [Ja,Jb,Jc,Jd,Je,Jf,Jg,Jh,Ji,Jj,Jk,Jl,Jm,Jn,Jo,Jp,Jq,Jr,Js,Jt,Ju,Jv,Jw,envA,lensOf,Jx,Jy,Jz,JA,JB,JC,JD,JE,JF,JG,JH,JI,JJ,JK,JL,JM,JN,JO,JP,JQ,JR,JS,JT,JU,JV,JW,↓reduceIte,if_true,reduceCtorEq,Nat.reduceEqDiff,JX,JY,JZ,J0,J1,J2,J3,J4,J5,J6,J7,Ya,Yb,Yc,Yd,Ye,Yf,Int.cast_ofNat_Int,Yg,Yh,Int.reduceLT,Int.reduceLE,Int.reduceEq,Int.reduceAdd,Int.reduceMul,Int.reduceSub,Int.reduceNeg,Yi,Yj,Yk,Yl,Ym,Yn,Yo,Yp,Yq,Yr,Ys,Yt,Yu,Yv,Yw,Yx,Yy,Yz,YA,YB,YC,YD,YE,YF,YG,YH,YI,YJ,YK,YL,YM,YN,YO,YP,YQ,YR,YS,YT]
            refine WC.mk (f21 1 n 0 q acc ho) ?_
            simp only [Ja,Jb,Jc,Jd,Je,Jf,Jg,Jh,Ji,Jj,Jk,Jl,Jm,Jn,Jo,Jp,Jq,Jr,Js,Jt,Ju,Jv,Jw,envA,lensOf,Jx,Jy,Jz,JA,JB,JC,JD,JE,JF,JG,JH,JI,JJ,JK,JL,JM,JN,JO,JP,JQ,JR,JS,JT,JU,JV,JW,↓reduceIte,if_true,reduceCtorEq,Nat.reduceEqDiff,JX,JY,JZ,J0,J1,J2,J3,J4,J5,J6,J7,Ya,Yb,Yc,Yd,Ye,Yf,Int.cast_ofNat_Int,Yg,Yh,Int.reduceLT,Int.reduceLE,Int.reduceEq,Int.reduceAdd,Int.reduceMul,Int.reduceSub,Int.reduceNeg,Yi,Yj,Yk,Yl,Ym,Yn,Yo,Yp,Yq,Yr,Ys,Yt,Yu,Yv,Yw,Yx,Yy,Yz,YA,YB,YC,YD,YE,YF,YG,YH,YI,YJ,YK,YL,YM,YN,YO,YP,YQ,YR,YS,YT]
            refine WC.mk q3 ?_
            by_cases hal : b = xs.length
            · simp only [Ja,Jb,Jc,Jd,Je,Jf,Jg,Jh,Ji,Jj,Jk,Jl,Jm,Jn,Jo,Jp,Jq,Jr,Js,Jt,Ju,Jv,Jw,envA,lensOf,Jx,Jy,Jz,JA,JB,JC,JD,JE,JF,JG,JH,JI,JJ,JK,JL,JM,JN,JO,JP,JQ,JR,JS,JT,JU,JV,JW,↓reduceIte,if_true,reduceCtorEq,Nat.reduceEqDiff,JX,JY,JZ,J0,J1,J2,J3,J4,J5,J6,J7,Ya,Yb,Yc,Yd,Ye,Yf,Int.cast_ofNat_Int,Yg,Yh,Int.reduceLT,Int.reduceLE,Int.reduceEq,Int.reduceAdd,Int.reduceMul,Int.reduceSub,Int.reduceNeg,Yi,Yj,Yk,Yl,Ym,Yn,Yo,Yp,Yq,Yr,Ys,Yt,Yu,Yv,Yw,Yx,Yy,Yz,YA,YB,YC,YD,YE,YF,YG,YH,YI,YJ,YK,YL,YM,YN,YO,YP,YQ,YR,YS,YT, hal, erR, Ev.ds]
            · simp only [Ja,Jb,Jc,Jd,Je,Jf,Jg,Jh,Ji,Jj,Jk,Jl,Jm,Jn,Jo,Jp,Jq,Jr,Js,Jt,Ju,Jv,Jw,envA,lensOf,Jx,Jy,Jz,JA,JB,JC,JD,JE,JF,JG,JH,JI,JJ,JK,JL,JM,JN,JO,JP,JQ,JR,JS,JT,JU,JV,JW,↓reduceIte,if_true,reduceCtorEq,Nat.reduceEqDiff,JX,JY,JZ,J0,J1,J2,J3,J4,J5,J6,J7,Ya,Yb,Yc,Yd,Ye,Yf,Int.cast_ofNat_Int,Yg,Yh,Int.reduceLT,Int.reduceLE,Int.reduceEq,Int.reduceAdd,Int.reduceMul,Int.reduceSub,Int.reduceNeg,Yi,Yj,Yk,Yl,Ym,Yn,Yo,Yp,Yq,Yr,Ys,Yt,Yu,Yv,Yw,Yx,Yy,Yz,YA,YB,YC,YD,YE,YF,YG,YH,YI,YJ,YK,YL,YM,YN,YO,YP,YQ,YR,YS,YT, hal, erR, Ev.ds]
      · have c1' : ¬ (x0 : Int) = 1 := by omega
        rw [if_neg c1] at hpre
        rw [hpre]
        obtain ⟨q1, q2⟩ := fin _ _ hpre
        (repeat (first | simp (disch := omega) only [wrap64, wrapU32, wrapU64, wrapU8] | simp only [Ja,Jb,Jc,Jd,Je,Jf,Jg,Jh,Ji,Jj,Jk,Jl,Jm,Jn,Jo,Jp,Jq,Jr,Js,Jt,Ju,Jv,Jw,envA,lensOf,Jx,Jy,Jz,JA,JB,JC,JD,JE,JF,JG,JH,JI,JJ,JK,JL,JM,JN,JO,JP,JQ,JR,JS,JT,JU,JV,JW,↓reduceIte,if_true,reduceCtorEq,Nat.reduceEqDiff,JX,JY,JZ,J0,J1,J2,J3,J4,J5,J6,J7,Ya,Yb,Yc,Yd,Ye,Yf,Int.cast_ofNat_Int,Yg,Yh,Int.reduceLT,Int.reduceLE,Int.reduceEq,Int.reduceAdd,Int.reduceMul,Int.reduceSub,Int.reduceNeg,Yi,Yj,Yk,Yl,Ym,Yn,Yo,Yp,Yq,Yr,Ys,Yt,Yu,Yv,Yw,Yx,Yy,Yz,YA,YB,YC,YD,YE,YF,YG,YH,YI,YJ,YK,YL,YM,YN,YO,YP,YQ,YR,YS,YT, c3', c1', LI_nil]))
        refine WC.mk (f19 x0 n 0 0 [] (by simp)) ?_
        rw [show (⟨x0, n, 0, 0, []⟩ : Ev).ok = evOk x0 n 0 0 [] from rfl] at q1 ⊢
        cases ho : evOk x0 n 0 0 [] with
        | false => simp only [Ja,Jb,Jc,Jd,Je,Jf,Jg,Jh,Ji,Jj,Jk,Jl,Jm,Jn,Jo,Jp,Jq,Jr,Js,Jt,Ju,Jv,Jw,envA,lensOf,Jx,Jy,Jz,JA,JB,JC,JD,JE,JF,JG,JH,JI,JJ,JK,JL,JM,JN,JO,JP,JQ,JR,JS,JT,JU,JV,JW,↓reduceIte,if_true,reduceCtorEq,Nat.reduceEqDiff,JX,JY,JZ,J0,J1,J2,J3,J4,J5,J6,J7,Ya,Yb,Yc,Yd,Ye,Yf,Int.cast_ofNat_Int,Yg,Yh,Int.reduceLT,Int.reduceLE,Int.reduceEq,Int.reduceAdd,Int.reduceMul,Int.reduceSub,Int.reduceNeg,Yi,Yj,Yk,Yl,Ym,Yn,Yo,Yp,Yq,Yr,Ys,Yt,Yu,Yv,Yw,Yx,Yy,Yz,YA,YB,YC,YD,YE,YF,YG,YH,YI,YJ,YK,YL,YM,YN,YO,YP,YQ,YR,YS,YT, erR, Ev.ds]
        | true =>
          have q1 := q1 ho
          have q3 := eqb ⟨x0, n, 0, 0, []⟩ ho
          rw [q1] at q3
          simp only [Ja,Jb,Jc,Jd,Je,Jf,Jg,Jh,Ji,Jj,Jk,Jl,Jm,Jn,Jo,Jp,Jq,Jr,Js,Jt,Ju,Jv,Jw,envA,lensOf,Jx,Jy,Jz,JA,JB,JC,JD,JE,JF,JG,JH,JI,JJ,JK,JL,JM,JN,JO,JP,JQ,JR,JS,JT,JU,JV,JW,↓reduceIte,if_true,reduceCtorEq,Nat.reduceEqDiff,JX,JY,JZ,J0,J1,J2,J3,J4,J5,J6,J7,Ya,Yb,Yc,Yd,Ye,Yf,Int.cast_ofNat_Int,Yg,Yh,Int.reduceLT,Int.reduceLE,Int.reduceEq,Int.reduceAdd,Int.reduceMul,Int.reduceSub,Int.reduceNeg,Yi,Yj,Yk,Yl,Ym,Yn,Yo,Yp,Yq,Yr,Ys,Yt,Yu,Yv,Yw,Yx,Yy,Yz,YA,YB,YC,YD,YE,YF,YG,YH,YI,YJ,YK,YL,YM,YN,YO,YP,YQ,YR,YS,YT]
          refine WC.mk (f21 x0 n 0 0 [] ho) ?_
          simp only [Ja,Jb,Jc,Jd,Je,Jf,Jg,Jh,Ji,Jj,Jk,Jl,Jm,Jn,Jo,Jp,Jq,Jr,Js,Jt,Ju,Jv,Jw,envA,lensOf,Jx,Jy,Jz,JA,JB,JC,JD,JE,JF,JG,JH,JI,JJ,JK,JL,JM,JN,JO,JP,JQ,JR,JS,JT,JU,JV,JW,↓reduceIte,if_true,reduceCtorEq,Nat.reduceEqDiff,JX,JY,JZ,J0,J1,J2,J3,J4,J5,J6,J7,Ya,Yb,Yc,Yd,Ye,Yf,Int.cast_ofNat_Int,Yg,Yh,Int.reduceLT,Int.reduceLE,Int.reduceEq,Int.reduceAdd,Int.reduceMul,Int.reduceSub,Int.reduceNeg,Yi,Yj,Yk,Yl,Ym,Yn,Yo,Yp,Yq,Yr,Ys,Yt,Yu,Yv,Yw,Yx,Yy,Yz,YA,YB,YC,YD,YE,YF,YG,YH,YI,YJ,YK,YL,YM,YN,YO,YP,YQ,YR,YS,YT]
          refine WC.mk q3 ?_
          by_cases hal : a = xs.length
          · simp only [Ja,Jb,Jc,Jd,Je,Jf,Jg,Jh,Ji,Jj,Jk,Jl,Jm,Jn,Jo,Jp,Jq,Jr,Js,Jt,Ju,Jv,Jw,envA,lensOf,Jx,Jy,Jz,JA,JB,JC,JD,JE,JF,JG,JH,JI,JJ,JK,JL,JM,JN,JO,JP,JQ,JR,JS,JT,JU,JV,JW,↓reduceIte,if_true,reduceCtorEq,Nat.reduceEqDiff,JX,JY,JZ,J0,J1,J2,J3,J4,J5,J6,J7,Ya,Yb,Yc,Yd,Ye,Yf,Int.cast_ofNat_Int,Yg,Yh,Int.reduceLT,Int.reduceLE,Int.reduceEq,Int.reduceAdd,Int.reduceMul,Int.reduceSub,Int.reduceNeg,Yi,Yj,Yk,Yl,Ym,Yn,Yo,Yp,Yq,Yr,Ys,Yt,Yu,Yv,Yw,Yx,Yy,Yz,YA,YB,YC,YD,YE,YF,YG,YH,YI,YJ,YK,YL,YM,YN,YO,YP,YQ,YR,YS,YT, hal, erR, Ev.ds]
          · simp only [Ja,Jb,Jc,Jd,Je,Jf,Jg,Jh,Ji,Jj,Jk,Jl,Jm,Jn,Jo,Jp,Jq,Jr,Js,Jt,Ju,Jv,Jw,envA,lensOf,Jx,Jy,Jz,JA,JB,JC,JD,JE,JF,JG,JH,JI,JJ,JK,JL,JM,JN,JO,JP,JQ,JR,JS,JT,JU,JV,JW,↓reduceIte,if_true,reduceCtorEq,Nat.reduceEqDiff,JX,JY,JZ,J0,J1,J2,J3,J4,J5,J6,J7,Ya,Yb,Yc,Yd,Ye,Yf,Int.cast_ofNat_Int,Yg,Yh,Int.reduceLT,Int.reduceLE,Int.reduceEq,Int.reduceAdd,Int.reduceMul,Int.reduceSub,Int.reduceNeg,Yi,Yj,Yk,Yl,Ym,Yn,Yo,Yp,Yq,Yr,Ys,Yt,Yu,Yv,Yw,Yx,Yy,Yz,YA,YB,YC,YD,YE,YF,YG,YH,YI,YJ,YK,YL,YM,YN,YO,YP,YQ,YR,YS,YT, hal, erR, Ev.ds]
end Go.Proofs.YtdjfhggmcigahaaDoor.EBack

/- What is encoded is read back. -/
set_option linter.unusedVariables false
set_option linter.unusedSimpArgs false
namespace Go.Proofs.YtdjfhggmcigahaaDoor.EBack
open Go.BH
set_option maxRecDepth 100000
theorem getP (p q : List Nat) (j : Nat) : (p ++ q)[p.length + j]? = q[j]? := by
  rw [List.getElem?_append_right (by omega), show p.length + j - p.length = j by omega]
theorem nrd_nb {p r : List Nat} {n : Nat} (h : n ≤ 65535) : nrd (p ++ (nb n ++ r)) p.length = some (n, p.length + (nb n).length) := by
  have g0 := getP p (nb n ++ r) 0
  have g1 := getP p (nb n ++ r) 1
  have g2 := getP p (nb n ++ r) 2
  rw [Nat.add_zero] at g0
  unfold nrd
  rw [g0, g1, g2]
  unfold nb
  by_cases h1 : n < 128
  · simp only [if_pos h1, List.cons_append, List.nil_append, List.getElem?_cons_zero, List.length_singleton]
  by_cases h2 : n < 16384
  · simp only [if_neg h1, if_pos h2, List.cons_append, List.nil_append, List.getElem?_cons_zero, List.getElem?_cons_succ, List.length_cons, List.length_nil]
    rw [if_neg (by omega), if_pos (by omega), if_neg (by omega)]
    congr 2
    omega
  · simp only [if_neg h1, if_neg h2, List.cons_append, List.nil_append, List.getElem?_cons_zero, List.getElem?_cons_succ, List.length_cons, List.length_nil]
    rw [if_neg (by omega), if_neg (by omega), if_pos (by omega)]
    congr 2
    omega
theorem vb_cons (v : Int) (vs : List Int) : vb (v :: vs) = nb (v + 1).toNat ++ vb vs := by simp [vb]
theorem rdN_vb {r : List Nat} : ∀ {vs : List Int} {p : List Nat} {acc : List Int}, (∀ v ∈ vs, -1 ≤ v ∧ v ≤ 4095) → rdN (p ++ (vb vs ++ r)) vs.length p.length acc = some (acc ++ vs, p.length + (vb vs).length)
  | [], p, acc, _ => by simp [rdN, vb]
  | v :: vs, p, acc, h => by
    have hv := h v List.mem_cons_self
    have e : p ++ (vb (v :: vs) ++ r) = p ++ (nb (v + 1).toNat ++ (vb vs ++ r)) := by rw [vb_cons, List.append_assoc]
    rw [List.length_cons, rdN, e, nrd_nb (by omega)]
    simp only
    have ih := rdN_vb (r := r) (vs := vs) (p := p ++ nb (v + 1).toNat) (acc := acc ++ [(((v + 1).toNat : Nat) : Int) - 1]) (fun x hx => h x (List.mem_cons_of_mem _ hx))
    rw [List.append_assoc, List.length_append] at ih
    rw [ih, vb_cons, List.length_append]
    have : (((v + 1).toNat : Nat) : Int) - 1 = v := by omega
    rw [this]
    simp [Nat.add_assoc]
theorem erd_by {k w n rk : Int} {vs : List Int} (h : evOk k w n rk vs = true) : erd (eb k w n rk vs) = some ⟨k, w, n, rk, vs⟩ := by
  have ho := h
  have hok : Ev.ok ⟨k, w, n, rk, vs⟩ = true := h
  unfold evOk at h
  by_cases k1 : k = 1
  · subst k1
    simp only [if_true, Bool.and_eq_true, decide_eq_true_eq] at h
    obtain ⟨⟨⟨h1, h2⟩, h3⟩, h4⟩ := h
    obtain ⟨q1, q2, q3⟩ := reqOk_spec h4
    subst h3
    have hr : 0 ≤ rk := by omega
    have eE : eb 1 w 0 rk vs = [1] ++ (nb w.toNat ++ ([rk.toNat] ++ (vb vs ++ []))) := by simp [eb]
    have n1 := nrd_nb (p := [1]) (n := w.toNat) (r := [rk.toNat] ++ (vb vs ++ [])) (by omega)
    rw [← eE] at n1
    have eF : eb 1 w 0 rk vs = ([1] ++ nb w.toNat) ++ ([rk.toNat] ++ (vb vs ++ [])) := by rw [eE]; simp
    have gq := getP ([1] ++ nb w.toNat) ([rk.toNat] ++ (vb vs ++ [])) 0
    rw [← eF, Nat.add_zero, List.length_append] at gq
    have eG : eb 1 w 0 rk vs = ([1] ++ nb w.toNat ++ [rk.toNat]) ++ (vb vs ++ []) := by rw [eE]; simp
    have rd := rdN_vb (r := []) (vs := vs) (p := [1] ++ nb w.toNat ++ [rk.toNat]) (acc := []) q3
    rw [← eG, q1] at rd
    have x0 : (eb 1 w 0 rk vs)[0]? = some 1 := by rw [eE]; rfl
    have hlen : (eb 1 w 0 rk vs).length = ([1] ++ nb w.toNat ++ [rk.toNat]).length + (vb vs).length := by rw [eG]; simp; omega
    simp only [List.length_append, List.length_singleton] at n1 gq rd hlen
    unfold erd epre
    rw [n1]
    simp only [x0, gq, rd]
    simp only [List.cons_append, List.nil_append, List.getElem?_cons_zero, Option.some.injEq, show ¬ (1 : Nat) = 3 by omega, if_false, if_true]
    have w1 : ((w.toNat : Nat) : Int) = w := by omega
    have w2 : ((rk.toNat : Nat) : Int) = rk := by omega
    rw [w1, w2, hlen, if_pos ⟨rfl, hok⟩]
  rw [if_neg k1] at h
  by_cases k2 : k = 2
  · subst k2
    simp only [if_true, Bool.and_eq_true, decide_eq_true_eq] at h
    obtain ⟨⟨⟨h1, h2⟩, h3⟩, h4, h5⟩ := h
    subst h3 h4 h5
    have eE : eb 2 w 0 0 [] = [2] ++ (nb w.toNat ++ []) := by simp [eb]
    have n1 := nrd_nb (p := [2]) (n := w.toNat) (r := []) (by omega)
    rw [← eE] at n1
    have x0 : (eb 2 w 0 0 [])[0]? = some 2 := by rw [eE]; rfl
    have hlen : (eb 2 w 0 0 []).length = 1 + (nb w.toNat).length := by rw [eE]; simp; omega
    simp only [List.length_singleton] at n1
    unfold erd epre
    rw [n1]
    simp only [x0, Option.some.injEq, show ¬ (2 : Nat) = 3 by omega, show ¬ (2 : Nat) = 1 by omega, if_false, Option.getD_some]
    have w1 : ((w.toNat : Nat) : Int) = w := by omega
    rw [w1, hlen, if_pos ⟨rfl, hok⟩]
    rfl
  rw [if_neg k2] at h
  by_cases k3 : k = 3
  · subst k3
    simp only [if_true, Bool.and_eq_true, decide_eq_true_eq] at h
    obtain ⟨⟨⟨h1, h2⟩, h3⟩, h4, h5⟩ := h
    subst h1 h4 h5
    have eE : eb 3 0 n 0 [] = [3] ++ (nb n.toNat ++ []) := by simp [eb]
    have n1 := nrd_nb (p := [3]) (n := n.toNat) (r := []) (by omega)
    rw [← eE] at n1
    have x0 : (eb 3 0 n 0 [])[0]? = some 3 := by rw [eE]; rfl
    have hlen : (eb 3 0 n 0 []).length = 1 + (nb n.toNat).length := by rw [eE]; simp; omega
    simp only [List.length_singleton] at n1
    unfold erd epre
    rw [n1]
    simp only [x0, if_true]
    have w1 : ((n.toNat : Nat) : Int) = n := by omega
    rw [w1, hlen, if_pos ⟨rfl, hok⟩]
  · rw [if_neg k3] at h
    cases h
end Go.Proofs.YtdjfhggmcigahaaDoor.EBack

/- The bytes of an event, as the reference makes them. -/
set_option linter.unusedVariables false
set_option linter.unusedSimpArgs false
namespace Go.Proofs.YtdjfhggmcigahaaDoor.EBack
open Go.BH
set_option maxRecDepth 100000
end Go.Proofs.YtdjfhggmcigahaaDoor.EBack

/- EventBytes: the law is true of every input. -/
set_option linter.unusedVariables false
set_option linter.unusedSimpArgs false
namespace Go.Proofs.YtdjfhggmcigahaaDoor.EBack
open Go.BH
set_option maxRecDepth 100000
theorem f22 (k w n rk : Int) (vs : List Int) (hl : vs.length < 9223372036854775808) : EvF fes 22 [.i k, .i w, .i n, .i rk, LI vs] [LN (if evOk k w n rk vs = true then eb k w n rk vs else [])] := by
  refine EvF.w (fe := e22) (t := t22) rfl rfl ?_
  simp only [Ja,Jb,Jc,Jd,Je,Jf,Jg,Jh,Ji,Jj,Jk,Jl,Jm,Jn,Jo,Jp,Jq,Jr,Js,Jt,Ju,Jv,Jw,envA,lensOf,Jx,Jy,Jz,JA,JB,JC,JD,JE,JF,JG,JH,JI,JJ,JK,JL,JM,JN,JO,JP,JQ,JR,JS,JT,JU,JV,JW,↓reduceIte,if_true,reduceCtorEq,Nat.reduceEqDiff,JX,JY,JZ,J0,J1,J2,J3,J4,J5,J6,J7,Ya,Yb,Yc,Yd,Ye,Yf,Int.cast_ofNat_Int,Yg,Yh,Int.reduceLT,Int.reduceLE,Int.reduceEq,Int.reduceAdd,Int.reduceMul,Int.reduceSub,Int.reduceNeg,Yi,Yj,Yk,Yl,Ym,Yn,Yo,Yp,Yq,Yr,Ys,Yt,Yu,Yv,Yw,Yx,Yy,Yz,YA,YB,YC,YD,YE,YF,YG,YH,YI,YJ,YK,YL,YM,YN,YO,YP,YQ,YR,YS,YT, t22, e22]
  refine WC.mk (f19 k w n rk vs hl) ?_
  by_cases ho : evOk k w n rk vs = true
  · rw [if_pos ho, ho]
    simp only [Ja,Jb,Jc,Jd,Je,Jf,Jg,Jh,Ji,Jj,Jk,Jl,Jm,Jn,Jo,Jp,Jq,Jr,Js,Jt,Ju,Jv,Jw,envA,lensOf,Jx,Jy,Jz,JA,JB,JC,JD,JE,JF,JG,JH,JI,JJ,JK,JL,JM,JN,JO,JP,JQ,JR,JS,JT,JU,JV,JW,↓reduceIte,if_true,reduceCtorEq,Nat.reduceEqDiff,JX,JY,JZ,J0,J1,J2,J3,J4,J5,J6,J7,Ya,Yb,Yc,Yd,Ye,Yf,Int.cast_ofNat_Int,Yg,Yh,Int.reduceLT,Int.reduceLE,Int.reduceEq,Int.reduceAdd,Int.reduceMul,Int.reduceSub,Int.reduceNeg,Yi,Yj,Yk,Yl,Ym,Yn,Yo,Yp,Yq,Yr,Ys,Yt,Yu,Yv,Yw,Yx,Yy,Yz,YA,YB,YC,YD,YE,YF,YG,YH,YI,YJ,YK,YL,YM,YN,YO,YP,YQ,YR,YS,YT]
    refine WC.mk (f21 k w n rk vs ho) ?_
    simp only [Ja,Jb,Jc,Jd,Je,Jf,Jg,Jh,Ji,Jj,Jk,Jl,Jm,Jn,Jo,Jp,Jq,Jr,Js,Jt,Ju,Jv,Jw,envA,lensOf,Jx,Jy,Jz,JA,JB,JC,JD,JE,JF,JG,JH,JI,JJ,JK,JL,JM,JN,JO,JP,JQ,JR,JS,JT,JU,JV,JW,↓reduceIte,if_true,reduceCtorEq,Nat.reduceEqDiff,JX,JY,JZ,J0,J1,J2,J3,J4,J5,J6,J7,Ya,Yb,Yc,Yd,Ye,Yf,Int.cast_ofNat_Int,Yg,Yh,Int.reduceLT,Int.reduceLE,Int.reduceEq,Int.reduceAdd,Int.reduceMul,Int.reduceSub,Int.reduceNeg,Yi,Yj,Yk,Yl,Ym,Yn,Yo,Yp,Yq,Yr,Ys,Yt,Yu,Yv,Yw,Yx,Yy,Yz,YA,YB,YC,YD,YE,YF,YG,YH,YI,YJ,YK,YL,YM,YN,YO,YP,YQ,YR,YS,YT]
  · have ho' : evOk k w n rk vs = false := by simpa using ho
    simp only [Ja,Jb,Jc,Jd,Je,Jf,Jg,Jh,Ji,Jj,Jk,Jl,Jm,Jn,Jo,Jp,Jq,Jr,Js,Jt,Ju,Jv,Jw,envA,lensOf,Jx,Jy,Jz,JA,JB,JC,JD,JE,JF,JG,JH,JI,JJ,JK,JL,JM,JN,JO,JP,JQ,JR,JS,JT,JU,JV,JW,↓reduceIte,if_true,reduceCtorEq,Nat.reduceEqDiff,JX,JY,JZ,J0,J1,J2,J3,J4,J5,J6,J7,Ya,Yb,Yc,Yd,Ye,Yf,Int.cast_ofNat_Int,Yg,Yh,Int.reduceLT,Int.reduceLE,Int.reduceEq,Int.reduceAdd,Int.reduceMul,Int.reduceSub,Int.reduceNeg,Yi,Yj,Yk,Yl,Ym,Yn,Yo,Yp,Yq,Yr,Ys,Yt,Yu,Yv,Yw,Yx,Yy,Yz,YA,YB,YC,YD,YE,YF,YG,YH,YI,YJ,YK,YL,YM,YN,YO,YP,YQ,YR,YS,YT, ho']
    rfl
end Go.Proofs.YtdjfhggmcigahaaDoor.EBack
