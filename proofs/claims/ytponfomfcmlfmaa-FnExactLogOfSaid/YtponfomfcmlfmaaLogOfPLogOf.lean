/- LogOf: both sides; the law is true of every input. -/
import Derived.Test.YtponfomfcmlfmaaLogOfPRec
import Derived.Test.YtponfomfcmlfmaaLogOfPEvS
import Derived.Test.YtponfomfcmlfmaaLogOfPEvTo
import Derived.Test.YtponfomfcmlfmaaLogOfPEvL
import Derived.Test.YtponfomfcmlfmaaMR
set_option linter.unusedVariables false
set_option linter.unusedSimpArgs false
namespace Go.Proofs.Ytponfomfcmlfmaa.LogOf
open Go.BH
set_option maxRecDepth 100000
/-! ### sizes -/
def szL : List Ev → Nat → Option Nat
  | [], n => some n
  | e :: r, n => if n < e.vs.length then none else szL r (n - e.vs.length)
def szEs (es : List Ev) : Option Nat := if 1048576 < es.length then none else szL es (1048576 - es.length)
def szR : Option Nat → Int
  | none => -1
  | some n => n
theorem szL_spec : ∀ {es : List Ev} {n m : Nat} {k : Int}, szL es n = some m → endE k es + m = k + 4 * es.length + n ∧ ∀ e ∈ es, e.vs.length ≤ n
  | [], n, m, k, h => by
    cases h
    exact ⟨by simp [endE], fun e he => by cases he⟩
  | e :: r, n, m, k, h => by
    simp only [szL] at h
    split at h
    · cases h
    · obtain ⟨h1, h2⟩ := szL_spec (k := k + szE e) h
      refine ⟨?_, fun e' he' => ?_⟩
      · simp only [endE, List.length_cons]
        unfold szE at h1 ⊢
        omega
      · rcases List.mem_cons.1 he' with rfl | he'
        · omega
        · have := h2 e' he'
          omega
theorem szEvN (k w n rk : Int) (vs : List Int) (q : Nat) (hq : q ≤ 1048576) (hl : vs.length < 9223372036854775808) : EvF fes 2 [.i k, .i w, .i n, .i rk, LI vs, .i q] [.i (szV vs.length (q : Int))] := by
  have h0 : EvF fes 0 [LI vs, .i q] [.i (szV vs.length (q : Int))] := sz_ok (k := .i64) rfl rfl rfl vs q hq hl
  have hc : szV vs.length (q : Int) = -1 ∨ (0 ≤ szV vs.length (q : Int)) := by
    unfold szV
    split
    · exact .inl rfl
    · right; omega
  generalize szV vs.length (q : Int) = z at h0 hc ⊢
  have h1 : EvF fes 1 [.i rk, LI vs, .i q] [.i z] := by
    refine EvF.w (fe := e1) (t := t1) rfl rfl ?_
    simp only [Ja,Jb,Jc,Jd,Je,Jf,Jg,Jh,Ji,Jj,Jk,Jl,Jm,Jn,Jo,Jp,Jq,Jr,Js,Jt,Ju,Jv,Jw,envA,lensOf,Jx,Jy,Jz,JA,JB,JC,JD,JE,JF,JG,JH,JI,JJ,JK,JL,JM,JN,JO,JP,JQ,JR,JS,JT,JU,JV,JW,↓reduceIte,if_true,reduceCtorEq,Nat.reduceEqDiff,JX,JY,JZ,J0,J1,J2,J3,J4,J5,J6,J7,Ya,Yb,Yc,Yd,Ye,Yf,Int.cast_ofNat_Int,Yg,Yh,Int.reduceLT,Int.reduceLE,Int.reduceEq,Int.reduceAdd,Int.reduceMul,Int.reduceSub,Int.reduceNeg,Yi,Yj,Yk,Yl,Ym,Yn,Yo,Yp,Yq,Yr,Ys,Yt,Yu,Yv,Yw,Yx,Yy,Yz,YA,YB,YC,YD,YE,YF,YG,YH,YI,YJ,YK,YL,YM,YN,YO,YP,YQ,YR,YS,YT, t1, e1]
    refine WC.mk h0 ?_
    rcases hc with rfl | h
    · simp only [Ja,Jb,Jc,Jd,Je,Jf,Jg,Jh,Ji,Jj,Jk,Jl,Jm,Jn,Jo,Jp,Jq,Jr,Js,Jt,Ju,Jv,Jw,envA,lensOf,Jx,Jy,Jz,JA,JB,JC,JD,JE,JF,JG,JH,JI,JJ,JK,JL,JM,JN,JO,JP,JQ,JR,JS,JT,JU,JV,JW,↓reduceIte,if_true,reduceCtorEq,Nat.reduceEqDiff,JX,JY,JZ,J0,J1,J2,J3,J4,J5,J6,J7,Ya,Yb,Yc,Yd,Ye,Yf,Int.cast_ofNat_Int,Yg,Yh,Int.reduceLT,Int.reduceLE,Int.reduceEq,Int.reduceAdd,Int.reduceMul,Int.reduceSub,Int.reduceNeg,Yi,Yj,Yk,Yl,Ym,Yn,Yo,Yp,Yq,Yr,Ys,Yt,Yu,Yv,Yw,Yx,Yy,Yz,YA,YB,YC,YD,YE,YF,YG,YH,YI,YJ,YK,YL,YM,YN,YO,YP,YQ,YR,YS,YT]
    · have h' : ¬ z < 0 := by omega
      simp only [Ja,Jb,Jc,Jd,Je,Jf,Jg,Jh,Ji,Jj,Jk,Jl,Jm,Jn,Jo,Jp,Jq,Jr,Js,Jt,Ju,Jv,Jw,envA,lensOf,Jx,Jy,Jz,JA,JB,JC,JD,JE,JF,JG,JH,JI,JJ,JK,JL,JM,JN,JO,JP,JQ,JR,JS,JT,JU,JV,JW,↓reduceIte,if_true,reduceCtorEq,Nat.reduceEqDiff,JX,JY,JZ,J0,J1,J2,J3,J4,J5,J6,J7,Ya,Yb,Yc,Yd,Ye,Yf,Int.cast_ofNat_Int,Yg,Yh,Int.reduceLT,Int.reduceLE,Int.reduceEq,Int.reduceAdd,Int.reduceMul,Int.reduceSub,Int.reduceNeg,Yi,Yj,Yk,Yl,Ym,Yn,Yo,Yp,Yq,Yr,Ys,Yt,Yu,Yv,Yw,Yx,Yy,Yz,YA,YB,YC,YD,YE,YF,YG,YH,YI,YJ,YK,YL,YM,YN,YO,YP,YQ,YR,YS,YT, h']
  refine EvF.w (fe := e2) (t := t2) rfl rfl ?_
  simp only [Ja,Jb,Jc,Jd,Je,Jf,Jg,Jh,Ji,Jj,Jk,Jl,Jm,Jn,Jo,Jp,Jq,Jr,Js,Jt,Ju,Jv,Jw,envA,lensOf,Jx,Jy,Jz,JA,JB,JC,JD,JE,JF,JG,JH,JI,JJ,JK,JL,JM,JN,JO,JP,JQ,JR,JS,JT,JU,JV,JW,↓reduceIte,if_true,reduceCtorEq,Nat.reduceEqDiff,JX,JY,JZ,J0,J1,J2,J3,J4,J5,J6,J7,Ya,Yb,Yc,Yd,Ye,Yf,Int.cast_ofNat_Int,Yg,Yh,Int.reduceLT,Int.reduceLE,Int.reduceEq,Int.reduceAdd,Int.reduceMul,Int.reduceSub,Int.reduceNeg,Yi,Yj,Yk,Yl,Ym,Yn,Yo,Yp,Yq,Yr,Ys,Yt,Yu,Yv,Yw,Yx,Yy,Yz,YA,YB,YC,YD,YE,YF,YG,YH,YI,YJ,YK,YL,YM,YN,YO,YP,YQ,YR,YS,YT, t2, e2]
  refine WC.mk h1 ?_
  rcases hc with rfl | h
  · simp only [Ja,Jb,Jc,Jd,Je,Jf,Jg,Jh,Ji,Jj,Jk,Jl,Jm,Jn,Jo,Jp,Jq,Jr,Js,Jt,Ju,Jv,Jw,envA,lensOf,Jx,Jy,Jz,JA,JB,JC,JD,JE,JF,JG,JH,JI,JJ,JK,JL,JM,JN,JO,JP,JQ,JR,JS,JT,JU,JV,JW,↓reduceIte,if_true,reduceCtorEq,Nat.reduceEqDiff,JX,JY,JZ,J0,J1,J2,J3,J4,J5,J6,J7,Ya,Yb,Yc,Yd,Ye,Yf,Int.cast_ofNat_Int,Yg,Yh,Int.reduceLT,Int.reduceLE,Int.reduceEq,Int.reduceAdd,Int.reduceMul,Int.reduceSub,Int.reduceNeg,Yi,Yj,Yk,Yl,Ym,Yn,Yo,Yp,Yq,Yr,Ys,Yt,Yu,Yv,Yw,Yx,Yy,Yz,YA,YB,YC,YD,YE,YF,YG,YH,YI,YJ,YK,YL,YM,YN,YO,YP,YQ,YR,YS,YT]
  · have h' : ¬ z < 0 := by omega
    simp only [Ja,Jb,Jc,Jd,Je,Jf,Jg,Jh,Ji,Jj,Jk,Jl,Jm,Jn,Jo,Jp,Jq,Jr,Js,Jt,Ju,Jv,Jw,envA,lensOf,Jx,Jy,Jz,JA,JB,JC,JD,JE,JF,JG,JH,JI,JJ,JK,JL,JM,JN,JO,JP,JQ,JR,JS,JT,JU,JV,JW,↓reduceIte,if_true,reduceCtorEq,Nat.reduceEqDiff,JX,JY,JZ,J0,J1,J2,J3,J4,J5,J6,J7,Ya,Yb,Yc,Yd,Ye,Yf,Int.cast_ofNat_Int,Yg,Yh,Int.reduceLT,Int.reduceLE,Int.reduceEq,Int.reduceAdd,Int.reduceMul,Int.reduceSub,Int.reduceNeg,Yi,Yj,Yk,Yl,Ym,Yn,Yo,Yp,Yq,Yr,Ys,Yt,Yu,Yv,Yw,Yx,Yy,Yz,YA,YB,YC,YD,YE,YF,YG,YH,YI,YJ,YK,YL,YM,YN,YO,YP,YQ,YR,YS,YT, h']
theorem f3 (es : List Ev) (hl : es.length < 9223372036854775808) (hv : ∀ e ∈ es, e.vs.length < 9223372036854775808) : EvF fes 3 [LE es, .i 1048576] [.i (szR (szEs es))] := by
  refine EvF.w (fe := e3) (t := t3) rfl rfl ?_
  rw [show envA e3.sig [LE es, .i 1048576] = [LE es, .i 1048576] from rfl]
  unfold szEs
  by_cases hb : 1048576 < es.length
  · have hb' : (1048576 : Int) - es.length < 0 := by omega
    (repeat (first | simp (disch := omega) only [wrap64, wrapU32, wrapU64, wrapU8] | simp only [Ja,Jb,Jc,Jd,Je,Jf,Jg,Jh,Ji,Jj,Jk,Jl,Jm,Jn,Jo,Jp,Jq,Jr,Js,Jt,Ju,Jv,Jw,envA,lensOf,Jx,Jy,Jz,JA,JB,JC,JD,JE,JF,JG,JH,JI,JJ,JK,JL,JM,JN,JO,JP,JQ,JR,JS,JT,JU,JV,JW,↓reduceIte,if_true,reduceCtorEq,Nat.reduceEqDiff,JX,JY,JZ,J0,J1,J2,J3,J4,J5,J6,J7,Ya,Yb,Yc,Yd,Ye,Yf,Int.cast_ofNat_Int,Yg,Yh,Int.reduceLT,Int.reduceLE,Int.reduceEq,Int.reduceAdd,Int.reduceMul,Int.reduceSub,Int.reduceNeg,Yi,Yj,Yk,Yl,Ym,Yn,Yo,Yp,Yq,Yr,Ys,Yt,Yu,Yv,Yw,Yx,Yy,Yz,YA,YB,YC,YD,YE,YF,YG,YH,YI,YJ,YK,YL,YM,YN,YO,YP,YQ,YR,YS,YT, t3, len_LE, hb', hb, szR]))
  have hb' : ¬ (1048576 : Int) - es.length < 0 := by omega
  rw [if_neg hb]
  have q0 : (1048576 : Int) - es.length = ((1048576 - es.length : Nat) : Int) := by omega
  generalize hR : szL es (1048576 - es.length) = R
  have hq0 : 1048576 - es.length ≤ 1048576 := by omega
  generalize 1048576 - es.length = n0 at q0 hR hq0
  (repeat (first | simp (disch := omega) only [wrap64, wrapU32, wrapU64, wrapU8] | simp only [Ja,Jb,Jc,Jd,Je,Jf,Jg,Jh,Ji,Jj,Jk,Jl,Jm,Jn,Jo,Jp,Jq,Jr,Js,Jt,Ju,Jv,Jw,envA,lensOf,Jx,Jy,Jz,JA,JB,JC,JD,JE,JF,JG,JH,JI,JJ,JK,JL,JM,JN,JO,JP,JQ,JR,JS,JT,JU,JV,JW,↓reduceIte,if_true,reduceCtorEq,Nat.reduceEqDiff,JX,JY,JZ,J0,J1,J2,J3,J4,J5,J6,J7,Ya,Yb,Yc,Yd,Ye,Yf,Int.cast_ofNat_Int,Yg,Yh,Int.reduceLT,Int.reduceLE,Int.reduceEq,Int.reduceAdd,Int.reduceMul,Int.reduceSub,Int.reduceNeg,Yi,Yj,Yk,Yl,Ym,Yn,Yo,Yp,Yq,Yr,Ys,Yt,Yu,Yv,Yw,Yx,Yy,Yz,YA,YB,YC,YD,YE,YF,YG,YH,YI,YJ,YK,YL,YM,YN,YO,YP,YQ,YR,YS,YT, t3, len_LE, hb', q0, natLt0]))
  refine LW.inv (α := Nat × Nat) (fun s => s.1 ≤ es.length ∧ s.2 ≤ 1048576 ∧ szL (es.drop s.1) s.2 = R) (fun s => [.i s.2, .i s.1]) (fun s => es.length - s.1) (fun ⟨i, n⟩ ⟨hi, hn, hI⟩ => ?_) (a := (0, n0)) ⟨by simp, hq0, by simpa using hR⟩ (by simp)
  simp only at hi hn hI
  by_cases hil : i < es.length
  · have hi' : (i : Int) < es.length := by omega
    rw [List.drop_eq_getElem_cons hil, szL] at hI
    have hq := szEvN es[i].k es[i].w es[i].n es[i].rk es[i].vs n hn (hv _ (List.getElem_mem hil))
    (repeat (first | simp (disch := omega) only [wrap64, wrapU32, wrapU64, wrapU8] | simp only [Ja,Jb,Jc,Jd,Je,Jf,Jg,Jh,Ji,Jj,Jk,Jl,Jm,Jn,Jo,Jp,Jq,Jr,Js,Jt,Ju,Jv,Jw,envA,lensOf,Jx,Jy,Jz,JA,JB,JC,JD,JE,JF,JG,JH,JI,JJ,JK,JL,JM,JN,JO,JP,JQ,JR,JS,JT,JU,JV,JW,↓reduceIte,if_true,reduceCtorEq,Nat.reduceEqDiff,JX,JY,JZ,J0,J1,J2,J3,J4,J5,J6,J7,Ya,Yb,Yc,Yd,Ye,Yf,Int.cast_ofNat_Int,Yg,Yh,Int.reduceLT,Int.reduceLE,Int.reduceEq,Int.reduceAdd,Int.reduceMul,Int.reduceSub,Int.reduceNeg,Yi,Yj,Yk,Yl,Ym,Yn,Yo,Yp,Yq,Yr,Ys,Yt,Yu,Yv,Yw,Yx,Yy,Yz,YA,YB,YC,YD,YE,YF,YG,YH,YI,YJ,YK,YL,YM,YN,YO,YP,YQ,YR,YS,YT, len_LE, hi', ixc_N hil, get_LE0 hil, get_LE1 hil, get_LE2 hil, get_LE3 hil, get_LE4 hil]))
    refine WC.mk hq ?_
    by_cases hc : n < es[i].vs.length
    · rw [if_pos hc] at hI
      subst hI
      have : szV es[i].vs.length (n : Int) = -1 := if_pos (by omega)
      (repeat (first | simp (disch := omega) only [wrap64, wrapU32, wrapU64, wrapU8] | simp only [Ja,Jb,Jc,Jd,Je,Jf,Jg,Jh,Ji,Jj,Jk,Jl,Jm,Jn,Jo,Jp,Jq,Jr,Js,Jt,Ju,Jv,Jw,envA,lensOf,Jx,Jy,Jz,JA,JB,JC,JD,JE,JF,JG,JH,JI,JJ,JK,JL,JM,JN,JO,JP,JQ,JR,JS,JT,JU,JV,JW,↓reduceIte,if_true,reduceCtorEq,Nat.reduceEqDiff,JX,JY,JZ,J0,J1,J2,J3,J4,J5,J6,J7,Ya,Yb,Yc,Yd,Ye,Yf,Int.cast_ofNat_Int,Yg,Yh,Int.reduceLT,Int.reduceLE,Int.reduceEq,Int.reduceAdd,Int.reduceMul,Int.reduceSub,Int.reduceNeg,Yi,Yj,Yk,Yl,Ym,Yn,Yo,Yp,Yq,Yr,Ys,Yt,Yu,Yv,Yw,Yx,Yy,Yz,YA,YB,YC,YD,YE,YF,YG,YH,YI,YJ,YK,YL,YM,YN,YO,YP,YQ,YR,YS,YT, this, szR]))
    · rw [if_neg hc] at hI
      have : szV es[i].vs.length (n : Int) = ((n - es[i].vs.length : Nat) : Int) := by
        unfold szV
        rw [if_neg (by omega)]
        omega
      (repeat (first | simp (disch := omega) only [wrap64, wrapU32, wrapU64, wrapU8] | simp only [Ja,Jb,Jc,Jd,Je,Jf,Jg,Jh,Ji,Jj,Jk,Jl,Jm,Jn,Jo,Jp,Jq,Jr,Js,Jt,Ju,Jv,Jw,envA,lensOf,Jx,Jy,Jz,JA,JB,JC,JD,JE,JF,JG,JH,JI,JJ,JK,JL,JM,JN,JO,JP,JQ,JR,JS,JT,JU,JV,JW,↓reduceIte,if_true,reduceCtorEq,Nat.reduceEqDiff,JX,JY,JZ,J0,J1,J2,J3,J4,J5,J6,J7,Ya,Yb,Yc,Yd,Ye,Yf,Int.cast_ofNat_Int,Yg,Yh,Int.reduceLT,Int.reduceLE,Int.reduceEq,Int.reduceAdd,Int.reduceMul,Int.reduceSub,Int.reduceNeg,Yi,Yj,Yk,Yl,Ym,Yn,Yo,Yp,Yq,Yr,Ys,Yt,Yu,Yv,Yw,Yx,Yy,Yz,YA,YB,YC,YD,YE,YF,YG,YH,YI,YJ,YK,YL,YM,YN,YO,YP,YQ,YR,YS,YT, this, natLt0]))
      exact ⟨(i + 1, n - es[i].vs.length), ⟨by simp only; omega, by simp only; omega, hI⟩, by simp only; omega, by simp⟩
  · have hi' : ¬ (i : Int) < es.length := by omega
    rw [List.drop_of_length_le (by omega), szL] at hI
    subst hI
    (repeat (first | simp (disch := omega) only [wrap64, wrapU32, wrapU64, wrapU8] | simp only [Ja,Jb,Jc,Jd,Je,Jf,Jg,Jh,Ji,Jj,Jk,Jl,Jm,Jn,Jo,Jp,Jq,Jr,Js,Jt,Ju,Jv,Jw,envA,lensOf,Jx,Jy,Jz,JA,JB,JC,JD,JE,JF,JG,JH,JI,JJ,JK,JL,JM,JN,JO,JP,JQ,JR,JS,JT,JU,JV,JW,↓reduceIte,if_true,reduceCtorEq,Nat.reduceEqDiff,JX,JY,JZ,J0,J1,J2,J3,J4,J5,J6,J7,Ya,Yb,Yc,Yd,Ye,Yf,Int.cast_ofNat_Int,Yg,Yh,Int.reduceLT,Int.reduceLE,Int.reduceEq,Int.reduceAdd,Int.reduceMul,Int.reduceSub,Int.reduceNeg,Yi,Yj,Yk,Yl,Ym,Yn,Yo,Yp,Yq,Yr,Ys,Yt,Yu,Yv,Yw,Yx,Yy,Yz,YA,YB,YC,YD,YE,YF,YG,YH,YI,YJ,YK,YL,YM,YN,YO,YP,YQ,YR,YS,YT, len_LE, hi', szR]))
/-! ### copies -/
def z0 : Ev := ⟨0, 0, 0, 0, []⟩
def cpE (es : List Ev) (i : Nat) : List Ev := es.take i ++ List.replicate (es.length - i) z0
theorem cpE_len {es : List Ev} {i : Nat} (h : i ≤ es.length) : (cpE es i).length = es.length := by
  simp only [cpE, List.length_append, List.length_take, List.length_replicate]
  omega
theorem cpE_at {es : List Ev} {i : Nat} (h : i < es.length) : (cpE es i)[i]? = some z0 := by
  simp only [cpE]
  rw [List.getElem?_append_right (by simp; omega), List.getElem?_replicate, if_pos (by simp; omega)]
theorem cpE_set {es : List Ev} {i : Nat} (h : i < es.length) : (cpE es i).set i es[i] = cpE es (i + 1) := by
  simp only [cpE]
  obtain ⟨n, hn⟩ : ∃ n, es.length - i = n + 1 := ⟨es.length - i - 1, by omega⟩
  rw [List.set_append_right _ _ (by simp; omega), hn, List.replicate_succ, show es.length - (i + 1) = n by omega, show i - (es.take i).length = 0 by simp; omega, List.set_cons_zero]
  have : es.take (i + 1) = es.take i ++ [es[i]] := by
    rw [List.take_add_one, List.getElem?_eq_getElem h]; rfl
  rw [this, List.append_assoc]
  rfl
theorem rep_LE {n : Nat} : D.l (List.replicate n (unrow EK [.i 0, .i 0, .i 0, .i 0, .l []])) = LE (List.replicate n z0) := by
  simp only [LE, List.map_replicate]
  rfl
theorem f7 (es : List Ev) (hl : es.length ≤ 1048576) (hv : ∀ e ∈ es, e.vs.length ≤ 1048576) : EvF fes 7 [LE es] [LE es] := by
  refine EvF.w (fe := e7) (t := t7) rfl rfl ?_
  rw [show envA e7.sig [LE es] = [LE es] from rfl]
  have c1 : (0 : Int) ≤ es.length := by omega
  have c2 : 56 * es.length ≤ 281474976710656 := by omega
  have c3 : (es.length : Int) < 9223372036854775808 := by omega
  have hlr : ((List.replicate es.length z0).length : Int) = es.length := by simp
  simp only [Ja,Jb,Jc,Jd,Je,Jf,Jg,Jh,Ji,Jj,Jk,Jl,Jm,Jn,Jo,Jp,Jq,Jr,Js,Jt,Ju,Jv,Jw,envA,lensOf,Jx,Jy,Jz,JA,JB,JC,JD,JE,JF,JG,JH,JI,JJ,JK,JL,JM,JN,JO,JP,JQ,JR,JS,JT,JU,JV,JW,↓reduceIte,if_true,reduceCtorEq,Nat.reduceEqDiff,JX,JY,JZ,J0,J1,J2,J3,J4,J5,J6,J7,Ya,Yb,Yc,Yd,Ye,Yf,Int.cast_ofNat_Int,Yg,Yh,Int.reduceLT,Int.reduceLE,Int.reduceEq,Int.reduceAdd,Int.reduceMul,Int.reduceSub,Int.reduceNeg,Yi,Yj,Yk,Yl,Ym,Yn,Yo,Yp,Yq,Yr,Ys,Yt,Yu,Yv,Yw,Yx,Yy,Yz,YA,YB,YC,YD,YE,YF,YG,YH,YI,YJ,YK,YL,YM,YN,YO,YP,YQ,YR,YS,YT, t7, len_LE, rep_LE, Int.toNat_natCast, c2, c3, List.length_replicate]
  refine LW.cnt es.length (fun i => [.i (i : Nat), LE (cpE es i)]) (fun i hi => ?_) ?_ (by simp [cpE])
  · have hi' : (i : Int) < es.length := by omega
    have hto := f6 es[i].k es[i].w es[i].n es[i].rk es[i].vs (hv _ (List.getElem_mem hi))
    have hML := cpE_len (Nat.le_of_lt hi)
    have hat := cpE_at hi
    have hst := cpE_set hi
    generalize cpE es i = M at hML hat hst
    rw [← hst]
    have g0 := get_LE0 hi
    have g1 := get_LE1 hi
    have g2 := get_LE2 hi
    have g3 := get_LE3 hi
    have g4 := get_LE4 hi
    generalize es[i] = e at hto g0 g1 g2 g3 g4
    obtain ⟨a0, a1, a2, a3, vs⟩ := e
    have hiM : i < M.length := by omega
    have s0 := set_LE (j := 0) (d := .i a0) hiM ⟨a0, 0, 0, 0, []⟩ (fun e he => by rw [hat] at he; cases he; rfl)
    have s1 := set_LE (es := M.set i ⟨a0, 0, 0, 0, []⟩) (i := i) (j := 1) (d := .i a1) (by simpa using hiM) ⟨a0, a1, 0, 0, []⟩ (fun e he => by simp [hiM] at he; subst he; rfl)
    have s2 := set_LE (es := M.set i ⟨a0, a1, 0, 0, []⟩) (i := i) (j := 2) (d := .i a2) (by simpa using hiM) ⟨a0, a1, a2, 0, []⟩ (fun e he => by simp [hiM] at he; subst he; rfl)
    have s3 := set_LE (es := M.set i ⟨a0, a1, a2, 0, []⟩) (i := i) (j := 3) (d := .i a3) (by simpa using hiM) ⟨a0, a1, a2, a3, []⟩ (fun e he => by simp [hiM] at he; subst he; rfl)
    have s4 := set_LE (es := M.set i ⟨a0, a1, a2, a3, []⟩) (i := i) (j := 4) (d := LI vs) (by simpa using hiM) ⟨a0, a1, a2, a3, vs⟩ (fun e he => by simp [hiM] at he; subst he; rfl)
    simp only [List.set_set] at s1 s2 s3 s4
    (repeat (first | simp (disch := omega) only [wrap64, wrapU32, wrapU64, wrapU8] | simp only [Ja,Jb,Jc,Jd,Je,Jf,Jg,Jh,Ji,Jj,Jk,Jl,Jm,Jn,Jo,Jp,Jq,Jr,Js,Jt,Ju,Jv,Jw,envA,lensOf,Jx,Jy,Jz,JA,JB,JC,JD,JE,JF,JG,JH,JI,JJ,JK,JL,JM,JN,JO,JP,JQ,JR,JS,JT,JU,JV,JW,↓reduceIte,if_true,reduceCtorEq,Nat.reduceEqDiff,JX,JY,JZ,J0,J1,J2,J3,J4,J5,J6,J7,Ya,Yb,Yc,Yd,Ye,Yf,Int.cast_ofNat_Int,Yg,Yh,Int.reduceLT,Int.reduceLE,Int.reduceEq,Int.reduceAdd,Int.reduceMul,Int.reduceSub,Int.reduceNeg,Yi,Yj,Yk,Yl,Ym,Yn,Yo,Yp,Yq,Yr,Ys,Yt,Yu,Yv,Yw,Yx,Yy,Yz,YA,YB,YC,YD,YE,YF,YG,YH,YI,YJ,YK,YL,YM,YN,YO,YP,YQ,YR,YS,YT, len_LE, hML, hi', ixc_N hi, g0, g1, g2, g3, g4]))
    refine WC.mk hto ?_
    (repeat (first | simp (disch := omega) only [wrap64, wrapU32, wrapU64, wrapU8] | simp only [Ja,Jb,Jc,Jd,Je,Jf,Jg,Jh,Ji,Jj,Jk,Jl,Jm,Jn,Jo,Jp,Jq,Jr,Js,Jt,Ju,Jv,Jw,envA,lensOf,Jx,Jy,Jz,JA,JB,JC,JD,JE,JF,JG,JH,JI,JJ,JK,JL,JM,JN,JO,JP,JQ,JR,JS,JT,JU,JV,JW,↓reduceIte,if_true,reduceCtorEq,Nat.reduceEqDiff,JX,JY,JZ,J0,J1,J2,J3,J4,J5,J6,J7,Ya,Yb,Yc,Yd,Ye,Yf,Int.cast_ofNat_Int,Yg,Yh,Int.reduceLT,Int.reduceLE,Int.reduceEq,Int.reduceAdd,Int.reduceMul,Int.reduceSub,Int.reduceNeg,Yi,Yj,Yk,Yl,Ym,Yn,Yo,Yp,Yq,Yr,Ys,Yt,Yu,Yv,Yw,Yx,Yy,Yz,YA,YB,YC,YD,YE,YF,YG,YH,YI,YJ,YK,YL,YM,YN,YO,YP,YQ,YR,YS,YT, len_LI, ixc_N hi, s0, s1, s2, s3, s4, len_LE, List.length_set, hML]))
    rfl
  · have hi' : ¬ (es.length : Int) < es.length := by omega
    have hx : cpE es es.length = es := by simp [cpE]
    (repeat (first | simp (disch := omega) only [wrap64, wrapU32, wrapU64, wrapU8] | simp only [Ja,Jb,Jc,Jd,Je,Jf,Jg,Jh,Ji,Jj,Jk,Jl,Jm,Jn,Jo,Jp,Jq,Jr,Js,Jt,Ju,Jv,Jw,envA,lensOf,Jx,Jy,Jz,JA,JB,JC,JD,JE,JF,JG,JH,JI,JJ,JK,JL,JM,JN,JO,JP,JQ,JR,JS,JT,JU,JV,JW,↓reduceIte,if_true,reduceCtorEq,Nat.reduceEqDiff,JX,JY,JZ,J0,J1,J2,J3,J4,J5,J6,J7,Ya,Yb,Yc,Yd,Ye,Yf,Int.cast_ofNat_Int,Yg,Yh,Int.reduceLT,Int.reduceLE,Int.reduceEq,Int.reduceAdd,Int.reduceMul,Int.reduceSub,Int.reduceNeg,Yi,Yj,Yk,Yl,Ym,Yn,Yo,Yp,Yq,Yr,Ys,Yt,Yu,Yv,Yw,Yx,Yy,Yz,YA,YB,YC,YD,YE,YF,YG,YH,YI,YJ,YK,YL,YM,YN,YO,YP,YQ,YR,YS,YT, len_LE, hi', hx]))
/-! ### logs -/
def lofR : List Ev → List Nat → Option (List Nat)
  | [], acc => some acc
  | e :: r, acc => if e.ok = true then lofR r (acc ++ rcd e.by) else none
def lof (es : List Ev) : Option (List Nat) := if 400 < es.length then none else lofR es []
def loR : Option (List Nat) → List D
  | none => [.b false, LN []]
  | some b => [.b true, LN b]
theorem lofR_len : ∀ {es : List Ev} {acc b : List Nat}, lofR es acc = some b → b.length ≤ acc.length + 42 * es.length ∧ ((∀ x ∈ acc, x < 256) → ∀ x ∈ b, x < 256)
  | [], acc, b, h => by
    cases h
    exact ⟨by simp, fun h => h⟩
  | e :: r, acc, b, h => by
    simp only [lofR] at h
    split at h
    · rename_i ho
      obtain ⟨h1, h2⟩ := lofR_len h
      have h3 := eb_len (k := e.k) (w := e.w) (n := e.n) (rk := e.rk) (vs := e.vs) ho
      have h3 : e.by.length ≤ 40 := h3
      refine ⟨?_, fun ha => h2 (fun x hx => ?_)⟩
      · rw [List.length_append, rcd_len] at h1
        simp only [List.length_cons]
        omega
      · rcases List.mem_append.1 hx with g | g
        · exact ha x g
        · simp only [rcd, List.mem_cons, List.mem_append, List.not_mem_nil, or_false] at g
          rcases g with rfl | g | rfl
          · omega
          · exact eb_lt (k := e.k) (w := e.w) (n := e.n) (rk := e.rk) (vs := e.vs) ho x g
          · omega
    · cases h
theorem f13 (es : List Ev) (hl : es.length < 4611686018427387904) (hv : ∀ e ∈ es, e.vs.length < 4611686018427387904) : EvF fes 13 [LE es] (loR (lof es)) := by
  refine EvF.w (fe := e13) (t := t13) rfl rfl ?_
  rw [show envA e13.sig [LE es] = [LE es] from rfl]
  unfold lof
  by_cases hb : 400 < es.length
  · have hb' : (400 : Int) < es.length := by omega
    simp only [Ja,Jb,Jc,Jd,Je,Jf,Jg,Jh,Ji,Jj,Jk,Jl,Jm,Jn,Jo,Jp,Jq,Jr,Js,Jt,Ju,Jv,Jw,envA,lensOf,Jx,Jy,Jz,JA,JB,JC,JD,JE,JF,JG,JH,JI,JJ,JK,JL,JM,JN,JO,JP,JQ,JR,JS,JT,JU,JV,JW,↓reduceIte,if_true,reduceCtorEq,Nat.reduceEqDiff,JX,JY,JZ,J0,J1,J2,J3,J4,J5,J6,J7,Ya,Yb,Yc,Yd,Ye,Yf,Int.cast_ofNat_Int,Yg,Yh,Int.reduceLT,Int.reduceLE,Int.reduceEq,Int.reduceAdd,Int.reduceMul,Int.reduceSub,Int.reduceNeg,Yi,Yj,Yk,Yl,Ym,Yn,Yo,Yp,Yq,Yr,Ys,Yt,Yu,Yv,Yw,Yx,Yy,Yz,YA,YB,YC,YD,YE,YF,YG,YH,YI,YJ,YK,YL,YM,YN,YO,YP,YQ,YR,YS,YT, t13, len_LE, hb', hb, loR]
    rfl
  have hb' : ¬ (400 : Int) < es.length := by omega
  rw [if_neg hb]
  generalize hR : lofR es [] = R
  simp only [Ja,Jb,Jc,Jd,Je,Jf,Jg,Jh,Ji,Jj,Jk,Jl,Jm,Jn,Jo,Jp,Jq,Jr,Js,Jt,Ju,Jv,Jw,envA,lensOf,Jx,Jy,Jz,JA,JB,JC,JD,JE,JF,JG,JH,JI,JJ,JK,JL,JM,JN,JO,JP,JQ,JR,JS,JT,JU,JV,JW,↓reduceIte,if_true,reduceCtorEq,Nat.reduceEqDiff,JX,JY,JZ,J0,J1,J2,J3,J4,J5,J6,J7,Ya,Yb,Yc,Yd,Ye,Yf,Int.cast_ofNat_Int,Yg,Yh,Int.reduceLT,Int.reduceLE,Int.reduceEq,Int.reduceAdd,Int.reduceMul,Int.reduceSub,Int.reduceNeg,Yi,Yj,Yk,Yl,Ym,Yn,Yo,Yp,Yq,Yr,Ys,Yt,Yu,Yv,Yw,Yx,Yy,Yz,YA,YB,YC,YD,YE,YF,YG,YH,YI,YJ,YK,YL,YM,YN,YO,YP,YQ,YR,YS,YT, t13, len_LE, hb', LN_nil]
  refine LW.inv (α := Nat × List Nat) (fun s => s.1 ≤ es.length ∧ s.2.length ≤ 42 * s.1 ∧ lofR (es.drop s.1) s.2 = R) (fun s => [.i s.1, LN s.2]) (fun s => es.length - s.1) (fun ⟨i, acc⟩ ⟨hi, ha, hI⟩ => ?_) (a := (0, [])) ⟨by simp, by simp, by simpa using hR⟩ (by simp)
  simp only at hi ha hI
  by_cases hil : i < es.length
  · have hi' : (i : Int) < es.length := by omega
    rw [List.drop_eq_getElem_cons hil, lofR] at hI
    have hvi := hv _ (List.getElem_mem hil)
    have ok' := f9 es[i].k es[i].w es[i].n es[i].rk es[i].vs (by omega)
    have eb' := f11 es[i].k es[i].w es[i].n es[i].rk es[i].vs (by omega)
    rw [show evOk es[i].k es[i].w es[i].n es[i].rk es[i].vs = es[i].ok from rfl] at ok' eb'
    (repeat (first | simp (disch := omega) only [wrap64, wrapU32, wrapU64, wrapU8] | simp only [Ja,Jb,Jc,Jd,Je,Jf,Jg,Jh,Ji,Jj,Jk,Jl,Jm,Jn,Jo,Jp,Jq,Jr,Js,Jt,Ju,Jv,Jw,envA,lensOf,Jx,Jy,Jz,JA,JB,JC,JD,JE,JF,JG,JH,JI,JJ,JK,JL,JM,JN,JO,JP,JQ,JR,JS,JT,JU,JV,JW,↓reduceIte,if_true,reduceCtorEq,Nat.reduceEqDiff,JX,JY,JZ,J0,J1,J2,J3,J4,J5,J6,J7,Ya,Yb,Yc,Yd,Ye,Yf,Int.cast_ofNat_Int,Yg,Yh,Int.reduceLT,Int.reduceLE,Int.reduceEq,Int.reduceAdd,Int.reduceMul,Int.reduceSub,Int.reduceNeg,Yi,Yj,Yk,Yl,Ym,Yn,Yo,Yp,Yq,Yr,Ys,Yt,Yu,Yv,Yw,Yx,Yy,Yz,YA,YB,YC,YD,YE,YF,YG,YH,YI,YJ,YK,YL,YM,YN,YO,YP,YQ,YR,YS,YT, len_LE, len_LN, hi', ixc_N hil, get_LE0 hil, get_LE1 hil, get_LE2 hil, get_LE3 hil, get_LE4 hil]))
    refine WC.mk ok' ?_
    cases ho : es[i].ok with
    | false =>
      rw [ho, if_neg (by simp)] at hI
      subst hI
      (repeat (first | simp (disch := omega) only [wrap64, wrapU32, wrapU64, wrapU8] | simp only [Ja,Jb,Jc,Jd,Je,Jf,Jg,Jh,Ji,Jj,Jk,Jl,Jm,Jn,Jo,Jp,Jq,Jr,Js,Jt,Ju,Jv,Jw,envA,lensOf,Jx,Jy,Jz,JA,JB,JC,JD,JE,JF,JG,JH,JI,JJ,JK,JL,JM,JN,JO,JP,JQ,JR,JS,JT,JU,JV,JW,↓reduceIte,if_true,reduceCtorEq,Nat.reduceEqDiff,JX,JY,JZ,J0,J1,J2,J3,J4,J5,J6,J7,Ya,Yb,Yc,Yd,Ye,Yf,Int.cast_ofNat_Int,Yg,Yh,Int.reduceLT,Int.reduceLE,Int.reduceEq,Int.reduceAdd,Int.reduceMul,Int.reduceSub,Int.reduceNeg,Yi,Yj,Yk,Yl,Ym,Yn,Yo,Yp,Yq,Yr,Ys,Yt,Yu,Yv,Yw,Yx,Yy,Yz,YA,YB,YC,YD,YE,YF,YG,YH,YI,YJ,YK,YL,YM,YN,YO,YP,YQ,YR,YS,YT, loR]))
    | true =>
      rw [ho, if_pos rfl] at hI eb'
      have h3 := eb_len (k := es[i].k) (w := es[i].w) (n := es[i].n) (rk := es[i].rk) (vs := es[i].vs) ho
      have h4 := eb_lt (k := es[i].k) (w := es[i].w) (n := es[i].n) (rk := es[i].rk) (vs := es[i].vs) ho
      rw [show es[i].by = eb es[i].k es[i].w es[i].n es[i].rk es[i].vs from rfl] at hI
      generalize eb es[i].k es[i].w es[i].n es[i].rk es[i].vs = b at hI eb' h3 h4
      have hrec := f12 b (by omega) h4
      have hrl := rcd_len b
      have hap : (Pr.app [ku8] 1).eval [LN acc, LN (rcd b)] = some (LN (acc ++ rcd b)) := app_LN (by omega) (by omega)
      (repeat (first | simp (disch := omega) only [wrap64, wrapU32, wrapU64, wrapU8] | simp only [Ja,Jb,Jc,Jd,Je,Jf,Jg,Jh,Ji,Jj,Jk,Jl,Jm,Jn,Jo,Jp,Jq,Jr,Js,Jt,Ju,Jv,Jw,envA,lensOf,Jx,Jy,Jz,JA,JB,JC,JD,JE,JF,JG,JH,JI,JJ,JK,JL,JM,JN,JO,JP,JQ,JR,JS,JT,JU,JV,JW,↓reduceIte,if_true,reduceCtorEq,Nat.reduceEqDiff,JX,JY,JZ,J0,J1,J2,J3,J4,J5,J6,J7,Ya,Yb,Yc,Yd,Ye,Yf,Int.cast_ofNat_Int,Yg,Yh,Int.reduceLT,Int.reduceLE,Int.reduceEq,Int.reduceAdd,Int.reduceMul,Int.reduceSub,Int.reduceNeg,Yi,Yj,Yk,Yl,Ym,Yn,Yo,Yp,Yq,Yr,Ys,Yt,Yu,Yv,Yw,Yx,Yy,Yz,YA,YB,YC,YD,YE,YF,YG,YH,YI,YJ,YK,YL,YM,YN,YO,YP,YQ,YR,YS,YT, len_LE, ixc_N hil, get_LE0 hil, get_LE1 hil, get_LE2 hil, get_LE3 hil, get_LE4 hil]))
      refine WC.mk eb' ?_
      (repeat (first | simp (disch := omega) only [wrap64, wrapU32, wrapU64, wrapU8] | simp only [Ja,Jb,Jc,Jd,Je,Jf,Jg,Jh,Ji,Jj,Jk,Jl,Jm,Jn,Jo,Jp,Jq,Jr,Js,Jt,Ju,Jv,Jw,envA,lensOf,Jx,Jy,Jz,JA,JB,JC,JD,JE,JF,JG,JH,JI,JJ,JK,JL,JM,JN,JO,JP,JQ,JR,JS,JT,JU,JV,JW,↓reduceIte,if_true,reduceCtorEq,Nat.reduceEqDiff,JX,JY,JZ,J0,J1,J2,J3,J4,J5,J6,J7,Ya,Yb,Yc,Yd,Ye,Yf,Int.cast_ofNat_Int,Yg,Yh,Int.reduceLT,Int.reduceLE,Int.reduceEq,Int.reduceAdd,Int.reduceMul,Int.reduceSub,Int.reduceNeg,Yi,Yj,Yk,Yl,Ym,Yn,Yo,Yp,Yq,Yr,Ys,Yt,Yu,Yv,Yw,Yx,Yy,Yz,YA,YB,YC,YD,YE,YF,YG,YH,YI,YJ,YK,YL,YM,YN,YO,YP,YQ,YR,YS,YT, len_LN]))
      refine WC.mk hrec ?_
      (repeat (first | simp (disch := omega) only [wrap64, wrapU32, wrapU64, wrapU8] | simp only [Ja,Jb,Jc,Jd,Je,Jf,Jg,Jh,Ji,Jj,Jk,Jl,Jm,Jn,Jo,Jp,Jq,Jr,Js,Jt,Ju,Jv,Jw,envA,lensOf,Jx,Jy,Jz,JA,JB,JC,JD,JE,JF,JG,JH,JI,JJ,JK,JL,JM,JN,JO,JP,JQ,JR,JS,JT,JU,JV,JW,↓reduceIte,if_true,reduceCtorEq,Nat.reduceEqDiff,JX,JY,JZ,J0,J1,J2,J3,J4,J5,J6,J7,Ya,Yb,Yc,Yd,Ye,Yf,Int.cast_ofNat_Int,Yg,Yh,Int.reduceLT,Int.reduceLE,Int.reduceEq,Int.reduceAdd,Int.reduceMul,Int.reduceSub,Int.reduceNeg,Yi,Yj,Yk,Yl,Ym,Yn,Yo,Yp,Yq,Yr,Ys,Yt,Yu,Yv,Yw,Yx,Yy,Yz,YA,YB,YC,YD,YE,YF,YG,YH,YI,YJ,YK,YL,YM,YN,YO,YP,YQ,YR,YS,YT, len_LN, hap]))
      exact ⟨(i + 1, acc ++ rcd b), ⟨by simp only; omega, by simp only [List.length_append]; omega, hI⟩, by simp only; omega, by simp⟩
  · have hi' : ¬ (i : Int) < es.length := by omega
    rw [List.drop_of_length_le (by omega), lofR] at hI
    subst hI
    (repeat (first | simp (disch := omega) only [wrap64, wrapU32, wrapU64, wrapU8] | simp only [Ja,Jb,Jc,Jd,Je,Jf,Jg,Jh,Ji,Jj,Jk,Jl,Jm,Jn,Jo,Jp,Jq,Jr,Js,Jt,Ju,Jv,Jw,envA,lensOf,Jx,Jy,Jz,JA,JB,JC,JD,JE,JF,JG,JH,JI,JJ,JK,JL,JM,JN,JO,JP,JQ,JR,JS,JT,JU,JV,JW,↓reduceIte,if_true,reduceCtorEq,Nat.reduceEqDiff,JX,JY,JZ,J0,J1,J2,J3,J4,J5,J6,J7,Ya,Yb,Yc,Yd,Ye,Yf,Int.cast_ofNat_Int,Yg,Yh,Int.reduceLT,Int.reduceLE,Int.reduceEq,Int.reduceAdd,Int.reduceMul,Int.reduceSub,Int.reduceNeg,Yi,Yj,Yk,Yl,Ym,Yn,Yo,Yp,Yq,Yr,Ys,Yt,Yu,Yv,Yw,Yx,Yy,Yz,YA,YB,YC,YD,YE,YF,YG,YH,YI,YJ,YK,YL,YM,YN,YO,YP,YQ,YR,YS,YT, len_LE, len_LN, hi', loR]))
theorem f26 (es : List Ev) (hl : es.length < 4611686018427387904) (hv : ∀ e ∈ es, e.vs.length < 4611686018427387904) : EvF fes 26 [LE es] (loR (lof es)) := by
  refine EvF.w (fe := e26) (t := t26) rfl rfl ?_
  rw [show envA e26.sig [LE es] = [LE es] from rfl]
  unfold lof
  by_cases hb : 400 < es.length
  · have hb' : (400 : Int) < es.length := by omega
    simp only [Ja,Jb,Jc,Jd,Je,Jf,Jg,Jh,Ji,Jj,Jk,Jl,Jm,Jn,Jo,Jp,Jq,Jr,Js,Jt,Ju,Jv,Jw,envA,lensOf,Jx,Jy,Jz,JA,JB,JC,JD,JE,JF,JG,JH,JI,JJ,JK,JL,JM,JN,JO,JP,JQ,JR,JS,JT,JU,JV,JW,↓reduceIte,if_true,reduceCtorEq,Nat.reduceEqDiff,JX,JY,JZ,J0,J1,J2,J3,J4,J5,J6,J7,Ya,Yb,Yc,Yd,Ye,Yf,Int.cast_ofNat_Int,Yg,Yh,Int.reduceLT,Int.reduceLE,Int.reduceEq,Int.reduceAdd,Int.reduceMul,Int.reduceSub,Int.reduceNeg,Yi,Yj,Yk,Yl,Ym,Yn,Yo,Yp,Yq,Yr,Ys,Yt,Yu,Yv,Yw,Yx,Yy,Yz,YA,YB,YC,YD,YE,YF,YG,YH,YI,YJ,YK,YL,YM,YN,YO,YP,YQ,YR,YS,YT, t26, len_LE, hb', hb, loR]
    rfl
  have hb' : ¬ (400 : Int) < es.length := by omega
  rw [if_neg hb]
  generalize hR : lofR es [] = R
  simp only [Ja,Jb,Jc,Jd,Je,Jf,Jg,Jh,Ji,Jj,Jk,Jl,Jm,Jn,Jo,Jp,Jq,Jr,Js,Jt,Ju,Jv,Jw,envA,lensOf,Jx,Jy,Jz,JA,JB,JC,JD,JE,JF,JG,JH,JI,JJ,JK,JL,JM,JN,JO,JP,JQ,JR,JS,JT,JU,JV,JW,↓reduceIte,if_true,reduceCtorEq,Nat.reduceEqDiff,JX,JY,JZ,J0,J1,J2,J3,J4,J5,J6,J7,Ya,Yb,Yc,Yd,Ye,Yf,Int.cast_ofNat_Int,Yg,Yh,Int.reduceLT,Int.reduceLE,Int.reduceEq,Int.reduceAdd,Int.reduceMul,Int.reduceSub,Int.reduceNeg,Yi,Yj,Yk,Yl,Ym,Yn,Yo,Yp,Yq,Yr,Ys,Yt,Yu,Yv,Yw,Yx,Yy,Yz,YA,YB,YC,YD,YE,YF,YG,YH,YI,YJ,YK,YL,YM,YN,YO,YP,YQ,YR,YS,YT, t26, len_LE, hb', LN_nil]
  refine LW.inv (α := Nat × List Nat) (fun s => s.1 ≤ es.length ∧ s.2.length ≤ 42 * s.1 ∧ lofR (es.drop s.1) s.2 = R) (fun s => [.i s.1, LN s.2]) (fun s => es.length - s.1) (fun ⟨i, acc⟩ ⟨hi, ha, hI⟩ => ?_) (a := (0, [])) ⟨by simp, by simp, by simpa using hR⟩ (by simp)
  simp only at hi ha hI
  by_cases hil : i < es.length
  · have hi' : (i : Int) < es.length := by omega
    rw [List.drop_eq_getElem_cons hil, lofR] at hI
    have hvi := hv _ (List.getElem_mem hil)
    have ok' := f22 es[i].k es[i].w es[i].n es[i].rk es[i].vs (by omega)
    rw [show evOk es[i].k es[i].w es[i].n es[i].rk es[i].vs = es[i].ok from rfl] at ok'
    (repeat (first | simp (disch := omega) only [wrap64, wrapU32, wrapU64, wrapU8] | simp only [Ja,Jb,Jc,Jd,Je,Jf,Jg,Jh,Ji,Jj,Jk,Jl,Jm,Jn,Jo,Jp,Jq,Jr,Js,Jt,Ju,Jv,Jw,envA,lensOf,Jx,Jy,Jz,JA,JB,JC,JD,JE,JF,JG,JH,JI,JJ,JK,JL,JM,JN,JO,JP,JQ,JR,JS,JT,JU,JV,JW,↓reduceIte,if_true,reduceCtorEq,Nat.reduceEqDiff,JX,JY,JZ,J0,J1,J2,J3,J4,J5,J6,J7,Ya,Yb,Yc,Yd,Ye,Yf,Int.cast_ofNat_Int,Yg,Yh,Int.reduceLT,Int.reduceLE,Int.reduceEq,Int.reduceAdd,Int.reduceMul,Int.reduceSub,Int.reduceNeg,Yi,Yj,Yk,Yl,Ym,Yn,Yo,Yp,Yq,Yr,Ys,Yt,Yu,Yv,Yw,Yx,Yy,Yz,YA,YB,YC,YD,YE,YF,YG,YH,YI,YJ,YK,YL,YM,YN,YO,YP,YQ,YR,YS,YT, len_LE, len_LN, hi', ixc_N hil, get_LE0 hil, get_LE1 hil, get_LE2 hil, get_LE3 hil, get_LE4 hil]))
    refine WC.mk ok' ?_
    cases ho : es[i].ok with
    | false =>
      rw [ho, if_neg (by simp)] at hI
      subst hI
      (repeat (first | simp (disch := omega) only [wrap64, wrapU32, wrapU64, wrapU8] | simp only [Ja,Jb,Jc,Jd,Je,Jf,Jg,Jh,Ji,Jj,Jk,Jl,Jm,Jn,Jo,Jp,Jq,Jr,Js,Jt,Ju,Jv,Jw,envA,lensOf,Jx,Jy,Jz,JA,JB,JC,JD,JE,JF,JG,JH,JI,JJ,JK,JL,JM,JN,JO,JP,JQ,JR,JS,JT,JU,JV,JW,↓reduceIte,if_true,reduceCtorEq,Nat.reduceEqDiff,JX,JY,JZ,J0,J1,J2,J3,J4,J5,J6,J7,Ya,Yb,Yc,Yd,Ye,Yf,Int.cast_ofNat_Int,Yg,Yh,Int.reduceLT,Int.reduceLE,Int.reduceEq,Int.reduceAdd,Int.reduceMul,Int.reduceSub,Int.reduceNeg,Yi,Yj,Yk,Yl,Ym,Yn,Yo,Yp,Yq,Yr,Ys,Yt,Yu,Yv,Yw,Yx,Yy,Yz,YA,YB,YC,YD,YE,YF,YG,YH,YI,YJ,YK,YL,YM,YN,YO,YP,YQ,YR,YS,YT, loR]))
    | true =>
      rw [ho, if_pos rfl] at hI
      have eb' := f24 es[i].k es[i].w es[i].n es[i].rk es[i].vs ho
      have h3 := eb_len (k := es[i].k) (w := es[i].w) (n := es[i].n) (rk := es[i].rk) (vs := es[i].vs) ho
      have h4 := eb_lt (k := es[i].k) (w := es[i].w) (n := es[i].n) (rk := es[i].rk) (vs := es[i].vs) ho
      rw [show es[i].by = eb es[i].k es[i].w es[i].n es[i].rk es[i].vs from rfl] at hI
      generalize eb es[i].k es[i].w es[i].n es[i].rk es[i].vs = b at hI eb' h3 h4
      have sm := f25 b (by omega) h4
      have hrl := rcd_len b
      have lb : b.length < 256 := by omega
      have q1 : D.l [D.i (b.length : Int)] = LN [b.length] := rfl
      have q2 : D.l [D.i ((b.sum % 251 : Nat) : Int)] = LN [b.sum % 251] := rfl
      have a1 : (Pr.app [ku8] 1).eval [LN acc, LN [b.length]] = some (LN (acc ++ [b.length])) := app_LN (by omega) (by simp; omega)
      have a2 : (Pr.app [ku8] 1).eval [LN (acc ++ [b.length]), LN b] = some (LN (acc ++ [b.length] ++ b)) := app_LN (by omega) (by simp; omega)
      have a3 : (Pr.app [ku8] 1).eval [LN (acc ++ [b.length] ++ b), LN [b.sum % 251]] = some (LN (acc ++ rcd b)) := by
        rw [app_LN (by omega) (by simp; omega)]
        simp [rcd]
      generalize hA1 : acc ++ [b.length] = A1 at a1 a2 a3
      generalize hA2 : A1 ++ b = A2 at a2 a3
      (repeat (first | simp (disch := omega) only [wrap64, wrapU32, wrapU64, wrapU8] | simp only [Ja,Jb,Jc,Jd,Je,Jf,Jg,Jh,Ji,Jj,Jk,Jl,Jm,Jn,Jo,Jp,Jq,Jr,Js,Jt,Ju,Jv,Jw,envA,lensOf,Jx,Jy,Jz,JA,JB,JC,JD,JE,JF,JG,JH,JI,JJ,JK,JL,JM,JN,JO,JP,JQ,JR,JS,JT,JU,JV,JW,↓reduceIte,if_true,reduceCtorEq,Nat.reduceEqDiff,JX,JY,JZ,J0,J1,J2,J3,J4,J5,J6,J7,Ya,Yb,Yc,Yd,Ye,Yf,Int.cast_ofNat_Int,Yg,Yh,Int.reduceLT,Int.reduceLE,Int.reduceEq,Int.reduceAdd,Int.reduceMul,Int.reduceSub,Int.reduceNeg,Yi,Yj,Yk,Yl,Ym,Yn,Yo,Yp,Yq,Yr,Ys,Yt,Yu,Yv,Yw,Yx,Yy,Yz,YA,YB,YC,YD,YE,YF,YG,YH,YI,YJ,YK,YL,YM,YN,YO,YP,YQ,YR,YS,YT]))
      refine WC.mk eb' ?_
      (repeat (first | simp (disch := omega) only [wrap64, wrapU32, wrapU64, wrapU8] | simp only [Ja,Jb,Jc,Jd,Je,Jf,Jg,Jh,Ji,Jj,Jk,Jl,Jm,Jn,Jo,Jp,Jq,Jr,Js,Jt,Ju,Jv,Jw,envA,lensOf,Jx,Jy,Jz,JA,JB,JC,JD,JE,JF,JG,JH,JI,JJ,JK,JL,JM,JN,JO,JP,JQ,JR,JS,JT,JU,JV,JW,↓reduceIte,if_true,reduceCtorEq,Nat.reduceEqDiff,JX,JY,JZ,J0,J1,J2,J3,J4,J5,J6,J7,Ya,Yb,Yc,Yd,Ye,Yf,Int.cast_ofNat_Int,Yg,Yh,Int.reduceLT,Int.reduceLE,Int.reduceEq,Int.reduceAdd,Int.reduceMul,Int.reduceSub,Int.reduceNeg,Yi,Yj,Yk,Yl,Ym,Yn,Yo,Yp,Yq,Yr,Ys,Yt,Yu,Yv,Yw,Yx,Yy,Yz,YA,YB,YC,YD,YE,YF,YG,YH,YI,YJ,YK,YL,YM,YN,YO,YP,YQ,YR,YS,YT, len_LN, q1, a1, a2]))
      refine WC.mk sm ?_
      (repeat (first | simp (disch := omega) only [wrap64, wrapU32, wrapU64, wrapU8] | simp only [Ja,Jb,Jc,Jd,Je,Jf,Jg,Jh,Ji,Jj,Jk,Jl,Jm,Jn,Jo,Jp,Jq,Jr,Js,Jt,Ju,Jv,Jw,envA,lensOf,Jx,Jy,Jz,JA,JB,JC,JD,JE,JF,JG,JH,JI,JJ,JK,JL,JM,JN,JO,JP,JQ,JR,JS,JT,JU,JV,JW,↓reduceIte,if_true,reduceCtorEq,Nat.reduceEqDiff,JX,JY,JZ,J0,J1,J2,J3,J4,J5,J6,J7,Ya,Yb,Yc,Yd,Ye,Yf,Int.cast_ofNat_Int,Yg,Yh,Int.reduceLT,Int.reduceLE,Int.reduceEq,Int.reduceAdd,Int.reduceMul,Int.reduceSub,Int.reduceNeg,Yi,Yj,Yk,Yl,Ym,Yn,Yo,Yp,Yq,Yr,Ys,Yt,Yu,Yv,Yw,Yx,Yy,Yz,YA,YB,YC,YD,YE,YF,YG,YH,YI,YJ,YK,YL,YM,YN,YO,YP,YQ,YR,YS,YT, len_LN, q2, a3]))
      exact ⟨(i + 1, acc ++ rcd b), ⟨by simp only; omega, by simp only [List.length_append]; omega, hI⟩, by simp only; omega, by simp⟩
  · have hi' : ¬ (i : Int) < es.length := by omega
    rw [List.drop_of_length_le (by omega), lofR] at hI
    subst hI
    (repeat (first | simp (disch := omega) only [wrap64, wrapU32, wrapU64, wrapU8] | simp only [Ja,Jb,Jc,Jd,Je,Jf,Jg,Jh,Ji,Jj,Jk,Jl,Jm,Jn,Jo,Jp,Jq,Jr,Js,Jt,Ju,Jv,Jw,envA,lensOf,Jx,Jy,Jz,JA,JB,JC,JD,JE,JF,JG,JH,JI,JJ,JK,JL,JM,JN,JO,JP,JQ,JR,JS,JT,JU,JV,JW,↓reduceIte,if_true,reduceCtorEq,Nat.reduceEqDiff,JX,JY,JZ,J0,J1,J2,J3,J4,J5,J6,J7,Ya,Yb,Yc,Yd,Ye,Yf,Int.cast_ofNat_Int,Yg,Yh,Int.reduceLT,Int.reduceLE,Int.reduceEq,Int.reduceAdd,Int.reduceMul,Int.reduceSub,Int.reduceNeg,Yi,Yj,Yk,Yl,Ym,Yn,Yo,Yp,Yq,Yr,Ys,Yt,Yu,Yv,Yw,Yx,Yy,Yz,YA,YB,YC,YD,YE,YF,YG,YH,YI,YJ,YK,YL,YM,YN,YO,YP,YQ,YR,YS,YT, len_LE, len_LN, hi', loR]))
theorem evs_of {d : D} (h : wfC (.sl [.int .i64, .int .i64, .int .i64, .int .i64, .sl [.int .i64]]) d) : ∃ es : List Ev, d = LE es ∧ es.length < 9223372036854775808 ∧ ∀ e ∈ es, e.vs.length < 9223372036854775808 := by
  cases d with
  | l xs =>
    rw [wfC] at h
    obtain ⟨h1, h2⟩ := h
    have h3 := maxLen_lt
    have key : ∀ xs : List D, (∀ x ∈ xs, wfZ EK (row EK x)) → ∃ es : List Ev, xs = es.map (fun e => .l e.ds) ∧ ∀ e ∈ es, e.vs.length < 9223372036854775808 := by
      intro xs
      induction xs with
      | nil => intro _; exact ⟨[], rfl, fun e he => by cases he⟩
      | cons x r ih =>
        intro hx
        obtain ⟨es, e1, e2⟩ := ih (fun y hy => hx y (List.mem_cons_of_mem _ hy))
        have h0 := hx x List.mem_cons_self
        have hrow : row EK x = x.items := rfl
        rw [hrow] at h0
        obtain ⟨d0, r0, q0, w0, h0⟩ := wfZ_cons h0
        obtain ⟨d1, r1, rfl, w1, h0⟩ := wfZ_cons h0
        obtain ⟨d2, r2, rfl, w2, h0⟩ := wfZ_cons h0
        obtain ⟨d3, r3, rfl, w3, h0⟩ := wfZ_cons h0
        obtain ⟨d4, r4, rfl, w4, h0⟩ := wfZ_cons h0
        obtain rfl := wfZ_nil h0
        obtain ⟨k, rfl, _⟩ := int_of w0
        obtain ⟨w, rfl, _⟩ := int_of w1
        obtain ⟨n, rfl, _⟩ := int_of w2
        obtain ⟨rk, rfl, _⟩ := int_of w3
        obtain ⟨vs, rfl, hvl, _⟩ := ints_of w4
        refine ⟨⟨k, w, n, rk, vs⟩ :: es, ?_, fun e he => ?_⟩
        · rw [e1]
          cases x with
          | l ys => simp only [D.items] at q0; rw [q0]; rfl
          | _ => simp [D.items] at q0
        · rcases List.mem_cons.1 he with rfl | he
          · simp only; omega
          · exact e2 e he
    obtain ⟨es, rfl, e2⟩ := key xs h2
    refine ⟨es, rfl, ?_, e2⟩
    rw [List.length_map] at h1
    omega
  | _ => simp [wfC] at h
set_option maxHeartbeats 1000000 in
theorem f36 (es : List Ev) (hl : es.length < 9223372036854775808) (hv : ∀ e ∈ es, e.vs.length < 9223372036854775808) : EvF fes 36 [LE es] [.b true] := by
  refine EvF.w (fe := e36) (t := t36) rfl rfl ?_
  rw [show envA e36.sig [LE es] = [LE es] from rfl]
  have hsz := f3 es hl hv
  simp only [Ja,Jb,Jc,Jd,Je,Jf,Jg,Jh,Ji,Jj,Jk,Jl,Jm,Jn,Jo,Jp,Jq,Jr,Js,Jt,Ju,Jv,Jw,envA,lensOf,Jx,Jy,Jz,JA,JB,JC,JD,JE,JF,JG,JH,JI,JJ,JK,JL,JM,JN,JO,JP,JQ,JR,JS,JT,JU,JV,JW,↓reduceIte,if_true,reduceCtorEq,Nat.reduceEqDiff,JX,JY,JZ,J0,J1,J2,J3,J4,J5,J6,J7,Ya,Yb,Yc,Yd,Ye,Yf,Int.cast_ofNat_Int,Yg,Yh,Int.reduceLT,Int.reduceLE,Int.reduceEq,Int.reduceAdd,Int.reduceMul,Int.reduceSub,Int.reduceNeg,Yi,Yj,Yk,Yl,Ym,Yn,Yo,Yp,Yq,Yr,Ys,Yt,Yu,Yv,Yw,Yx,Yy,Yz,YA,YB,YC,YD,YE,YF,YG,YH,YI,YJ,YK,YL,YM,YN,YO,YP,YQ,YR,YS,YT, t36]
  refine WC.mk hsz ?_
  cases hs : szEs es with
  | none =>
    simp only [Ja,Jb,Jc,Jd,Je,Jf,Jg,Jh,Ji,Jj,Jk,Jl,Jm,Jn,Jo,Jp,Jq,Jr,Js,Jt,Ju,Jv,Jw,envA,lensOf,Jx,Jy,Jz,JA,JB,JC,JD,JE,JF,JG,JH,JI,JJ,JK,JL,JM,JN,JO,JP,JQ,JR,JS,JT,JU,JV,JW,↓reduceIte,if_true,reduceCtorEq,Nat.reduceEqDiff,JX,JY,JZ,J0,J1,J2,J3,J4,J5,J6,J7,Ya,Yb,Yc,Yd,Ye,Yf,Int.cast_ofNat_Int,Yg,Yh,Int.reduceLT,Int.reduceLE,Int.reduceEq,Int.reduceAdd,Int.reduceMul,Int.reduceSub,Int.reduceNeg,Yi,Yj,Yk,Yl,Ym,Yn,Yo,Yp,Yq,Yr,Ys,Yt,Yu,Yv,Yw,Yx,Yy,Yz,YA,YB,YC,YD,YE,YF,YG,YH,YI,YJ,YK,YL,YM,YN,YO,YP,YQ,YR,YS,YT, szR]
  | some m =>
    unfold szEs at hs
    split at hs
    · cases hs
    rename_i hle
    obtain ⟨s1, s2⟩ := szL_spec (k := 1) hs
    have hmono := endE_mono (k := 1) (es := es) (i := 0)
    rw [List.take_zero] at hmono
    have hto := f7 es (by omega) (fun e he => by have := s2 e he; omega)
    have hq := f31 es (by omega) (fun e he => by have := s2 e he; omega)
    have hm := f33 es 1 (by omega) (by omega) (by omega)
    have h1 := f13 es (by omega) (fun e he => by have := s2 e he; omega)
    have h2 := f26 es (by omega) (fun e he => by have := s2 e he; omega)
    have hneg : ¬ endE 1 es < 0 := by simp only [endE] at hmono; omega
    obtain ⟨c, bs, hlo, hbl⟩ : ∃ c bs, loR (lof es) = [.b c, LN bs] ∧ bs.length ≤ 20000 := by
      unfold lof
      split
      · exact ⟨false, [], rfl, by simp⟩
      · rename_i h400
        cases hR : lofR es [] with
        | none => exact ⟨false, [], rfl, by simp⟩
        | some b =>
          have := (lofR_len hR).1
          simp only [List.length_nil] at this
          exact ⟨true, b, rfl, by omega⟩
    rw [hlo] at h1 h2
    have hb : EvF fes 27 [LN bs, LN bs] [.b true] := by
      have := eqN_ok (fes := fes) (f := 27) (fe := e27) (k := .u8) rfl rfl rfl bs bs (by omega) (by omega)
      rwa [decide_eq_true rfl] at this
    have hmb : EvF fes 34 [LN bs, .i 1] [.i (bs.length + 1), LI (mkL IntKind.u8.wrap bs.length)] := markN_ok rfl rfl (fun a b => rfl) bs (by omega)
    have hhb : EvF fes 35 [LI (mkL IntKind.u8.wrap bs.length), .i 1] [.i (bs.length + 1)] := held_ok (k := .u8) rfl rfl rfl bs.length (by omega)
    have hcut : ∀ k1 k2, (Pr.cut [ku8] k1 k2).eval [LI (mkL IntKind.u8.wrap bs.length), .i 0, .i (bs.length : Int)] = some (LI (mkL IntKind.u8.wrap bs.length)) := fun k1 k2 => cut_whole (by rw [mkL_len])
    have hpos : ¬ (bs.length : Int) + 1 < 0 := by omega
    generalize endE 1 es = q at hm hneg
    simp only [Ja,Jb,Jc,Jd,Je,Jf,Jg,Jh,Ji,Jj,Jk,Jl,Jm,Jn,Jo,Jp,Jq,Jr,Js,Jt,Ju,Jv,Jw,envA,lensOf,Jx,Jy,Jz,JA,JB,JC,JD,JE,JF,JG,JH,JI,JJ,JK,JL,JM,JN,JO,JP,JQ,JR,JS,JT,JU,JV,JW,↓reduceIte,if_true,reduceCtorEq,Nat.reduceEqDiff,JX,JY,JZ,J0,J1,J2,J3,J4,J5,J6,J7,Ya,Yb,Yc,Yd,Ye,Yf,Int.cast_ofNat_Int,Yg,Yh,Int.reduceLT,Int.reduceLE,Int.reduceEq,Int.reduceAdd,Int.reduceMul,Int.reduceSub,Int.reduceNeg,Yi,Yj,Yk,Yl,Ym,Yn,Yo,Yp,Yq,Yr,Ys,Yt,Yu,Yv,Yw,Yx,Yy,Yz,YA,YB,YC,YD,YE,YF,YG,YH,YI,YJ,YK,YL,YM,YN,YO,YP,YQ,YR,YS,YT, szR, natLt0]
    refine WC.mk hto ?_
    simp only [Ja,Jb,Jc,Jd,Je,Jf,Jg,Jh,Ji,Jj,Jk,Jl,Jm,Jn,Jo,Jp,Jq,Jr,Js,Jt,Ju,Jv,Jw,envA,lensOf,Jx,Jy,Jz,JA,JB,JC,JD,JE,JF,JG,JH,JI,JJ,JK,JL,JM,JN,JO,JP,JQ,JR,JS,JT,JU,JV,JW,↓reduceIte,if_true,reduceCtorEq,Nat.reduceEqDiff,JX,JY,JZ,J0,J1,J2,J3,J4,J5,J6,J7,Ya,Yb,Yc,Yd,Ye,Yf,Int.cast_ofNat_Int,Yg,Yh,Int.reduceLT,Int.reduceLE,Int.reduceEq,Int.reduceAdd,Int.reduceMul,Int.reduceSub,Int.reduceNeg,Yi,Yj,Yk,Yl,Ym,Yn,Yo,Yp,Yq,Yr,Ys,Yt,Yu,Yv,Yw,Yx,Yy,Yz,YA,YB,YC,YD,YE,YF,YG,YH,YI,YJ,YK,YL,YM,YN,YO,YP,YQ,YR,YS,YT, len_LE]
    refine WC.mk h1 ?_
    simp only [Ja,Jb,Jc,Jd,Je,Jf,Jg,Jh,Ji,Jj,Jk,Jl,Jm,Jn,Jo,Jp,Jq,Jr,Js,Jt,Ju,Jv,Jw,envA,lensOf,Jx,Jy,Jz,JA,JB,JC,JD,JE,JF,JG,JH,JI,JJ,JK,JL,JM,JN,JO,JP,JQ,JR,JS,JT,JU,JV,JW,↓reduceIte,if_true,reduceCtorEq,Nat.reduceEqDiff,JX,JY,JZ,J0,J1,J2,J3,J4,J5,J6,J7,Ya,Yb,Yc,Yd,Ye,Yf,Int.cast_ofNat_Int,Yg,Yh,Int.reduceLT,Int.reduceLE,Int.reduceEq,Int.reduceAdd,Int.reduceMul,Int.reduceSub,Int.reduceNeg,Yi,Yj,Yk,Yl,Ym,Yn,Yo,Yp,Yq,Yr,Ys,Yt,Yu,Yv,Yw,Yx,Yy,Yz,YA,YB,YC,YD,YE,YF,YG,YH,YI,YJ,YK,YL,YM,YN,YO,YP,YQ,YR,YS,YT, len_LN]
    refine WC.mk hto ?_
    simp only [Ja,Jb,Jc,Jd,Je,Jf,Jg,Jh,Ji,Jj,Jk,Jl,Jm,Jn,Jo,Jp,Jq,Jr,Js,Jt,Ju,Jv,Jw,envA,lensOf,Jx,Jy,Jz,JA,JB,JC,JD,JE,JF,JG,JH,JI,JJ,JK,JL,JM,JN,JO,JP,JQ,JR,JS,JT,JU,JV,JW,↓reduceIte,if_true,reduceCtorEq,Nat.reduceEqDiff,JX,JY,JZ,J0,J1,J2,J3,J4,J5,J6,J7,Ya,Yb,Yc,Yd,Ye,Yf,Int.cast_ofNat_Int,Yg,Yh,Int.reduceLT,Int.reduceLE,Int.reduceEq,Int.reduceAdd,Int.reduceMul,Int.reduceSub,Int.reduceNeg,Yi,Yj,Yk,Yl,Ym,Yn,Yo,Yp,Yq,Yr,Ys,Yt,Yu,Yv,Yw,Yx,Yy,Yz,YA,YB,YC,YD,YE,YF,YG,YH,YI,YJ,YK,YL,YM,YN,YO,YP,YQ,YR,YS,YT, len_LE]
    refine WC.mk h2 ?_
    simp only [Ja,Jb,Jc,Jd,Je,Jf,Jg,Jh,Ji,Jj,Jk,Jl,Jm,Jn,Jo,Jp,Jq,Jr,Js,Jt,Ju,Jv,Jw,envA,lensOf,Jx,Jy,Jz,JA,JB,JC,JD,JE,JF,JG,JH,JI,JJ,JK,JL,JM,JN,JO,JP,JQ,JR,JS,JT,JU,JV,JW,↓reduceIte,if_true,reduceCtorEq,Nat.reduceEqDiff,JX,JY,JZ,J0,J1,J2,J3,J4,J5,J6,J7,Ya,Yb,Yc,Yd,Ye,Yf,Int.cast_ofNat_Int,Yg,Yh,Int.reduceLT,Int.reduceLE,Int.reduceEq,Int.reduceAdd,Int.reduceMul,Int.reduceSub,Int.reduceNeg,Yi,Yj,Yk,Yl,Ym,Yn,Yo,Yp,Yq,Yr,Ys,Yt,Yu,Yv,Yw,Yx,Yy,Yz,YA,YB,YC,YD,YE,YF,YG,YH,YI,YJ,YK,YL,YM,YN,YO,YP,YQ,YR,YS,YT, len_LN]
    refine WC.mk hb ?_
    simp only [Ja,Jb,Jc,Jd,Je,Jf,Jg,Jh,Ji,Jj,Jk,Jl,Jm,Jn,Jo,Jp,Jq,Jr,Js,Jt,Ju,Jv,Jw,envA,lensOf,Jx,Jy,Jz,JA,JB,JC,JD,JE,JF,JG,JH,JI,JJ,JK,JL,JM,JN,JO,JP,JQ,JR,JS,JT,JU,JV,JW,↓reduceIte,if_true,reduceCtorEq,Nat.reduceEqDiff,JX,JY,JZ,J0,J1,J2,J3,J4,J5,J6,J7,Ya,Yb,Yc,Yd,Ye,Yf,Int.cast_ofNat_Int,Yg,Yh,Int.reduceLT,Int.reduceLE,Int.reduceEq,Int.reduceAdd,Int.reduceMul,Int.reduceSub,Int.reduceNeg,Yi,Yj,Yk,Yl,Ym,Yn,Yo,Yp,Yq,Yr,Ys,Yt,Yu,Yv,Yw,Yx,Yy,Yz,YA,YB,YC,YD,YE,YF,YG,YH,YI,YJ,YK,YL,YM,YN,YO,YP,YQ,YR,YS,YT, beq_self_eq_true, len_LN, len_LE]
    refine WC.mk hto ?_
    simp only [Ja,Jb,Jc,Jd,Je,Jf,Jg,Jh,Ji,Jj,Jk,Jl,Jm,Jn,Jo,Jp,Jq,Jr,Js,Jt,Ju,Jv,Jw,envA,lensOf,Jx,Jy,Jz,JA,JB,JC,JD,JE,JF,JG,JH,JI,JJ,JK,JL,JM,JN,JO,JP,JQ,JR,JS,JT,JU,JV,JW,↓reduceIte,if_true,reduceCtorEq,Nat.reduceEqDiff,JX,JY,JZ,J0,J1,J2,J3,J4,J5,J6,J7,Ya,Yb,Yc,Yd,Ye,Yf,Int.cast_ofNat_Int,Yg,Yh,Int.reduceLT,Int.reduceLE,Int.reduceEq,Int.reduceAdd,Int.reduceMul,Int.reduceSub,Int.reduceNeg,Yi,Yj,Yk,Yl,Ym,Yn,Yo,Yp,Yq,Yr,Ys,Yt,Yu,Yv,Yw,Yx,Yy,Yz,YA,YB,YC,YD,YE,YF,YG,YH,YI,YJ,YK,YL,YM,YN,YO,YP,YQ,YR,YS,YT, len_LE]
    refine WC.mk hq ?_
    simp only [Ja,Jb,Jc,Jd,Je,Jf,Jg,Jh,Ji,Jj,Jk,Jl,Jm,Jn,Jo,Jp,Jq,Jr,Js,Jt,Ju,Jv,Jw,envA,lensOf,Jx,Jy,Jz,JA,JB,JC,JD,JE,JF,JG,JH,JI,JJ,JK,JL,JM,JN,JO,JP,JQ,JR,JS,JT,JU,JV,JW,↓reduceIte,if_true,reduceCtorEq,Nat.reduceEqDiff,JX,JY,JZ,J0,J1,J2,J3,J4,J5,J6,J7,Ya,Yb,Yc,Yd,Ye,Yf,Int.cast_ofNat_Int,Yg,Yh,Int.reduceLT,Int.reduceLE,Int.reduceEq,Int.reduceAdd,Int.reduceMul,Int.reduceSub,Int.reduceNeg,Yi,Yj,Yk,Yl,Ym,Yn,Yo,Yp,Yq,Yr,Ys,Yt,Yu,Yv,Yw,Yx,Yy,Yz,YA,YB,YC,YD,YE,YF,YG,YH,YI,YJ,YK,YL,YM,YN,YO,YP,YQ,YR,YS,YT]
    refine WC.mk hm ?_
    simp only [Ja,Jb,Jc,Jd,Je,Jf,Jg,Jh,Ji,Jj,Jk,Jl,Jm,Jn,Jo,Jp,Jq,Jr,Js,Jt,Ju,Jv,Jw,envA,lensOf,Jx,Jy,Jz,JA,JB,JC,JD,JE,JF,JG,JH,JI,JJ,JK,JL,JM,JN,JO,JP,JQ,JR,JS,JT,JU,JV,JW,↓reduceIte,if_true,reduceCtorEq,Nat.reduceEqDiff,JX,JY,JZ,J0,J1,J2,J3,J4,J5,J6,J7,Ya,Yb,Yc,Yd,Ye,Yf,Int.cast_ofNat_Int,Yg,Yh,Int.reduceLT,Int.reduceLE,Int.reduceEq,Int.reduceAdd,Int.reduceMul,Int.reduceSub,Int.reduceNeg,Yi,Yj,Yk,Yl,Ym,Yn,Yo,Yp,Yq,Yr,Ys,Yt,Yu,Yv,Yw,Yx,Yy,Yz,YA,YB,YC,YD,YE,YF,YG,YH,YI,YJ,YK,YL,YM,YN,YO,YP,YQ,YR,YS,YT, len_LE, hneg]
    refine WC.mk hb ?_
    simp only [Ja,Jb,Jc,Jd,Je,Jf,Jg,Jh,Ji,Jj,Jk,Jl,Jm,Jn,Jo,Jp,Jq,Jr,Js,Jt,Ju,Jv,Jw,envA,lensOf,Jx,Jy,Jz,JA,JB,JC,JD,JE,JF,JG,JH,JI,JJ,JK,JL,JM,JN,JO,JP,JQ,JR,JS,JT,JU,JV,JW,↓reduceIte,if_true,reduceCtorEq,Nat.reduceEqDiff,JX,JY,JZ,J0,J1,J2,J3,J4,J5,J6,J7,Ya,Yb,Yc,Yd,Ye,Yf,Int.cast_ofNat_Int,Yg,Yh,Int.reduceLT,Int.reduceLE,Int.reduceEq,Int.reduceAdd,Int.reduceMul,Int.reduceSub,Int.reduceNeg,Yi,Yj,Yk,Yl,Ym,Yn,Yo,Yp,Yq,Yr,Ys,Yt,Yu,Yv,Yw,Yx,Yy,Yz,YA,YB,YC,YD,YE,YF,YG,YH,YI,YJ,YK,YL,YM,YN,YO,YP,YQ,YR,YS,YT, beq_self_eq_true, len_LN, len_LE]
    refine WC.mk hmb ?_
    simp only [Ja,Jb,Jc,Jd,Je,Jf,Jg,Jh,Ji,Jj,Jk,Jl,Jm,Jn,Jo,Jp,Jq,Jr,Js,Jt,Ju,Jv,Jw,envA,lensOf,Jx,Jy,Jz,JA,JB,JC,JD,JE,JF,JG,JH,JI,JJ,JK,JL,JM,JN,JO,JP,JQ,JR,JS,JT,JU,JV,JW,↓reduceIte,if_true,reduceCtorEq,Nat.reduceEqDiff,JX,JY,JZ,J0,J1,J2,J3,J4,J5,J6,J7,Ya,Yb,Yc,Yd,Ye,Yf,Int.cast_ofNat_Int,Yg,Yh,Int.reduceLT,Int.reduceLE,Int.reduceEq,Int.reduceAdd,Int.reduceMul,Int.reduceSub,Int.reduceNeg,Yi,Yj,Yk,Yl,Ym,Yn,Yo,Yp,Yq,Yr,Ys,Yt,Yu,Yv,Yw,Yx,Yy,Yz,YA,YB,YC,YD,YE,YF,YG,YH,YI,YJ,YK,YL,YM,YN,YO,YP,YQ,YR,YS,YT, len_LI, plus_0, Int.zero_add, hcut, mkL_len]
    refine WC.mk hhb ?_
    simp only [Ja,Jb,Jc,Jd,Je,Jf,Jg,Jh,Ji,Jj,Jk,Jl,Jm,Jn,Jo,Jp,Jq,Jr,Js,Jt,Ju,Jv,Jw,envA,lensOf,Jx,Jy,Jz,JA,JB,JC,JD,JE,JF,JG,JH,JI,JJ,JK,JL,JM,JN,JO,JP,JQ,JR,JS,JT,JU,JV,JW,↓reduceIte,if_true,reduceCtorEq,Nat.reduceEqDiff,JX,JY,JZ,J0,J1,J2,J3,J4,J5,J6,J7,Ya,Yb,Yc,Yd,Ye,Yf,Int.cast_ofNat_Int,Yg,Yh,Int.reduceLT,Int.reduceLE,Int.reduceEq,Int.reduceAdd,Int.reduceMul,Int.reduceSub,Int.reduceNeg,Yi,Yj,Yk,Yl,Ym,Yn,Yo,Yp,Yq,Yr,Ys,Yt,Yu,Yv,Yw,Yx,Yy,Yz,YA,YB,YC,YD,YE,YF,YG,YH,YI,YJ,YK,YL,YM,YN,YO,YP,YQ,YR,YS,YT, hpos]
    refine WC.mk hto ?_
    simp only [Ja,Jb,Jc,Jd,Je,Jf,Jg,Jh,Ji,Jj,Jk,Jl,Jm,Jn,Jo,Jp,Jq,Jr,Js,Jt,Ju,Jv,Jw,envA,lensOf,Jx,Jy,Jz,JA,JB,JC,JD,JE,JF,JG,JH,JI,JJ,JK,JL,JM,JN,JO,JP,JQ,JR,JS,JT,JU,JV,JW,↓reduceIte,if_true,reduceCtorEq,Nat.reduceEqDiff,JX,JY,JZ,J0,J1,J2,J3,J4,J5,J6,J7,Ya,Yb,Yc,Yd,Ye,Yf,Int.cast_ofNat_Int,Yg,Yh,Int.reduceLT,Int.reduceLE,Int.reduceEq,Int.reduceAdd,Int.reduceMul,Int.reduceSub,Int.reduceNeg,Yi,Yj,Yk,Yl,Ym,Yn,Yo,Yp,Yq,Yr,Ys,Yt,Yu,Yv,Yw,Yx,Yy,Yz,YA,YB,YC,YD,YE,YF,YG,YH,YI,YJ,YK,YL,YM,YN,YO,YP,YQ,YR,YS,YT, len_LE]
    refine WC.mk h2 ?_
    simp only [Ja,Jb,Jc,Jd,Je,Jf,Jg,Jh,Ji,Jj,Jk,Jl,Jm,Jn,Jo,Jp,Jq,Jr,Js,Jt,Ju,Jv,Jw,envA,lensOf,Jx,Jy,Jz,JA,JB,JC,JD,JE,JF,JG,JH,JI,JJ,JK,JL,JM,JN,JO,JP,JQ,JR,JS,JT,JU,JV,JW,↓reduceIte,if_true,reduceCtorEq,Nat.reduceEqDiff,JX,JY,JZ,J0,J1,J2,J3,J4,J5,J6,J7,Ya,Yb,Yc,Yd,Ye,Yf,Int.cast_ofNat_Int,Yg,Yh,Int.reduceLT,Int.reduceLE,Int.reduceEq,Int.reduceAdd,Int.reduceMul,Int.reduceSub,Int.reduceNeg,Yi,Yj,Yk,Yl,Ym,Yn,Yo,Yp,Yq,Yr,Ys,Yt,Yu,Yv,Yw,Yx,Yy,Yz,YA,YB,YC,YD,YE,YF,YG,YH,YI,YJ,YK,YL,YM,YN,YO,YP,YQ,YR,YS,YT, len_LN]
    refine WC.mk hb ?_
    simp only [Ja,Jb,Jc,Jd,Je,Jf,Jg,Jh,Ji,Jj,Jk,Jl,Jm,Jn,Jo,Jp,Jq,Jr,Js,Jt,Ju,Jv,Jw,envA,lensOf,Jx,Jy,Jz,JA,JB,JC,JD,JE,JF,JG,JH,JI,JJ,JK,JL,JM,JN,JO,JP,JQ,JR,JS,JT,JU,JV,JW,↓reduceIte,if_true,reduceCtorEq,Nat.reduceEqDiff,JX,JY,JZ,J0,J1,J2,J3,J4,J5,J6,J7,Ya,Yb,Yc,Yd,Ye,Yf,Int.cast_ofNat_Int,Yg,Yh,Int.reduceLT,Int.reduceLE,Int.reduceEq,Int.reduceAdd,Int.reduceMul,Int.reduceSub,Int.reduceNeg,Yi,Yj,Yk,Yl,Ym,Yn,Yo,Yp,Yq,Yr,Ys,Yt,Yu,Yv,Yw,Yx,Yy,Yz,YA,YB,YC,YD,YE,YF,YG,YH,YI,YJ,YK,YL,YM,YN,YO,YP,YQ,YR,YS,YT, beq_self_eq_true, len_LN, len_LE, len_LI, plus_0, Int.zero_add, hcut, mkL_len]
    refine WC.mk hhb ?_
    simp only [Ja,Jb,Jc,Jd,Je,Jf,Jg,Jh,Ji,Jj,Jk,Jl,Jm,Jn,Jo,Jp,Jq,Jr,Js,Jt,Ju,Jv,Jw,envA,lensOf,Jx,Jy,Jz,JA,JB,JC,JD,JE,JF,JG,JH,JI,JJ,JK,JL,JM,JN,JO,JP,JQ,JR,JS,JT,JU,JV,JW,↓reduceIte,if_true,reduceCtorEq,Nat.reduceEqDiff,JX,JY,JZ,J0,J1,J2,J3,J4,J5,J6,J7,Ya,Yb,Yc,Yd,Ye,Yf,Int.cast_ofNat_Int,Yg,Yh,Int.reduceLT,Int.reduceLE,Int.reduceEq,Int.reduceAdd,Int.reduceMul,Int.reduceSub,Int.reduceNeg,Yi,Yj,Yk,Yl,Ym,Yn,Yo,Yp,Yq,Yr,Ys,Yt,Yu,Yv,Yw,Yx,Yy,Yz,YA,YB,YC,YD,YE,YF,YG,YH,YI,YJ,YK,YL,YM,YN,YO,YP,YQ,YR,YS,YT, hpos]
theorem law (ds : List D) (h : wfZ [.sl [.int .i64, .int .i64, .int .i64, .int .i64, .sl [.int .i64]]] ds) : EvF fes 36 ds [.b true] := by
  obtain ⟨d0, r, rfl, h0, h⟩ := wfZ_cons h
  obtain rfl := wfZ_nil h
  obtain ⟨es, rfl, hl, hx⟩ := evs_of h0
  exact f36 es hl hx
end Go.Proofs.Ytponfomfcmlfmaa.LogOf
