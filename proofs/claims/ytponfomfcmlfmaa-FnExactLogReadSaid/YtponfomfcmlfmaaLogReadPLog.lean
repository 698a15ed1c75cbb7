/- Logs: what reading one gives; a record read back. -/
import Derived.Test.YtponfomfcmlfmaaLogReadPErd
set_option linter.unusedVariables false
set_option linter.unusedSimpArgs false
namespace Go.Proofs.Ytponfomfcmlfmaa.LogRead
open Go.BH
set_option maxRecDepth 100000
abbrev EK : List CK := [ki64, ki64, ki64, ki64, .sl [ki64]]
def LE (es : List Ev) : D := .l (es.map fun e => .l e.ds)
theorem len_LE {es : List Ev} : (Pr.len EK).eval [LE es] = some (.i es.length) := by simp [LE]
theorem get_LE {es : List Ev} {i j : Nat} (h : i < es.length) : (Pr.get EK j).eval [LE es, .i (i : Int)] = (es[i].ds)[j]? := by
  have e : row EK (.l es[i].ds) = es[i].ds := rfl
  simp only [LE, Pr.eval]
  rw [if_neg (by omega), Int.toNat_natCast, List.getElem?_map, List.getElem?_eq_getElem h]
  simp only [Option.map_some, Option.bind_some, e]
theorem app_LE1 {es : List Ev} {e : Ev} (h : es.length < 1000000) : (Pr.app EK 56).eval [LE es, LE [e]] = some (LE (es ++ [e])) := by
  simp only [LE, Pr.eval]
  rw [if_pos (by simp; omega)]
  simp
theorem mk_LE {k w n rk : Int} {vs : List Int} : (Pr.mk EK 1).eval [.i k, .i w, .i n, .i rk, LI vs] = some (LE [⟨k, w, n, rk, vs⟩]) := rfl
theorem sum_byte : ∀ {xs : List Nat}, (∀ x ∈ xs, x < 256) → xs.sum ≤ 255 * xs.length
  | [], _ => by simp
  | x :: r, h => by
    have h1 := h x List.mem_cons_self
    have h2 := sum_byte (xs := r) (fun y hy => h y (List.mem_cons_of_mem _ hy))
    simp only [List.sum_cons, List.length_cons]
    omega
theorem f23 (xs : List Nat) (hl : xs.length < 1000000) (hx : ∀ x ∈ xs, x < 256) : EvF fes 23 [LN xs] [.i ((xs.sum % 251 : Nat) : Int)] := by
  refine EvF.w (fe := e23) (t := t23) rfl rfl ?_
  rw [show envA e23.sig [LN xs] = [LN xs] from rfl]
  simp only [Ja,Jb,Jc,Jd,Je,Jf,Jg,Jh,Ji,Jj,Jk,Jl,Jm,Jn,Jo,Jp,Jq,Jr,Js,Jt,Ju,Jv,Jw,envA,lensOf,Jx,Jy,Jz,JA,JB,JC,JD,JE,JF,JG,JH,JI,JJ,JK,JL,JM,JN,JO,JP,JQ,JR,JS,JT,JU,JV,JW,↓reduceIte,if_true,reduceCtorEq,Nat.reduceEqDiff,JX,JY,JZ,J0,J1,J2,J3,J4,J5,J6,J7,Ya,Yb,Yc,Yd,Ye,Yf,Int.cast_ofNat_Int,Yg,Yh,Int.reduceLT,Int.reduceLE,Int.reduceEq,Int.reduceAdd,Int.reduceMul,Int.reduceSub,Int.reduceNeg,Yi,Yj,Yk,Yl,Ym,Yn,Yo,Yp,Yq,Yr,Ys,Yt,Yu,Yv,Yw,Yx,Yy,Yz,YA,YB,YC,YD,YE,YF,YG,YH,YI,YJ,YK,YL,YM,YN,YO,YP,YQ,YR,YS,YT, t23]
  refine LW.cnt xs.length (fun j => [.i ((xs.take j).sum : Nat), .i (j : Nat)]) (fun j hj => ?_) ?_ (by simp)
  · have hj' : (j : Int) < xs.length := by omega
    have hs : (xs.take (j + 1)).sum = (xs.take j).sum + xs[j] := by
      rw [List.take_add_one, List.getElem?_eq_getElem hj, List.sum_append]
      simp only [Option.toList_some, List.sum_cons, List.sum_nil, Nat.add_zero]
    have hb1 := sum_byte (xs := xs.take j) (fun x h => hx x (List.mem_of_mem_take h))
    rw [List.length_take] at hb1
    have hw := hx _ (List.getElem_mem hj)
    (repeat (first | simp (disch := omega) only [wrap64, wrapU32, wrapU64, wrapU8] | simp only [Ja,Jb,Jc,Jd,Je,Jf,Jg,Jh,Ji,Jj,Jk,Jl,Jm,Jn,Jo,Jp,Jq,Jr,Js,Jt,Ju,Jv,Jw,envA,lensOf,Jx,Jy,Jz,JA,JB,JC,JD,JE,JF,JG,JH,JI,JJ,JK,JL,JM,JN,JO,JP,JQ,JR,JS,JT,JU,JV,JW,↓reduceIte,if_true,reduceCtorEq,Nat.reduceEqDiff,JX,JY,JZ,J0,J1,J2,J3,J4,J5,J6,J7,Ya,Yb,Yc,Yd,Ye,Yf,Int.cast_ofNat_Int,Yg,Yh,Int.reduceLT,Int.reduceLE,Int.reduceEq,Int.reduceAdd,Int.reduceMul,Int.reduceSub,Int.reduceNeg,Yi,Yj,Yk,Yl,Ym,Yn,Yo,Yp,Yq,Yr,Ys,Yt,Yu,Yv,Yw,Yx,Yy,Yz,YA,YB,YC,YD,YE,YF,YG,YH,YI,YJ,YK,YL,YM,YN,YO,YP,YQ,YR,YS,YT, hj', ixc_N hj, get_LN hj]))
    rw [hs]
    simp only [Int.natCast_add]
    rfl
  · have hj' : ¬ (xs.length : Int) < xs.length := by omega
    have m : ((xs.sum : Nat) : Int).tmod 251 = ((xs.sum % 251 : Nat) : Int) := rfl
    have z : ¬ (251 : Int) = 0 := by omega
    rw [List.take_length]
    (repeat (first | simp (disch := omega) only [wrap64, wrapU32, wrapU64, wrapU8] | simp only [Ja,Jb,Jc,Jd,Je,Jf,Jg,Jh,Ji,Jj,Jk,Jl,Jm,Jn,Jo,Jp,Jq,Jr,Js,Jt,Ju,Jv,Jw,envA,lensOf,Jx,Jy,Jz,JA,JB,JC,JD,JE,JF,JG,JH,JI,JJ,JK,JL,JM,JN,JO,JP,JQ,JR,JS,JT,JU,JV,JW,↓reduceIte,if_true,reduceCtorEq,Nat.reduceEqDiff,JX,JY,JZ,J0,J1,J2,J3,J4,J5,J6,J7,Ya,Yb,Yc,Yd,Ye,Yf,Int.cast_ofNat_Int,Yg,Yh,Int.reduceLT,Int.reduceLE,Int.reduceEq,Int.reduceAdd,Int.reduceMul,Int.reduceSub,Int.reduceNeg,Yi,Yj,Yk,Yl,Ym,Yn,Yo,Yp,Yq,Yr,Ys,Yt,Yu,Yv,Yw,Yx,Yy,Yz,YA,YB,YC,YD,YE,YF,YG,YH,YI,YJ,YK,YL,YM,YN,YO,YP,YQ,YR,YS,YT, hj', m, z]))
/-! ### reading a log -/
def lgo (xs : List Nat) : Nat → Nat → List Ev → Nat × List Ev
  | 0, a, es => (a, es)
  | f + 1, a, es => match xs[a]? with
    | none => (a, es)
    | some l => match xs[a + 1 + l]? with
      | none => (a, es)
      | some z => match erd ((xs.drop (a + 1)).take l) with
        | none => (a, es)
        | some e => if ((xs.drop (a + 1)).take l).sum % 251 = z then lgo xs f (a + l + 2) (es ++ [e]) else (a, es)
def lrd (xs : List Nat) : Nat × List Ev := lgo xs 400 0 []
set_option maxHeartbeats 1000000 in
theorem f24 (xs : List Nat) (hl : xs.length < 2305843009213693952) (hx : ∀ x ∈ xs, x < 256) : EvF fes 24 [LN xs] [.i ((lrd xs).1 : Nat), LE (lrd xs).2] := by
  generalize hr : lrd xs = pr
  obtain ⟨p, r⟩ := pr
  simp only
  refine EvF.w (fe := e24) (t := t24) rfl rfl ?_
  rw [show envA e24.sig [LN xs] = [LN xs] from rfl]
  simp only [Ja,Jb,Jc,Jd,Je,Jf,Jg,Jh,Ji,Jj,Jk,Jl,Jm,Jn,Jo,Jp,Jq,Jr,Js,Jt,Ju,Jv,Jw,envA,lensOf,Jx,Jy,Jz,JA,JB,JC,JD,JE,JF,JG,JH,JI,JJ,JK,JL,JM,JN,JO,JP,JQ,JR,JS,JT,JU,JV,JW,↓reduceIte,if_true,reduceCtorEq,Nat.reduceEqDiff,JX,JY,JZ,J0,J1,J2,J3,J4,J5,J6,J7,Ya,Yb,Yc,Yd,Ye,Yf,Int.cast_ofNat_Int,Yg,Yh,Int.reduceLT,Int.reduceLE,Int.reduceEq,Int.reduceAdd,Int.reduceMul,Int.reduceSub,Int.reduceNeg,Yi,Yj,Yk,Yl,Ym,Yn,Yo,Yp,Yq,Yr,Ys,Yt,Yu,Yv,Yw,Yx,Yy,Yz,YA,YB,YC,YD,YE,YF,YG,YH,YI,YJ,YK,YL,YM,YN,YO,YP,YQ,YR,YS,YT, t24]
  refine LW.inv (α := Nat × List Ev) (fun st => lgo xs (400 - st.2.length) st.1 st.2 = (p, r) ∧ st.2.length ≤ 400 ∧ st.1 ≤ xs.length) (fun st => [.i (st.1 : Nat), LE st.2]) (fun st => 400 - st.2.length) (fun ⟨a, es⟩ ⟨hI, h400, hal⟩ => ?_) (a := (0, [])) ⟨hr, by simp, by simp⟩ (by simp [LE])
  simp only at hI h400 hal
  have stop : (a, es) = (p, r) → [D.i (a : Nat), LE es] = [D.i (p : Nat), LE r] := fun h => by cases h; rfl
  by_cases c1 : a < xs.length
  rotate_left
  · have c1' : ¬ (a : Int) < xs.length := by omega
    have e : lgo xs (400 - es.length) a es = (a, es) := by
      cases 400 - es.length with
      | zero => rfl
      | succ f => unfold lgo; rw [List.getElem?_eq_none (by omega)]
    rw [e] at hI
    (repeat (first | simp (disch := omega) only [wrap64, wrapU32, wrapU64, wrapU8] | simp only [Ja,Jb,Jc,Jd,Je,Jf,Jg,Jh,Ji,Jj,Jk,Jl,Jm,Jn,Jo,Jp,Jq,Jr,Js,Jt,Ju,Jv,Jw,envA,lensOf,Jx,Jy,Jz,JA,JB,JC,JD,JE,JF,JG,JH,JI,JJ,JK,JL,JM,JN,JO,JP,JQ,JR,JS,JT,JU,JV,JW,↓reduceIte,if_true,reduceCtorEq,Nat.reduceEqDiff,JX,JY,JZ,J0,J1,J2,J3,J4,J5,J6,J7,Ya,Yb,Yc,Yd,Ye,Yf,Int.cast_ofNat_Int,Yg,Yh,Int.reduceLT,Int.reduceLE,Int.reduceEq,Int.reduceAdd,Int.reduceMul,Int.reduceSub,Int.reduceNeg,Yi,Yj,Yk,Yl,Ym,Yn,Yo,Yp,Yq,Yr,Ys,Yt,Yu,Yv,Yw,Yx,Yy,Yz,YA,YB,YC,YD,YE,YF,YG,YH,YI,YJ,YK,YL,YM,YN,YO,YP,YQ,YR,YS,YT, len_LE, c1']))
    exact stop hI
  have c1' : (a : Int) < xs.length := by omega
  by_cases c2 : es.length < 400
  rotate_left
  · have c2' : ¬ (es.length : Int) < 400 := by omega
    have e : lgo xs (400 - es.length) a es = (a, es) := by
      rw [show 400 - es.length = 0 by omega]; rfl
    rw [e] at hI
    (repeat (first | simp (disch := omega) only [wrap64, wrapU32, wrapU64, wrapU8] | simp only [Ja,Jb,Jc,Jd,Je,Jf,Jg,Jh,Ji,Jj,Jk,Jl,Jm,Jn,Jo,Jp,Jq,Jr,Js,Jt,Ju,Jv,Jw,envA,lensOf,Jx,Jy,Jz,JA,JB,JC,JD,JE,JF,JG,JH,JI,JJ,JK,JL,JM,JN,JO,JP,JQ,JR,JS,JT,JU,JV,JW,↓reduceIte,if_true,reduceCtorEq,Nat.reduceEqDiff,JX,JY,JZ,J0,J1,J2,J3,J4,J5,J6,J7,Ya,Yb,Yc,Yd,Ye,Yf,Int.cast_ofNat_Int,Yg,Yh,Int.reduceLT,Int.reduceLE,Int.reduceEq,Int.reduceAdd,Int.reduceMul,Int.reduceSub,Int.reduceNeg,Yi,Yj,Yk,Yl,Ym,Yn,Yo,Yp,Yq,Yr,Ys,Yt,Yu,Yv,Yw,Yx,Yy,Yz,YA,YB,YC,YD,YE,YF,YG,YH,YI,YJ,YK,YL,YM,YN,YO,YP,YQ,YR,YS,YT, len_LE, c1', c2']))
    exact stop hI
  have c2' : (es.length : Int) < 400 := by omega
  obtain ⟨f, hf⟩ : ∃ f, 400 - es.length = f + 1 := ⟨400 - es.length - 1, by omega⟩
  rw [hf] at hI
  unfold lgo at hI
  rw [List.getElem?_eq_getElem c1] at hI
  simp only at hI
  have hb := hx _ (List.getElem_mem c1)
  have g0 := get_LN (k := .u8) c1
  have i0 := ixc_N (k := .i64) c1
  generalize xs[a] = l at hI hb g0
  have q1 : (a : Int) + 1 = ((a + 1 : Nat) : Int) := by omega
  have q2 : ((a + 1 : Nat) : Int) + (l : Int) = ((a + 1 + l : Nat) : Int) := by omega
  by_cases c3 : a + 1 + l < xs.length
  rotate_left
  · have c3' : (xs.length : Int) ≤ ((a + 1 + l : Nat) : Int) := by omega
    rw [List.getElem?_eq_none (by omega)] at hI
    (repeat (first | simp (disch := omega) only [wrap64, wrapU32, wrapU64, wrapU8] | simp only [Ja,Jb,Jc,Jd,Je,Jf,Jg,Jh,Ji,Jj,Jk,Jl,Jm,Jn,Jo,Jp,Jq,Jr,Js,Jt,Ju,Jv,Jw,envA,lensOf,Jx,Jy,Jz,JA,JB,JC,JD,JE,JF,JG,JH,JI,JJ,JK,JL,JM,JN,JO,JP,JQ,JR,JS,JT,JU,JV,JW,↓reduceIte,if_true,reduceCtorEq,Nat.reduceEqDiff,JX,JY,JZ,J0,J1,J2,J3,J4,J5,J6,J7,Ya,Yb,Yc,Yd,Ye,Yf,Int.cast_ofNat_Int,Yg,Yh,Int.reduceLT,Int.reduceLE,Int.reduceEq,Int.reduceAdd,Int.reduceMul,Int.reduceSub,Int.reduceNeg,Yi,Yj,Yk,Yl,Ym,Yn,Yo,Yp,Yq,Yr,Ys,Yt,Yu,Yv,Yw,Yx,Yy,Yz,YA,YB,YC,YD,YE,YF,YG,YH,YI,YJ,YK,YL,YM,YN,YO,YP,YQ,YR,YS,YT, len_LE, len_LN, c1', c2', g0, i0, q1, q2, c3']))
    exact stop hI
  have c3' : ¬ (xs.length : Int) ≤ ((a + 1 + l : Nat) : Int) := by omega
  rw [List.getElem?_eq_getElem c3] at hI
  simp only at hI
  have hcut : (Pr.cut [ku8] .i64 .i64).eval [LN xs, .i ((a + 1 : Nat) : Int), .i ((a + 1 + l : Nat) : Int)] = some (LN ((xs.drop (a + 1)).take l)) := by
    rw [cut_LN (by omega) (by omega), show a + 1 + l - (a + 1) = l by omega]
  have hsx : ∀ x ∈ (xs.drop (a + 1)).take l, x < 256 := fun x hxx => hx x (List.mem_of_mem_drop (List.mem_of_mem_take hxx))
  have hsl : ((xs.drop (a + 1)).take l).length ≤ 255 := by rw [List.length_take]; omega
  generalize (xs.drop (a + 1)).take l = b at hI hcut hsx hsl
  have hrd := f22 b (by omega) hsx
  (repeat (first | simp (disch := omega) only [wrap64, wrapU32, wrapU64, wrapU8] | simp only [Ja,Jb,Jc,Jd,Je,Jf,Jg,Jh,Ji,Jj,Jk,Jl,Jm,Jn,Jo,Jp,Jq,Jr,Js,Jt,Ju,Jv,Jw,envA,lensOf,Jx,Jy,Jz,JA,JB,JC,JD,JE,JF,JG,JH,JI,JJ,JK,JL,JM,JN,JO,JP,JQ,JR,JS,JT,JU,JV,JW,↓reduceIte,if_true,reduceCtorEq,Nat.reduceEqDiff,JX,JY,JZ,J0,J1,J2,J3,J4,J5,J6,J7,Ya,Yb,Yc,Yd,Ye,Yf,Int.cast_ofNat_Int,Yg,Yh,Int.reduceLT,Int.reduceLE,Int.reduceEq,Int.reduceAdd,Int.reduceMul,Int.reduceSub,Int.reduceNeg,Yi,Yj,Yk,Yl,Ym,Yn,Yo,Yp,Yq,Yr,Ys,Yt,Yu,Yv,Yw,Yx,Yy,Yz,YA,YB,YC,YD,YE,YF,YG,YH,YI,YJ,YK,YL,YM,YN,YO,YP,YQ,YR,YS,YT, len_LE, len_LN, c1', c2', g0, i0, q1, q2, c3', hcut]))
  refine WC.mk hrd ?_
  cases he : erd b with
  | none =>
    rw [he] at hI
    (repeat (first | simp (disch := omega) only [wrap64, wrapU32, wrapU64, wrapU8] | simp only [Ja,Jb,Jc,Jd,Je,Jf,Jg,Jh,Ji,Jj,Jk,Jl,Jm,Jn,Jo,Jp,Jq,Jr,Js,Jt,Ju,Jv,Jw,envA,lensOf,Jx,Jy,Jz,JA,JB,JC,JD,JE,JF,JG,JH,JI,JJ,JK,JL,JM,JN,JO,JP,JQ,JR,JS,JT,JU,JV,JW,↓reduceIte,if_true,reduceCtorEq,Nat.reduceEqDiff,JX,JY,JZ,J0,J1,J2,J3,J4,J5,J6,J7,Ya,Yb,Yc,Yd,Ye,Yf,Int.cast_ofNat_Int,Yg,Yh,Int.reduceLT,Int.reduceLE,Int.reduceEq,Int.reduceAdd,Int.reduceMul,Int.reduceSub,Int.reduceNeg,Yi,Yj,Yk,Yl,Ym,Yn,Yo,Yp,Yq,Yr,Ys,Yt,Yu,Yv,Yw,Yx,Yy,Yz,YA,YB,YC,YD,YE,YF,YG,YH,YI,YJ,YK,YL,YM,YN,YO,YP,YQ,YR,YS,YT, erR, len_LI, len_LE]))
    exact stop hI
  | some e =>
    rw [he] at hI
    simp only at hI
    obtain ⟨k, w, n, rk, vs⟩ := e
    have hsum := f23 b (by omega) hsx
    have g1 := get_LN (k := .u8) c3
    have i1 := ixc_N (k := .i64) c3
    have hz := hx _ (List.getElem_mem c3)
    generalize xs[a + 1 + l] = z at hI g1 hz
    (repeat (first | simp (disch := omega) only [wrap64, wrapU32, wrapU64, wrapU8] | simp only [Ja,Jb,Jc,Jd,Je,Jf,Jg,Jh,Ji,Jj,Jk,Jl,Jm,Jn,Jo,Jp,Jq,Jr,Js,Jt,Ju,Jv,Jw,envA,lensOf,Jx,Jy,Jz,JA,JB,JC,JD,JE,JF,JG,JH,JI,JJ,JK,JL,JM,JN,JO,JP,JQ,JR,JS,JT,JU,JV,JW,↓reduceIte,if_true,reduceCtorEq,Nat.reduceEqDiff,JX,JY,JZ,J0,J1,J2,J3,J4,J5,J6,J7,Ya,Yb,Yc,Yd,Ye,Yf,Int.cast_ofNat_Int,Yg,Yh,Int.reduceLT,Int.reduceLE,Int.reduceEq,Int.reduceAdd,Int.reduceMul,Int.reduceSub,Int.reduceNeg,Yi,Yj,Yk,Yl,Ym,Yn,Yo,Yp,Yq,Yr,Ys,Yt,Yu,Yv,Yw,Yx,Yy,Yz,YA,YB,YC,YD,YE,YF,YG,YH,YI,YJ,YK,YL,YM,YN,YO,YP,YQ,YR,YS,YT, erR, Ev.ds, len_LI, len_LE, g1, i1]))
    refine WC.mk hsum ?_
    by_cases c4 : b.sum % 251 = z
    · rw [if_pos c4] at hI
      have c4' : ((b.sum % 251 : Nat) : Int) = (z : Int) := by omega
      have hmk := mk_LE (k := k) (w := w) (n := n) (rk := rk) (vs := vs)
      simp only [Pr.eval] at hmk
      have hap := app_LE1 (es := es) (e := ⟨k, w, n, rk, vs⟩) (by omega)
      have q3 : ((a + 1 + l : Nat) : Int) + 1 = ((a + l + 2 : Nat) : Int) := by omega
      (repeat (first | simp (disch := omega) only [wrap64, wrapU32, wrapU64, wrapU8] | simp only [Ja,Jb,Jc,Jd,Je,Jf,Jg,Jh,Ji,Jj,Jk,Jl,Jm,Jn,Jo,Jp,Jq,Jr,Js,Jt,Ju,Jv,Jw,envA,lensOf,Jx,Jy,Jz,JA,JB,JC,JD,JE,JF,JG,JH,JI,JJ,JK,JL,JM,JN,JO,JP,JQ,JR,JS,JT,JU,JV,JW,↓reduceIte,if_true,reduceCtorEq,Nat.reduceEqDiff,JX,JY,JZ,J0,J1,J2,J3,J4,J5,J6,J7,Ya,Yb,Yc,Yd,Ye,Yf,Int.cast_ofNat_Int,Yg,Yh,Int.reduceLT,Int.reduceLE,Int.reduceEq,Int.reduceAdd,Int.reduceMul,Int.reduceSub,Int.reduceNeg,Yi,Yj,Yk,Yl,Ym,Yn,Yo,Yp,Yq,Yr,Ys,Yt,Yu,Yv,Yw,Yx,Yy,Yz,YA,YB,YC,YD,YE,YF,YG,YH,YI,YJ,YK,YL,YM,YN,YO,YP,YQ,YR,YS,YT, len_LI, len_LE, c4']))
      rw [Option.some.inj hmk, hap]
      (repeat (first | simp (disch := omega) only [wrap64, wrapU32, wrapU64, wrapU8] | simp only [Ja,Jb,Jc,Jd,Je,Jf,Jg,Jh,Ji,Jj,Jk,Jl,Jm,Jn,Jo,Jp,Jq,Jr,Js,Jt,Ju,Jv,Jw,envA,lensOf,Jx,Jy,Jz,JA,JB,JC,JD,JE,JF,JG,JH,JI,JJ,JK,JL,JM,JN,JO,JP,JQ,JR,JS,JT,JU,JV,JW,↓reduceIte,if_true,reduceCtorEq,Nat.reduceEqDiff,JX,JY,JZ,J0,J1,J2,J3,J4,J5,J6,J7,Ya,Yb,Yc,Yd,Ye,Yf,Int.cast_ofNat_Int,Yg,Yh,Int.reduceLT,Int.reduceLE,Int.reduceEq,Int.reduceAdd,Int.reduceMul,Int.reduceSub,Int.reduceNeg,Yi,Yj,Yk,Yl,Ym,Yn,Yo,Yp,Yq,Yr,Ys,Yt,Yu,Yv,Yw,Yx,Yy,Yz,YA,YB,YC,YD,YE,YF,YG,YH,YI,YJ,YK,YL,YM,YN,YO,YP,YQ,YR,YS,YT, len_LI, len_LE, q3]))
      refine ⟨(a + l + 2, es ++ [⟨k, w, n, rk, vs⟩]), ⟨?_, by simp; omega, by simp only; omega⟩, by simp; omega, by simp⟩
      simp only [List.length_append, List.length_singleton]
      rw [show 400 - (es.length + 1) = f by omega]
      exact hI
    · rw [if_neg c4] at hI
      have c4' : ¬ ((b.sum % 251 : Nat) : Int) = (z : Int) := by omega
      (repeat (first | simp (disch := omega) only [wrap64, wrapU32, wrapU64, wrapU8] | simp only [Ja,Jb,Jc,Jd,Je,Jf,Jg,Jh,Ji,Jj,Jk,Jl,Jm,Jn,Jo,Jp,Jq,Jr,Js,Jt,Ju,Jv,Jw,envA,lensOf,Jx,Jy,Jz,JA,JB,JC,JD,JE,JF,JG,JH,JI,JJ,JK,JL,JM,JN,JO,JP,JQ,JR,JS,JT,JU,JV,JW,↓reduceIte,if_true,reduceCtorEq,Nat.reduceEqDiff,JX,JY,JZ,J0,J1,J2,J3,J4,J5,J6,J7,Ya,Yb,Yc,Yd,Ye,Yf,Int.cast_ofNat_Int,Yg,Yh,Int.reduceLT,Int.reduceLE,Int.reduceEq,Int.reduceAdd,Int.reduceMul,Int.reduceSub,Int.reduceNeg,Yi,Yj,Yk,Yl,Ym,Yn,Yo,Yp,Yq,Yr,Ys,Yt,Yu,Yv,Yw,Yx,Yy,Yz,YA,YB,YC,YD,YE,YF,YG,YH,YI,YJ,YK,YL,YM,YN,YO,YP,YQ,YR,YS,YT, len_LI, len_LE, c4']))
      exact stop hI
theorem f25 (xs : List Nat) (hl : xs.length < 2305843009213693952) (hx : ∀ x ∈ xs, x < 256) : EvF fes 25 [LN xs] [.i ((lrd xs).1 : Nat), LE (lrd xs).2] := by
  have h := f24 xs hl hx
  refine EvF.w (fe := e25) (t := t25) rfl rfl ?_
  rw [show envA e25.sig [LN xs] = [LN xs] from rfl]
  simp only [Ja,Jb,Jc,Jd,Je,Jf,Jg,Jh,Ji,Jj,Jk,Jl,Jm,Jn,Jo,Jp,Jq,Jr,Js,Jt,Ju,Jv,Jw,envA,lensOf,Jx,Jy,Jz,JA,JB,JC,JD,JE,JF,JG,JH,JI,JJ,JK,JL,JM,JN,JO,JP,JQ,JR,JS,JT,JU,JV,JW,↓reduceIte,if_true,reduceCtorEq,Nat.reduceEqDiff,JX,JY,JZ,J0,J1,J2,J3,J4,J5,J6,J7,Ya,Yb,Yc,Yd,Ye,Yf,Int.cast_ofNat_Int,Yg,Yh,Int.reduceLT,Int.reduceLE,Int.reduceEq,Int.reduceAdd,Int.reduceMul,Int.reduceSub,Int.reduceNeg,Yi,Yj,Yk,Yl,Ym,Yn,Yo,Yp,Yq,Yr,Ys,Yt,Yu,Yv,Yw,Yx,Yy,Yz,YA,YB,YC,YD,YE,YF,YG,YH,YI,YJ,YK,YL,YM,YN,YO,YP,YQ,YR,YS,YT, t25]
  refine WC.mk h ?_
  simp only [Ja,Jb,Jc,Jd,Je,Jf,Jg,Jh,Ji,Jj,Jk,Jl,Jm,Jn,Jo,Jp,Jq,Jr,Js,Jt,Ju,Jv,Jw,envA,lensOf,Jx,Jy,Jz,JA,JB,JC,JD,JE,JF,JG,JH,JI,JJ,JK,JL,JM,JN,JO,JP,JQ,JR,JS,JT,JU,JV,JW,↓reduceIte,if_true,reduceCtorEq,Nat.reduceEqDiff,JX,JY,JZ,J0,J1,J2,J3,J4,J5,J6,J7,Ya,Yb,Yc,Yd,Ye,Yf,Int.cast_ofNat_Int,Yg,Yh,Int.reduceLT,Int.reduceLE,Int.reduceEq,Int.reduceAdd,Int.reduceMul,Int.reduceSub,Int.reduceNeg,Yi,Yj,Yk,Yl,Ym,Yn,Yo,Yp,Yq,Yr,Ys,Yt,Yu,Yv,Yw,Yx,Yy,Yz,YA,YB,YC,YD,YE,YF,YG,YH,YI,YJ,YK,YL,YM,YN,YO,YP,YQ,YR,YS,YT, len_LE]
end Go.Proofs.Ytponfomfcmlfmaa.LogRead
