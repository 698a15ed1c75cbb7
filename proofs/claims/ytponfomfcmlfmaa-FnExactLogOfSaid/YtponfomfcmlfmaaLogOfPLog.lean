/- Logs: what reading one gives; a record read back. -/
import Derived.Test.YtponfomfcmlfmaaLogOfPErd
set_option linter.unusedVariables false
set_option linter.unusedSimpArgs false
namespace Go.Proofs.Ytponfomfcmlfmaa.LogOf
open Go.BH
set_option maxRecDepth 100000
abbrev EK : List CK := [ki64, ki64, ki64, ki64, .sl [ki64]]
def LE (es : List Ev) : D := .l (es.map fun e => .l e.ds)
theorem len_LE {es : List Ev} : (Pr.len EK).eval [LE es] = some (.i es.length) := by simp [LE]
theorem get_LE {es : List Ev} {i j : Nat} (h : i < es.length) : (Pr.get EK j).eval [LE es, .i (i : Int)] = (es[i].ds)[j]? := by
  have e : row EK (.l es[i].ds) = es[i].ds := rfl
  simp only [LE, Pr.eval]
  rw [if_neg (by omega), Int.toNat_natCast, List.getElem?_map, List.getElem?_eq_getElem h]
  simp only [Option.map_some, Option.bind_some, e]
theorem app_LE1 {es : List Ev} {e : Ev} (h : es.length < 1000000) : (Pr.app EK 56).eval [LE es, LE [e]] = some (LE (es ++ [e])) := by
  simp only [LE, Pr.eval]
  rw [if_pos (by simp; omega)]
  simp
theorem mk_LE {k w n rk : Int} {vs : List Int} : (Pr.mk EK 1).eval [.i k, .i w, .i n, .i rk, LI vs] = some (LE [⟨k, w, n, rk, vs⟩]) := rfl
theorem sum_byte : ∀ {xs : List Nat}, (∀ x ∈ xs, x < 256) → xs.sum ≤ 255 * xs.length
  | [], _ => by simp
  | x :: r, h => by
    have h1 := h x List.mem_cons_self
    have h2 := sum_byte (xs := r) (fun y hy => h y (List.mem_cons_of_mem _ hy))
    simp only [List.sum_cons, List.length_cons]
    omega
theorem f25 (xs : List Nat) (hl : xs.length < 1000000) (hx : ∀ x ∈ xs, x < 256) : EvF fes 25 [LN xs] [.i ((xs.sum % 251 : Nat) : Int)] := by
  refine EvF.w (fe := e25) (t := t25) rfl rfl ?_
  rw [show envA e25.sig [LN xs] = [LN xs] from rfl]
  simp only [Ja,Jb,Jc,Jd,Je,Jf,Jg,Jh,Ji,Jj,Jk,Jl,Jm,Jn,Jo,Jp,Jq,Jr,Js,Jt,Ju,Jv,Jw,envA,lensOf,Jx,Jy,Jz,JA,JB,JC,JD,JE,JF,JG,JH,JI,JJ,JK,JL,JM,JN,JO,JP,JQ,JR,JS,JT,JU,JV,JW,↓reduceIte,if_true,reduceCtorEq,Nat.reduceEqDiff,JX,JY,JZ,J0,J1,J2,J3,J4,J5,J6,J7,Ya,Yb,Yc,Yd,Ye,Yf,Int.cast_ofNat_Int,Yg,Yh,Int.reduceLT,Int.reduceLE,Int.reduceEq,Int.reduceAdd,Int.reduceMul,Int.reduceSub,Int.reduceNeg,Yi,Yj,Yk,Yl,Ym,Yn,Yo,Yp,Yq,Yr,Ys,Yt,Yu,Yv,Yw,Yx,Yy,Yz,YA,YB,YC,YD,YE,YF,YG,YH,YI,YJ,YK,YL,YM,YN,YO,YP,YQ,YR,YS,YT, t25]
  refine LW.cnt xs.length (fun j => [.i ((xs.take j).sum : Nat), .i (j : Nat)]) (fun j hj => ?_) ?_ (by simp)
  · have hj' : (j : Int) < xs.length := by omega
    have hs : (xs.take (j + 1)).sum = (xs.take j).sum + xs[j] := by
      rw [List.take_add_one, List.getElem?_eq_getElem hj, List.sum_append]
      simp only [Option.toList_some, List.sum_cons, List.sum_nil, Nat.add_zero]
    have hb1 := sum_byte (xs := xs.take j) (fun x h => hx x (List.mem_of_mem_take h))
    rw [List.length_take] at hb1
    have hw := hx _ (List.getElem_mem hj)
    (repeat (first | simp (disch := omega) only [wrap64, wrapU32, wrapU64, wrapU8] | simp only [Ja,Jb,Jc,Jd,Je,Jf,Jg,Jh,Ji,Jj,Jk,Jl,Jm,Jn,Jo,Jp,Jq,Jr,Js,Jt,Ju,Jv,Jw,envA,lensOf,Jx,Jy,Jz,JA,JB,JC,JD,JE,JF,JG,JH,JI,JJ,JK,JL,JM,JN,JO,JP,JQ,JR,JS,JT,JU,JV,JW,↓reduceIte,if_true,reduceCtorEq,Nat.reduceEqDiff,JX,JY,JZ,J0,J1,J2,J3,J4,J5,J6,J7,Ya,Yb,Yc,Yd,Ye,Yf,Int.cast_ofNat_Int,Yg,Yh,Int.reduceLT,Int.reduceLE,Int.reduceEq,Int.reduceAdd,Int.reduceMul,Int.reduceSub,Int.reduceNeg,Yi,Yj,Yk,Yl,Ym,Yn,Yo,Yp,Yq,Yr,Ys,Yt,Yu,Yv,Yw,Yx,Yy,Yz,YA,YB,YC,YD,YE,YF,YG,YH,YI,YJ,YK,YL,YM,YN,YO,YP,YQ,YR,YS,YT, hj', ixc_N hj, get_LN hj]))
    rw [hs]
    simp only [Int.natCast_add]
    rfl
  · have hj' : ¬ (xs.length : Int) < xs.length := by omega
    have m : ((xs.sum : Nat) : Int).tmod 251 = ((xs.sum % 251 : Nat) : Int) := rfl
    have z : ¬ (251 : Int) = 0 := by omega
    rw [List.take_length]
    (repeat (first | simp (disch := omega) only [wrap64, wrapU32, wrapU64, wrapU8] | simp only [Ja,Jb,Jc,Jd,Je,Jf,Jg,Jh,Ji,Jj,Jk,Jl,Jm,Jn,Jo,Jp,Jq,Jr,Js,Jt,Ju,Jv,Jw,envA,lensOf,Jx,Jy,Jz,JA,JB,JC,JD,JE,JF,JG,JH,JI,JJ,JK,JL,JM,JN,JO,JP,JQ,JR,JS,JT,JU,JV,JW,↓reduceIte,if_true,reduceCtorEq,Nat.reduceEqDiff,JX,JY,JZ,J0,J1,J2,J3,J4,J5,J6,J7,Ya,Yb,Yc,Yd,Ye,Yf,Int.cast_ofNat_Int,Yg,Yh,Int.reduceLT,Int.reduceLE,Int.reduceEq,Int.reduceAdd,Int.reduceMul,Int.reduceSub,Int.reduceNeg,Yi,Yj,Yk,Yl,Ym,Yn,Yo,Yp,Yq,Yr,Ys,Yt,Yu,Yv,Yw,Yx,Yy,Yz,YA,YB,YC,YD,YE,YF,YG,YH,YI,YJ,YK,YL,YM,YN,YO,YP,YQ,YR,YS,YT, hj', m, z]))
/-! ### reading a log -/
def lgo (xs : List Nat) : Nat → Nat → List Ev → Nat × List Ev
  | 0, a, es => (a, es)
  | f + 1, a, es => match xs[a]? with
    | none => (a, es)
    | some l => match xs[a + 1 + l]? with
      | none => (a, es)
      | some z => match erd ((xs.drop (a + 1)).take l) with
        | none => (a, es)
        | some e => if ((xs.drop (a + 1)).take l).sum % 251 = z then lgo xs f (a + l + 2) (es ++ [e]) else (a, es)
def lrd (xs : List Nat) : Nat × List Ev := lgo xs 400 0 []
end Go.Proofs.Ytponfomfcmlfmaa.LogOf
