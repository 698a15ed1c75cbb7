/- Records of a log. -/
import Derived.Test.YtponfomfcmlfmaaLogOfPLog
set_option linter.unusedVariables false
set_option linter.unusedSimpArgs false
namespace Go.Proofs.Ytponfomfcmlfmaa.LogOf
open Go.BH
set_option maxRecDepth 100000
def rcd (b : List Nat) : List Nat := b.length :: (b ++ [b.sum % 251])
theorem rcd_len (b : List Nat) : (rcd b).length = b.length + 2 := by simp [rcd]
theorem f12 (xs : List Nat) (hl : xs.length < 256) (hx : ∀ x ∈ xs, x < 256) : EvF fes 12 [LN xs] [LN (rcd xs)] := by
  refine EvF.w (fe := e12) (t := t12) rfl rfl ?_
  rw [show envA e12.sig [LN xs] = [LN xs] from rfl]
  simp only [Ja,Jb,Jc,Jd,Je,Jf,Jg,Jh,Ji,Jj,Jk,Jl,Jm,Jn,Jo,Jp,Jq,Jr,Js,Jt,Ju,Jv,Jw,envA,lensOf,Jx,Jy,Jz,JA,JB,JC,JD,JE,JF,JG,JH,JI,JJ,JK,JL,JM,JN,JO,JP,JQ,JR,JS,JT,JU,JV,JW,↓reduceIte,if_true,reduceCtorEq,Nat.reduceEqDiff,JX,JY,JZ,J0,J1,J2,J3,J4,J5,J6,J7,Ya,Yb,Yc,Yd,Ye,Yf,Int.cast_ofNat_Int,Yg,Yh,Int.reduceLT,Int.reduceLE,Int.reduceEq,Int.reduceAdd,Int.reduceMul,Int.reduceSub,Int.reduceNeg,Yi,Yj,Yk,Yl,Ym,Yn,Yo,Yp,Yq,Yr,Ys,Yt,Yu,Yv,Yw,Yx,Yy,Yz,YA,YB,YC,YD,YE,YF,YG,YH,YI,YJ,YK,YL,YM,YN,YO,YP,YQ,YR,YS,YT, t12]
  refine LW.cnt xs.length (fun j => [.i ((xs.take j).sum : Nat), .i (j : Nat)]) (fun j hj => ?_) ?_ (by simp)
  · have hj' : (j : Int) < xs.length := by omega
    have hs : (xs.take (j + 1)).sum = (xs.take j).sum + xs[j] := by
      rw [List.take_add_one, List.getElem?_eq_getElem hj, List.sum_append]
      simp only [Option.toList_some, List.sum_cons, List.sum_nil, Nat.add_zero]
    have hb1 := sum_byte (xs := xs.take j) (fun x h => hx x (List.mem_of_mem_take h))
    rw [List.length_take] at hb1
    have hw := hx _ (List.getElem_mem hj)
    (repeat (first | simp (disch := omega) only [wrap64, wrapU32, wrapU64, wrapU8] | simp only [Ja,Jb,Jc,Jd,Je,Jf,Jg,Jh,Ji,Jj,Jk,Jl,Jm,Jn,Jo,Jp,Jq,Jr,Js,Jt,Ju,Jv,Jw,envA,lensOf,Jx,Jy,Jz,JA,JB,JC,JD,JE,JF,JG,JH,JI,JJ,JK,JL,JM,JN,JO,JP,JQ,JR,JS,JT,JU,JV,JW,↓reduceIte,if_true,reduceCtorEq,Nat.reduceEqDiff,JX,JY,JZ,J0,J1,J2,J3,J4,J5,J6,J7,Ya,Yb,Yc,Yd,Ye,Yf,Int.cast_ofNat_Int,Yg,Yh,Int.reduceLT,Int.reduceLE,Int.reduceEq,Int.reduceAdd,Int.reduceMul,Int.reduceSub,Int.reduceNeg,Yi,Yj,Yk,Yl,Ym,Yn,Yo,Yp,Yq,Yr,Ys,Yt,Yu,Yv,Yw,Yx,Yy,Yz,YA,YB,YC,YD,YE,YF,YG,YH,YI,YJ,YK,YL,YM,YN,YO,YP,YQ,YR,YS,YT, len_LN, hj', ixc_N hj, get_LN hj]))
    rw [hs]
    simp only [Int.natCast_add]
    rfl
  · have hj' : ¬ (xs.length : Int) < xs.length := by omega
    have m : ((xs.sum : Nat) : Int).tmod 251 = ((xs.sum % 251 : Nat) : Int) := rfl
    have z : ¬ (251 : Int) = 0 := by omega
    have hm := Nat.mod_lt xs.sum (show 251 > 0 by omega)
    rw [List.take_length]
    have a1 : (Pr.app [ku8] 1).eval [LN [xs.length], LN xs] = some (LN (xs.length :: xs)) := app_LN (xs := [xs.length]) (by omega) (by simp; omega)
    have a2 : (Pr.app [ku8] 1).eval [LN (xs.length :: xs), LN [xs.sum % 251]] = some (LN (rcd xs)) := app_LN (xs := xs.length :: xs) (ys := [xs.sum % 251]) (by omega) (by simp; omega)
    have q1 : D.l [D.i (xs.length : Int)] = LN [xs.length] := rfl
    have q2 : D.l [D.i ((xs.sum % 251 : Nat) : Int)] = LN [xs.sum % 251] := rfl
    (repeat (first | simp (disch := omega) only [wrap64, wrapU32, wrapU64, wrapU8] | simp only [Ja,Jb,Jc,Jd,Je,Jf,Jg,Jh,Ji,Jj,Jk,Jl,Jm,Jn,Jo,Jp,Jq,Jr,Js,Jt,Ju,Jv,Jw,envA,lensOf,Jx,Jy,Jz,JA,JB,JC,JD,JE,JF,JG,JH,JI,JJ,JK,JL,JM,JN,JO,JP,JQ,JR,JS,JT,JU,JV,JW,↓reduceIte,if_true,reduceCtorEq,Nat.reduceEqDiff,JX,JY,JZ,J0,J1,J2,J3,J4,J5,J6,J7,Ya,Yb,Yc,Yd,Ye,Yf,Int.cast_ofNat_Int,Yg,Yh,Int.reduceLT,Int.reduceLE,Int.reduceEq,Int.reduceAdd,Int.reduceMul,Int.reduceSub,Int.reduceNeg,Yi,Yj,Yk,Yl,Ym,Yn,Yo,Yp,Yq,Yr,Ys,Yt,Yu,Yv,Yw,Yx,Yy,Yz,YA,YB,YC,YD,YE,YF,YG,YH,YI,YJ,YK,YL,YM,YN,YO,YP,YQ,YR,YS,YT, len_LN, hj', q1, a1, m, z, q2, a2]))
theorem erd_some {b : List Nat} {e : Ev} (hx : ∀ x ∈ b, x < 256) (h : erd b = some e) : e.ok = true ∧ e.by = b ∧ e.vs.length ≤ 8 := by
  unfold erd at h
  split at h
  · cases h
  · rename_i e' a he
    split at h
    · rename_i hc
      cases h
      obtain ⟨h1, h2, h3⟩ := epre_spec hx he
      refine ⟨hc.2, ?_, h2⟩
      rw [h3 hc.2, hc.1, List.take_length]
    · cases h
theorem sgm3 {xs : List Nat} {a l : Nat} (h : a + 1 + l < xs.length) : (xs.drop a).take (l + 2) = (xs[a]'(by omega)) :: ((xs.drop (a + 1)).take l ++ [xs[a + 1 + l]]) := by
  rw [List.drop_eq_getElem_cons (show a < xs.length by omega), List.take_succ_cons, List.take_add_one, List.getElem?_drop, List.getElem?_eq_getElem h]
  rfl
end Go.Proofs.Ytponfomfcmlfmaa.LogOf
