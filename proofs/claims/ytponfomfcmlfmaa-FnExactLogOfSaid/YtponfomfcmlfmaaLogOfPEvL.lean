/- Lists of events: the laws' own helpers. -/
import Derived.Test.YtponfomfcmlfmaaLogOfPLog
import Derived.Test.YtponfomfcmlfmaaLogOfPEvEq
set_option linter.unusedVariables false
set_option linter.unusedSimpArgs false
namespace Go.Proofs.Ytponfomfcmlfmaa.LogOf
open Go.BH
set_option maxRecDepth 100000
theorem get_LE0 {es : List Ev} {i : Nat} (h : i < es.length) : (Pr.get EK 0).eval [LE es, .i (i : Int)] = some (.i es[i].k) := get_LE h
theorem get_LE1 {es : List Ev} {i : Nat} (h : i < es.length) : (Pr.get EK 1).eval [LE es, .i (i : Int)] = some (.i es[i].w) := get_LE h
theorem get_LE2 {es : List Ev} {i : Nat} (h : i < es.length) : (Pr.get EK 2).eval [LE es, .i (i : Int)] = some (.i es[i].n) := get_LE h
theorem get_LE3 {es : List Ev} {i : Nat} (h : i < es.length) : (Pr.get EK 3).eval [LE es, .i (i : Int)] = some (.i es[i].rk) := get_LE h
theorem get_LE4 {es : List Ev} {i : Nat} (h : i < es.length) : (Pr.get EK 4).eval [LE es, .i (i : Int)] = some (LI es[i].vs) := get_LE h
theorem f31 (es : List Ev) (hl : es.length < 4611686018427387904) (hv : ∀ e ∈ es, e.vs.length < 4611686018427387904) : EvF fes 31 [LE es, LE es] [.b true] := by
  refine EvF.w (fe := e31) (t := t31) rfl rfl ?_
  rw [show envA e31.sig [LE es, LE es] = [LE es, LE es] from rfl]
  simp only [Ja,Jb,Jc,Jd,Je,Jf,Jg,Jh,Ji,Jj,Jk,Jl,Jm,Jn,Jo,Jp,Jq,Jr,Js,Jt,Ju,Jv,Jw,envA,lensOf,Jx,Jy,Jz,JA,JB,JC,JD,JE,JF,JG,JH,JI,JJ,JK,JL,JM,JN,JO,JP,JQ,JR,JS,JT,JU,JV,JW,↓reduceIte,if_true,reduceCtorEq,Nat.reduceEqDiff,JX,JY,JZ,J0,J1,J2,J3,J4,J5,J6,J7,Ya,Yb,Yc,Yd,Ye,Yf,Int.cast_ofNat_Int,Yg,Yh,Int.reduceLT,Int.reduceLE,Int.reduceEq,Int.reduceAdd,Int.reduceMul,Int.reduceSub,Int.reduceNeg,Yi,Yj,Yk,Yl,Ym,Yn,Yo,Yp,Yq,Yr,Ys,Yt,Yu,Yv,Yw,Yx,Yy,Yz,YA,YB,YC,YD,YE,YF,YG,YH,YI,YJ,YK,YL,YM,YN,YO,YP,YQ,YR,YS,YT, t31, len_LE]
  refine LW.cnt es.length (fun j => [.i (j : Nat)]) (fun j hj => ?_) ?_ (by simp)
  · have hj' : (j : Int) < es.length := by omega
    have hq := f30 es[j].k es[j].w es[j].n es[j].rk es[j].vs (by have := hv _ (List.getElem_mem hj); omega)
    (repeat (first | simp (disch := omega) only [wrap64, wrapU32, wrapU64, wrapU8] | simp only [Ja,Jb,Jc,Jd,Je,Jf,Jg,Jh,Ji,Jj,Jk,Jl,Jm,Jn,Jo,Jp,Jq,Jr,Js,Jt,Ju,Jv,Jw,envA,lensOf,Jx,Jy,Jz,JA,JB,JC,JD,JE,JF,JG,JH,JI,JJ,JK,JL,JM,JN,JO,JP,JQ,JR,JS,JT,JU,JV,JW,↓reduceIte,if_true,reduceCtorEq,Nat.reduceEqDiff,JX,JY,JZ,J0,J1,J2,J3,J4,J5,J6,J7,Ya,Yb,Yc,Yd,Ye,Yf,Int.cast_ofNat_Int,Yg,Yh,Int.reduceLT,Int.reduceLE,Int.reduceEq,Int.reduceAdd,Int.reduceMul,Int.reduceSub,Int.reduceNeg,Yi,Yj,Yk,Yl,Ym,Yn,Yo,Yp,Yq,Yr,Ys,Yt,Yu,Yv,Yw,Yx,Yy,Yz,YA,YB,YC,YD,YE,YF,YG,YH,YI,YJ,YK,YL,YM,YN,YO,YP,YQ,YR,YS,YT, len_LE, hj', ixc_N hj, get_LE0 hj, get_LE1 hj, get_LE2 hj, get_LE3 hj, get_LE4 hj]))
    refine WC.mk hq ?_
    (repeat (first | simp (disch := omega) only [wrap64, wrapU32, wrapU64, wrapU8] | simp only [Ja,Jb,Jc,Jd,Je,Jf,Jg,Jh,Ji,Jj,Jk,Jl,Jm,Jn,Jo,Jp,Jq,Jr,Js,Jt,Ju,Jv,Jw,envA,lensOf,Jx,Jy,Jz,JA,JB,JC,JD,JE,JF,JG,JH,JI,JJ,JK,JL,JM,JN,JO,JP,JQ,JR,JS,JT,JU,JV,JW,↓reduceIte,if_true,reduceCtorEq,Nat.reduceEqDiff,JX,JY,JZ,J0,J1,J2,J3,J4,J5,J6,J7,Ya,Yb,Yc,Yd,Ye,Yf,Int.cast_ofNat_Int,Yg,Yh,Int.reduceLT,Int.reduceLE,Int.reduceEq,Int.reduceAdd,Int.reduceMul,Int.reduceSub,Int.reduceNeg,Yi,Yj,Yk,Yl,Ym,Yn,Yo,Yp,Yq,Yr,Ys,Yt,Yu,Yv,Yw,Yx,Yy,Yz,YA,YB,YC,YD,YE,YF,YG,YH,YI,YJ,YK,YL,YM,YN,YO,YP,YQ,YR,YS,YT]))
    rfl
  · have hj' : ¬ (es.length : Int) < es.length := by omega
    (repeat (first | simp (disch := omega) only [wrap64, wrapU32, wrapU64, wrapU8] | simp only [Ja,Jb,Jc,Jd,Je,Jf,Jg,Jh,Ji,Jj,Jk,Jl,Jm,Jn,Jo,Jp,Jq,Jr,Js,Jt,Ju,Jv,Jw,envA,lensOf,Jx,Jy,Jz,JA,JB,JC,JD,JE,JF,JG,JH,JI,JJ,JK,JL,JM,JN,JO,JP,JQ,JR,JS,JT,JU,JV,JW,↓reduceIte,if_true,reduceCtorEq,Nat.reduceEqDiff,JX,JY,JZ,J0,J1,J2,J3,J4,J5,J6,J7,Ya,Yb,Yc,Yd,Ye,Yf,Int.cast_ofNat_Int,Yg,Yh,Int.reduceLT,Int.reduceLE,Int.reduceEq,Int.reduceAdd,Int.reduceMul,Int.reduceSub,Int.reduceNeg,Yi,Yj,Yk,Yl,Ym,Yn,Yo,Yp,Yq,Yr,Ys,Yt,Yu,Yv,Yw,Yx,Yy,Yz,YA,YB,YC,YD,YE,YF,YG,YH,YI,YJ,YK,YL,YM,YN,YO,YP,YQ,YR,YS,YT, len_LE, hj']))
/-! ### marks -/
def mkV (k : Int) (n : Nat) : List Int := mkL (fun x => k + (x - 1)) n
theorem mkV_len (k : Int) (n : Nat) : (mkV k n).length = n := mkL_len _ n
theorem f32 (k : Int) (zs : List Int) (hk : 0 ≤ k) (hz : k + zs.length < 4611686018427387904) : EvF fes 32 [LI zs, .i k] [.i (k + zs.length), LI (mkV k zs.length)] := by
  refine EvF.w (fe := e32) (t := t32) rfl rfl ?_
  rw [show envA e32.sig [LI zs, .i k] = [LI zs, .i k, .i zs.length] by simp [e32, envA, lensOf, LI]]
  simp only [Ja,Jb,Jc,Jd,Je,Jf,Jg,Jh,Ji,Jj,Jk,Jl,Jm,Jn,Jo,Jp,Jq,Jr,Js,Jt,Ju,Jv,Jw,envA,lensOf,Jx,Jy,Jz,JA,JB,JC,JD,JE,JF,JG,JH,JI,JJ,JK,JL,JM,JN,JO,JP,JQ,JR,JS,JT,JU,JV,JW,↓reduceIte,if_true,reduceCtorEq,Nat.reduceEqDiff,JX,JY,JZ,J0,J1,J2,J3,J4,J5,J6,J7,Ya,Yb,Yc,Yd,Ye,Yf,Int.cast_ofNat_Int,Yg,Yh,Int.reduceLT,Int.reduceLE,Int.reduceEq,Int.reduceAdd,Int.reduceMul,Int.reduceSub,Int.reduceNeg,Yi,Yj,Yk,Yl,Ym,Yn,Yo,Yp,Yq,Yr,Ys,Yt,Yu,Yv,Yw,Yx,Yy,Yz,YA,YB,YC,YD,YE,YF,YG,YH,YI,YJ,YK,YL,YM,YN,YO,YP,YQ,YR,YS,YT, t32]
  refine LW.cnt zs.length (fun i => [.i (k + (i : Nat)), .i (i : Nat), .l ((mixL (fun x => k + (x - 1)) zs i).map D.i)]) (fun i hl => ?_) ?_ (by simp [mixL_zero, LI])
  · have hlen := mixL_len (f := fun x => k + (x - 1)) (Nat.le_of_lt hl)
    have h2 : (i : Int) < zs.length := by omega
    have hs := mark_step (zs := zs) (f := fun x => k + (x - 1)) (g := setRow [.int .i64] 0 (.i (k + i))) hl (fun z => by simp)
    generalize mixL (fun x => k + (x - 1)) zs i = L at hlen hs
    have hset : (Pr.set [ki64] 0).eval [.l (L.map D.i), .i (i : Int), .i (k + i)] = some (.l ((mixL (fun x => k + (x - 1)) zs (i + 1)).map D.i)) := by
      rw [ev_set, if_pos (by rw [List.length_map, hlen]; omega), Int.toNat_natCast, hs]
    have hlen' := mixL_len (f := fun x => k + (x - 1)) (zs := zs) (i := i + 1) (by omega)
    (repeat (first | simp (disch := omega) only [wrap64, wrapU32, wrapU64, wrapU8] | simp only [Ja,Jb,Jc,Jd,Je,Jf,Jg,Jh,Ji,Jj,Jk,Jl,Jm,Jn,Jo,Jp,Jq,Jr,Js,Jt,Ju,Jv,Jw,envA,lensOf,Jx,Jy,Jz,JA,JB,JC,JD,JE,JF,JG,JH,JI,JJ,JK,JL,JM,JN,JO,JP,JQ,JR,JS,JT,JU,JV,JW,↓reduceIte,if_true,reduceCtorEq,Nat.reduceEqDiff,JX,JY,JZ,J0,J1,J2,J3,J4,J5,J6,J7,Ya,Yb,Yc,Yd,Ye,Yf,Int.cast_ofNat_Int,Yg,Yh,Int.reduceLT,Int.reduceLE,Int.reduceEq,Int.reduceAdd,Int.reduceMul,Int.reduceSub,Int.reduceNeg,Yi,Yj,Yk,Yl,Ym,Yn,Yo,Yp,Yq,Yr,Ys,Yt,Yu,Yv,Yw,Yx,Yy,Yz,YA,YB,YC,YD,YE,YF,YG,YH,YI,YJ,YK,YL,YM,YN,YO,YP,YQ,YR,YS,YT, List.length_map, hlen, h2, ixc_N hl, hset, hlen']))
    have e1 : k + (i : Int) + 1 = k + ((i + 1 : Nat) : Int) := by omega
    have e2 : (i : Int) + 1 = ((i + 1 : Nat) : Int) := by omega
    rw [e1, e2]
  · have h2 : ¬ (zs.length : Int) < zs.length := by omega
    (repeat (first | simp (disch := omega) only [wrap64, wrapU32, wrapU64, wrapU8] | simp only [Ja,Jb,Jc,Jd,Je,Jf,Jg,Jh,Ji,Jj,Jk,Jl,Jm,Jn,Jo,Jp,Jq,Jr,Js,Jt,Ju,Jv,Jw,envA,lensOf,Jx,Jy,Jz,JA,JB,JC,JD,JE,JF,JG,JH,JI,JJ,JK,JL,JM,JN,JO,JP,JQ,JR,JS,JT,JU,JV,JW,↓reduceIte,if_true,reduceCtorEq,Nat.reduceEqDiff,JX,JY,JZ,J0,J1,J2,J3,J4,J5,J6,J7,Ya,Yb,Yc,Yd,Ye,Yf,Int.cast_ofNat_Int,Yg,Yh,Int.reduceLT,Int.reduceLE,Int.reduceEq,Int.reduceAdd,Int.reduceMul,Int.reduceSub,Int.reduceNeg,Yi,Yj,Yk,Yl,Ym,Yn,Yo,Yp,Yq,Yr,Ys,Yt,Yu,Yv,Yw,Yx,Yy,Yz,YA,YB,YC,YD,YE,YF,YG,YH,YI,YJ,YK,YL,YM,YN,YO,YP,YQ,YR,YS,YT, mixL_all, List.length_map, mkL_len, h2]))
    rfl
def mkE (k : Int) (e : Ev) : Ev := ⟨k, k + 1, k + 2, k + 3, mkV (k + 4) e.vs.length⟩
def szE (e : Ev) : Int := 4 + e.vs.length
def mkEs : Int → List Ev → List Ev
  | _, [] => []
  | k, e :: r => mkE k e :: mkEs (k + szE e) r
def endE : Int → List Ev → Int
  | k, [] => k
  | k, e :: r => endE (k + szE e) r
def mixE (k : Int) (es : List Ev) (i : Nat) : List Ev := (mkEs k es).take i ++ es.drop i
theorem mkEs_len : ∀ (k : Int) (es : List Ev), (mkEs k es).length = es.length
  | _, [] => rfl
  | k, e :: r => by simp [mkEs, mkEs_len _ r]
theorem mixE_len (k : Int) (es : List Ev) (i : Nat) : (mixE k es i).length = es.length := by
  simp only [mixE, List.length_append, List.length_take, List.length_drop, mkEs_len]
  omega
theorem mixE_zero (k : Int) (es : List Ev) : mixE k es 0 = es := by simp [mixE]
theorem mixE_all (k : Int) (es : List Ev) : mixE k es es.length = mkEs k es := by
  have := mkEs_len k es
  simp [mixE, List.take_of_length_le (show (mkEs k es).length ≤ es.length by omega)]
theorem mixE_at : ∀ {k : Int} {es : List Ev} {i : Nat} (h : i < es.length), (mixE k es i)[i]? = some es[i]
  | k, e :: r, 0, h => by simp [mixE]
  | k, e :: r, i + 1, h => by
    have := mixE_at (k := k + szE e) (es := r) (i := i) (by simpa using h)
    simpa [mixE, mkEs] using this
theorem mixE_set : ∀ {k : Int} {es : List Ev} {i : Nat} (h : i < es.length), (mixE k es i).set i (mkE (endE k (es.take i)) es[i]) = mixE k es (i + 1)
  | k, e :: r, 0, h => by simp [mixE, mkEs, endE]
  | k, e :: r, i + 1, h => by
    have := mixE_set (k := k + szE e) (es := r) (i := i) (by simpa using h)
    simpa [mixE, mkEs, endE] using this
theorem endE_take : ∀ {k : Int} {es : List Ev} {i : Nat} (h : i < es.length), endE k (es.take (i + 1)) = endE k (es.take i) + szE es[i]
  | k, e :: r, 0, h => by simp [endE]
  | k, e :: r, i + 1, h => by
    have := endE_take (k := k + szE e) (es := r) (i := i) (by simpa using h)
    simpa [endE] using this
theorem szE_pos (e : Ev) : 4 ≤ szE e := by unfold szE; omega
theorem endE_mono : ∀ {k : Int} {es : List Ev} {i : Nat}, k ≤ endE k (es.take i) ∧ endE k (es.take i) ≤ endE k es
  | k, [], i => by simp [endE]
  | k, e :: r, 0 => by
    have h1 := endE_mono (k := k + szE e) (es := r) (i := 0)
    have h2 := szE_pos e
    simp only [List.take_zero, endE] at h1 ⊢
    omega
  | k, e :: r, i + 1 => by
    have h1 := endE_mono (k := k + szE e) (es := r) (i := i)
    have h2 := szE_pos e
    simp only [List.take_succ_cons, endE] at h1 ⊢
    omega
theorem set_LE {es : List Ev} {i j : Nat} {d : D} (h : i < es.length) (e' : Ev) (he : ∀ e, es[i]? = some e → setRow EK j d (.l e.ds) = .l e'.ds) : (Pr.set EK j).eval [LE es, .i (i : Int), d] = some (LE (es.set i e')) := by
  simp only [LE]
  rw [ev_set, if_pos (by simp; omega), Int.toNat_natCast]
  congr 2
  refine List.ext_getElem? (fun q => ?_)
  rw [List.getElem?_modify, List.getElem?_map, List.getElem?_map, List.getElem?_set]
  by_cases hq : i = q
  · subst hq
    rw [List.getElem?_eq_getElem h]
    simp only [if_true, h, Option.map_some, Option.map_eq_map, he _ (List.getElem?_eq_getElem h)]
  · simp only [hq, if_false]
    cases es[q]? <;> simp
theorem f33 (es : List Ev) (k : Int) (hk : 0 ≤ k) (hl : endE k es < 4611686018427387904) (hlen : es.length < 4611686018427387904) : EvF fes 33 [LE es, .i k] [.i (endE k es), LE (mkEs k es)] := by
  refine EvF.w (fe := e33) (t := t33) rfl rfl ?_
  rw [show envA e33.sig [LE es, .i k] = [LE es, .i k, .i es.length] by simp [e33, envA, lensOf, LE]]
  simp only [Ja,Jb,Jc,Jd,Je,Jf,Jg,Jh,Ji,Jj,Jk,Jl,Jm,Jn,Jo,Jp,Jq,Jr,Js,Jt,Ju,Jv,Jw,envA,lensOf,Jx,Jy,Jz,JA,JB,JC,JD,JE,JF,JG,JH,JI,JJ,JK,JL,JM,JN,JO,JP,JQ,JR,JS,JT,JU,JV,JW,↓reduceIte,if_true,reduceCtorEq,Nat.reduceEqDiff,JX,JY,JZ,J0,J1,J2,J3,J4,J5,J6,J7,Ya,Yb,Yc,Yd,Ye,Yf,Int.cast_ofNat_Int,Yg,Yh,Int.reduceLT,Int.reduceLE,Int.reduceEq,Int.reduceAdd,Int.reduceMul,Int.reduceSub,Int.reduceNeg,Yi,Yj,Yk,Yl,Ym,Yn,Yo,Yp,Yq,Yr,Ys,Yt,Yu,Yv,Yw,Yx,Yy,Yz,YA,YB,YC,YD,YE,YF,YG,YH,YI,YJ,YK,YL,YM,YN,YO,YP,YQ,YR,YS,YT, t33]
  refine LW.cnt es.length (fun i => [.i (endE k (es.take i)), .i (i : Nat), LE (mixE k es i)]) (fun i hi => ?_) ?_ (by simp [mixE_zero, endE])
  · have hi' : (i : Int) < es.length := by omega
    have b1 := endE_mono (k := k) (es := es) (i := i)
    have b2 := endE_mono (k := k) (es := es) (i := i + 1)
    have hT := endE_take (k := k) hi
    rw [hT] at b2 ⊢
    have hat := mixE_at (k := k) hi
    have hst := mixE_set (k := k) hi
    have hML := mixE_len k es i
    generalize endE k (es.take i) = q at b1 b2 hst
    generalize mixE k es i = M at hat hst hML
    rw [← hst]
    generalize es[i] = ev at hat hst b2
    obtain ⟨a0, a1, a2, a3, vs⟩ := ev
    have hiM : i < M.length := by omega
    simp only [szE] at b2
    have s0 := set_LE (j := 0) (d := .i q) hiM ⟨q, a1, a2, a3, vs⟩ (fun e he => by rw [hat] at he; cases he; rfl)
    have s1 := set_LE (es := M.set i ⟨q, a1, a2, a3, vs⟩) (i := i) (j := 1) (d := .i (q + 1)) (by simpa using hiM) ⟨q, q + 1, a2, a3, vs⟩ (fun e he => by simp [hiM] at he; subst he; rfl)
    have s2 := set_LE (es := M.set i ⟨q, q + 1, a2, a3, vs⟩) (i := i) (j := 2) (d := .i (q + 2)) (by simpa using hiM) ⟨q, q + 1, q + 2, a3, vs⟩ (fun e he => by simp [hiM] at he; subst he; rfl)
    have s3 := set_LE (es := M.set i ⟨q, q + 1, q + 2, a3, vs⟩) (i := i) (j := 3) (d := .i (q + 3)) (by simpa using hiM) ⟨q, q + 1, q + 2, q + 3, vs⟩ (fun e he => by simp [hiM] at he; subst he; rfl)
    have s4 := set_LE (es := M.set i ⟨q, q + 1, q + 2, q + 3, vs⟩) (i := i) (j := 4) (d := LI (mkV (q + 4) vs.length)) (by simpa using hiM) ⟨q, q + 1, q + 2, q + 3, mkV (q + 4) vs.length⟩ (fun e he => by simp [hiM] at he; subst he; rfl)
    have g4 := get_LE4 (es := M.set i ⟨q, q + 1, q + 2, q + 3, vs⟩) (i := i) (by simpa using hiM)
    rw [List.getElem_set_self] at g4
    simp only [List.set_set] at s1 s2 s3 s4
    have hm := f32 (q + 4) vs (by omega) (by omega)
    have e1 : q + 1 + 1 = q + 2 := by omega
    have e2 : q + 2 + 1 = q + 3 := by omega
    have e3 : q + 3 + 1 = q + 4 := by omega
    have hr : ∀ k1 k2, (Pr.rng k1 k2).eval [.i (vs.length : Int), .i (vs.length : Int), .i (vs.length : Int)] = some (.i ((vs.length : Int) - vs.length)) := fun k1 k2 => by rw [ev_rng, if_pos (by omega)]
    (repeat (first | simp (disch := omega) only [wrap64, wrapU32, wrapU64, wrapU8] | simp only [Ja,Jb,Jc,Jd,Je,Jf,Jg,Jh,Ji,Jj,Jk,Jl,Jm,Jn,Jo,Jp,Jq,Jr,Js,Jt,Ju,Jv,Jw,envA,lensOf,Jx,Jy,Jz,JA,JB,JC,JD,JE,JF,JG,JH,JI,JJ,JK,JL,JM,JN,JO,JP,JQ,JR,JS,JT,JU,JV,JW,↓reduceIte,if_true,reduceCtorEq,Nat.reduceEqDiff,JX,JY,JZ,J0,J1,J2,J3,J4,J5,J6,J7,Ya,Yb,Yc,Yd,Ye,Yf,Int.cast_ofNat_Int,Yg,Yh,Int.reduceLT,Int.reduceLE,Int.reduceEq,Int.reduceAdd,Int.reduceMul,Int.reduceSub,Int.reduceNeg,Yi,Yj,Yk,Yl,Ym,Yn,Yo,Yp,Yq,Yr,Ys,Yt,Yu,Yv,Yw,Yx,Yy,Yz,YA,YB,YC,YD,YE,YF,YG,YH,YI,YJ,YK,YL,YM,YN,YO,YP,YQ,YR,YS,YT, len_LE, hML, hi', ixc_N hi, s0, e1, e2, e3, s1, s2, s3, g4, len_LI]))
    refine WC.mk hm ?_
    (repeat (first | simp (disch := omega) only [wrap64, wrapU32, wrapU64, wrapU8] | simp only [Ja,Jb,Jc,Jd,Je,Jf,Jg,Jh,Ji,Jj,Jk,Jl,Jm,Jn,Jo,Jp,Jq,Jr,Js,Jt,Ju,Jv,Jw,envA,lensOf,Jx,Jy,Jz,JA,JB,JC,JD,JE,JF,JG,JH,JI,JJ,JK,JL,JM,JN,JO,JP,JQ,JR,JS,JT,JU,JV,JW,↓reduceIte,if_true,reduceCtorEq,Nat.reduceEqDiff,JX,JY,JZ,J0,J1,J2,J3,J4,J5,J6,J7,Ya,Yb,Yc,Yd,Ye,Yf,Int.cast_ofNat_Int,Yg,Yh,Int.reduceLT,Int.reduceLE,Int.reduceEq,Int.reduceAdd,Int.reduceMul,Int.reduceSub,Int.reduceNeg,Yi,Yj,Yk,Yl,Ym,Yn,Yo,Yp,Yq,Yr,Ys,Yt,Yu,Yv,Yw,Yx,Yy,Yz,YA,YB,YC,YD,YE,YF,YG,YH,YI,YJ,YK,YL,YM,YN,YO,YP,YQ,YR,YS,YT, len_LE, len_LI, mkV_len, g4, hr, s4, List.length_set, hML]))
    have f1 : q + 4 + (vs.length : Int) = q + szE ⟨a0, a1, a2, a3, vs⟩ := by simp only [szE]; omega
    have f2 : (i : Int) + 1 = ((i + 1 : Nat) : Int) := by omega
    rw [f1, f2]
    rfl
  · have hi' : ¬ (es.length : Int) < es.length := by omega
    (repeat (first | simp (disch := omega) only [wrap64, wrapU32, wrapU64, wrapU8] | simp only [Ja,Jb,Jc,Jd,Je,Jf,Jg,Jh,Ji,Jj,Jk,Jl,Jm,Jn,Jo,Jp,Jq,Jr,Js,Jt,Ju,Jv,Jw,envA,lensOf,Jx,Jy,Jz,JA,JB,JC,JD,JE,JF,JG,JH,JI,JJ,JK,JL,JM,JN,JO,JP,JQ,JR,JS,JT,JU,JV,JW,↓reduceIte,if_true,reduceCtorEq,Nat.reduceEqDiff,JX,JY,JZ,J0,J1,J2,J3,J4,J5,J6,J7,Ya,Yb,Yc,Yd,Ye,Yf,Int.cast_ofNat_Int,Yg,Yh,Int.reduceLT,Int.reduceLE,Int.reduceEq,Int.reduceAdd,Int.reduceMul,Int.reduceSub,Int.reduceNeg,Yi,Yj,Yk,Yl,Ym,Yn,Yo,Yp,Yq,Yr,Ys,Yt,Yu,Yv,Yw,Yx,Yy,Yz,YA,YB,YC,YD,YE,YF,YG,YH,YI,YJ,YK,YL,YM,YN,YO,YP,YQ,YR,YS,YT, len_LE, mixE_all, mkEs_len, hi', List.take_length]))
theorem mkEs_at : ∀ {k : Int} {es : List Ev} {i : Nat} (h : i < es.length), (mkEs k es)[i]? = some (mkE (endE k (es.take i)) es[i])
  | k, e :: r, 0, h => by simp [mkEs, endE]
  | k, e :: r, i + 1, h => by
    have := mkEs_at (k := k + szE e) (es := r) (i := i) (by simpa using h)
    simpa [mkEs, endE] using this
end Go.Proofs.Ytponfomfcmlfmaa.LogOf
