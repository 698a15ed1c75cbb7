/- FnUses: the law is true of every code. -/
import Derived.Test.YtbacblphkppigaaUsesPU5
set_option linter.unusedVariables false
set_option linter.unusedSimpArgs false
namespace Go.Proofs.Ytbacblphkppigaa.Uses
open Go.BH
set_option maxRecDepth 100000
theorem sum_bd16 : ∀ (zs : List Int), (∀ z ∈ zs, 0 ≤ z ∧ z ≤ 16) → 0 ≤ zs.sum ∧ zs.sum ≤ 16 * (zs.length : Int)
  | [], _ => by simp
  | z :: r, h => by
    obtain ⟨i1, i2⟩ := sum_bd16 r (fun x hx => h x (List.mem_cons_of_mem _ hx))
    obtain ⟨z1, z2⟩ := h z List.mem_cons_self
    simp only [List.sum_cons, List.length_cons]
    omega
theorem cz_take {k : Nat} {ps : List (Nat × Nat)} {i : Nat} (h : i < ps.length) : cz k (ps.take (i + 1)) = cz k (ps.take i) + if ps[i].2 = 2 ^ k then 1 else 0 := by
  unfold cz
  rw [List.take_add_one, List.getElem?_eq_getElem h, List.countP_append]
  simp [List.countP_cons]
theorem cz_mono {k : Nat} {ps : List (Nat × Nat)} (i : Nat) : cz k (ps.take i) ≤ cz k ps := by
  unfold cz
  exact (List.take_sublist i ps).countP_le
set_option maxHeartbeats 4000000 in
theorem f88 (cs : List Nat) (hl : cs.length < 9223372036854775808) (hx : ∀ n ∈ cs, n < 256) : EvF fes 88 [LN cs] [.b true] := by
  refine EvF.w (fe := e88) (t := t88) rfl rfl ?_
  rw [show envA e88.sig [LN cs] = [LN cs] from rfl]
  simp only [Ja,Jb,Jc,Jd,Je,Jf,Jg,Jh,Ji,Jj,Jk,Jl,Jm,Jn,Jo,Jp,Jq,Jr,Js,Jt,Ju,Jv,Jw,envA,lensOf,Jx,Jy,Jz,JA,JB,JC,JD,JE,JF,JG,JH,JI,JJ,JK,JL,JM,JN,JO,JP,JQ,JR,JS,JT,JU,JV,JW,↓reduceIte,if_true,reduceCtorEq,Nat.reduceEqDiff,JX,JY,JZ,J0,J1,J2,J3,J4,J5,J6,J7,Ya,Yb,Yc,Yd,Ye,Yf,Int.cast_ofNat_Int,Yg,Yh,Int.reduceLT,Int.reduceLE,Int.reduceEq,Int.reduceAdd,Int.reduceMul,Int.reduceSub,Int.reduceNeg,Yi,Yj,Yk,Yl,Ym,Yn,Yo,Yp,Yq,Yr,Ys,Yt,Yu,Yv,Yw,Yx,Yy,Yz,YA,YB,YC,YD,YE,YF,YG,YH,YI,YJ,YK,YL,YM,YN,YO,YP,YQ,YR,YS,YT, t88]
  refine WC.mk (f0 cs) ?_
  by_cases hb : 1048576 < cs.length
  · have hb' : (1048576 : Int) < cs.length := by omega
    simp only [Ja,Jb,Jc,Jd,Je,Jf,Jg,Jh,Ji,Jj,Jk,Jl,Jm,Jn,Jo,Jp,Jq,Jr,Js,Jt,Ju,Jv,Jw,envA,lensOf,Jx,Jy,Jz,JA,JB,JC,JD,JE,JF,JG,JH,JI,JJ,JK,JL,JM,JN,JO,JP,JQ,JR,JS,JT,JU,JV,JW,↓reduceIte,if_true,reduceCtorEq,Nat.reduceEqDiff,JX,JY,JZ,J0,J1,J2,J3,J4,J5,J6,J7,Ya,Yb,Yc,Yd,Ye,Yf,Int.cast_ofNat_Int,Yg,Yh,Int.reduceLT,Int.reduceLE,Int.reduceEq,Int.reduceAdd,Int.reduceMul,Int.reduceSub,Int.reduceNeg,Yi,Yj,Yk,Yl,Ym,Yn,Yo,Yp,Yq,Yr,Ys,Yt,Yu,Yv,Yw,Yx,Yy,Yz,YA,YB,YC,YD,YE,YF,YG,YH,YI,YJ,YK,YL,YM,YN,YO,YP,YQ,YR,YS,YT, hb']
  have hb' : ¬ (1048576 : Int) < cs.length := by omega
  have hc : Code cs := ⟨by omega, hx⟩
  obtain ⟨xs, p1, l1, d1⟩ := drawUsesOf hc
  have p2 := f81 xs (by omega) d1
  have p3 := f82 xs (by omega) d1
  have p4 := f86 xs (by omega) d1
  have p5 := f87 xs (by omega) d1
  simp only [Ja,Jb,Jc,Jd,Je,Jf,Jg,Jh,Ji,Jj,Jk,Jl,Jm,Jn,Jo,Jp,Jq,Jr,Js,Jt,Ju,Jv,Jw,envA,lensOf,Jx,Jy,Jz,JA,JB,JC,JD,JE,JF,JG,JH,JI,JJ,JK,JL,JM,JN,JO,JP,JQ,JR,JS,JT,JU,JV,JW,↓reduceIte,if_true,reduceCtorEq,Nat.reduceEqDiff,JX,JY,JZ,J0,J1,J2,J3,J4,J5,J6,J7,Ya,Yb,Yc,Yd,Ye,Yf,Int.cast_ofNat_Int,Yg,Yh,Int.reduceLT,Int.reduceLE,Int.reduceEq,Int.reduceAdd,Int.reduceMul,Int.reduceSub,Int.reduceNeg,Yi,Yj,Yk,Yl,Ym,Yn,Yo,Yp,Yq,Yr,Ys,Yt,Yu,Yv,Yw,Yx,Yy,Yz,YA,YB,YC,YD,YE,YF,YG,YH,YI,YJ,YK,YL,YM,YN,YO,YP,YQ,YR,YS,YT, hb']
  refine WC.mk p1 ?_
  simp only [Ja,Jb,Jc,Jd,Je,Jf,Jg,Jh,Ji,Jj,Jk,Jl,Jm,Jn,Jo,Jp,Jq,Jr,Js,Jt,Ju,Jv,Jw,envA,lensOf,Jx,Jy,Jz,JA,JB,JC,JD,JE,JF,JG,JH,JI,JJ,JK,JL,JM,JN,JO,JP,JQ,JR,JS,JT,JU,JV,JW,↓reduceIte,if_true,reduceCtorEq,Nat.reduceEqDiff,JX,JY,JZ,J0,J1,J2,J3,J4,J5,J6,J7,Ya,Yb,Yc,Yd,Ye,Yf,Int.cast_ofNat_Int,Yg,Yh,Int.reduceLT,Int.reduceLE,Int.reduceEq,Int.reduceAdd,Int.reduceMul,Int.reduceSub,Int.reduceNeg,Yi,Yj,Yk,Yl,Ym,Yn,Yo,Yp,Yq,Yr,Ys,Yt,Yu,Yv,Yw,Yx,Yy,Yz,YA,YB,YC,YD,YE,YF,YG,YH,YI,YJ,YK,YL,YM,YN,YO,YP,YQ,YR,YS,YT, len_LN]
  refine WC.mk p2 ?_
  simp only [Ja,Jb,Jc,Jd,Je,Jf,Jg,Jh,Ji,Jj,Jk,Jl,Jm,Jn,Jo,Jp,Jq,Jr,Js,Jt,Ju,Jv,Jw,envA,lensOf,Jx,Jy,Jz,JA,JB,JC,JD,JE,JF,JG,JH,JI,JJ,JK,JL,JM,JN,JO,JP,JQ,JR,JS,JT,JU,JV,JW,↓reduceIte,if_true,reduceCtorEq,Nat.reduceEqDiff,JX,JY,JZ,J0,J1,J2,J3,J4,J5,J6,J7,Ya,Yb,Yc,Yd,Ye,Yf,Int.cast_ofNat_Int,Yg,Yh,Int.reduceLT,Int.reduceLE,Int.reduceEq,Int.reduceAdd,Int.reduceMul,Int.reduceSub,Int.reduceNeg,Yi,Yj,Yk,Yl,Ym,Yn,Yo,Yp,Yq,Yr,Ys,Yt,Yu,Yv,Yw,Yx,Yy,Yz,YA,YB,YC,YD,YE,YF,YG,YH,YI,YJ,YK,YL,YM,YN,YO,YP,YQ,YR,YS,YT, len_U4]
  refine WC.mk p3 ?_
  simp only [Ja,Jb,Jc,Jd,Je,Jf,Jg,Jh,Ji,Jj,Jk,Jl,Jm,Jn,Jo,Jp,Jq,Jr,Js,Jt,Ju,Jv,Jw,envA,lensOf,Jx,Jy,Jz,JA,JB,JC,JD,JE,JF,JG,JH,JI,JJ,JK,JL,JM,JN,JO,JP,JQ,JR,JS,JT,JU,JV,JW,↓reduceIte,if_true,reduceCtorEq,Nat.reduceEqDiff,JX,JY,JZ,J0,J1,J2,J3,J4,J5,J6,J7,Ya,Yb,Yc,Yd,Ye,Yf,Int.cast_ofNat_Int,Yg,Yh,Int.reduceLT,Int.reduceLE,Int.reduceEq,Int.reduceAdd,Int.reduceMul,Int.reduceSub,Int.reduceNeg,Yi,Yj,Yk,Yl,Ym,Yn,Yo,Yp,Yq,Yr,Ys,Yt,Yu,Yv,Yw,Yx,Yy,Yz,YA,YB,YC,YD,YE,YF,YG,YH,YI,YJ,YK,YL,YM,YN,YO,YP,YQ,YR,YS,YT, len_U4]
  cases hk : okm xs with
  | false =>
    rw [hk] at p4
    have hu : uses xs = [] := by simp [uses, hk]
    simp only [sumA, hk] at p5
    simp only [Bool.false_eq_true, if_false] at p4 p5
    refine WC.mk p4 ?_
    simp only [Ja,Jb,Jc,Jd,Je,Jf,Jg,Jh,Ji,Jj,Jk,Jl,Jm,Jn,Jo,Jp,Jq,Jr,Js,Jt,Ju,Jv,Jw,envA,lensOf,Jx,Jy,Jz,JA,JB,JC,JD,JE,JF,JG,JH,JI,JJ,JK,JL,JM,JN,JO,JP,JQ,JR,JS,JT,JU,JV,JW,↓reduceIte,if_true,reduceCtorEq,Nat.reduceEqDiff,JX,JY,JZ,J0,J1,J2,J3,J4,J5,J6,J7,Ya,Yb,Yc,Yd,Ye,Yf,Int.cast_ofNat_Int,Yg,Yh,Int.reduceLT,Int.reduceLE,Int.reduceEq,Int.reduceAdd,Int.reduceMul,Int.reduceSub,Int.reduceNeg,Yi,Yj,Yk,Yl,Ym,Yn,Yo,Yp,Yq,Yr,Ys,Yt,Yu,Yv,Yw,Yx,Yy,Yz,YA,YB,YC,YD,YE,YF,YG,YH,YI,YJ,YK,YL,YM,YN,YO,YP,YQ,YR,YS,YT, len_LP]
    refine WC.mk p5 ?_
    simp only [Ja,Jb,Jc,Jd,Je,Jf,Jg,Jh,Ji,Jj,Jk,Jl,Jm,Jn,Jo,Jp,Jq,Jr,Js,Jt,Ju,Jv,Jw,envA,lensOf,Jx,Jy,Jz,JA,JB,JC,JD,JE,JF,JG,JH,JI,JJ,JK,JL,JM,JN,JO,JP,JQ,JR,JS,JT,JU,JV,JW,↓reduceIte,if_true,reduceCtorEq,Nat.reduceEqDiff,JX,JY,JZ,J0,J1,J2,J3,J4,J5,J6,J7,Ya,Yb,Yc,Yd,Ye,Yf,Int.cast_ofNat_Int,Yg,Yh,Int.reduceLT,Int.reduceLE,Int.reduceEq,Int.reduceAdd,Int.reduceMul,Int.reduceSub,Int.reduceNeg,Yi,Yj,Yk,Yl,Ym,Yn,Yo,Yp,Yq,Yr,Ys,Yt,Yu,Yv,Yw,Yx,Yy,Yz,YA,YB,YC,YD,YE,YF,YG,YH,YI,YJ,YK,YL,YM,YN,YO,YP,YQ,YR,YS,YT, len_LP, len_U4, hu]
    try rfl
  | true =>
  rw [hk] at p4
  simp only [sumA, hk] at p5
  simp only [if_true] at p4 p5
  obtain ⟨h16, hall⟩ := okm_all' hk
  have hu : uses xs = usesTo xs 5 := by simp [uses, hk]
  have u5 := usesTo_len xs 5
  have hmem : ∀ r ∈ usesTo xs 5, Rw xs r := fun r hr => usesTo_mem (Nat.le_refl 5) hr
  have hinc := List.pairwise_iff_getElem.1 (usesTo_inc xs 5)
  have hpg : psm (usesTo xs 5) = ((cn pP xs xs.length : Nat) : Int) := by
    rw [psm5, ← pages5 xs hall]
    unfold cn
    rw [List.take_length]
  have hcz : ∀ k, k < 5 → cz k (audR 0 xs) = tks k xs := fun k hk => cz_aud hk 0 xs hall
  have hal : (audR 0 xs).length ≤ 512 := by have := audR_len 0 xs; omega
  have hpt : ∀ k, pgs k xs ≤ tks k xs := fun k => pgs_tks k xs hall
  have hpl : ∀ k, pgs k xs ≤ 16 := fun k => by have := pgs_le k xs; omega
  have htl : ∀ k, tks k xs ≤ 512 := fun k => by have := tks_le k xs; omega
  rw [hu]
  generalize usesTo xs 5 = rs at *
  generalize audR 0 xs = ls at *
  generalize cn pP xs xs.length = np at *
  refine WC.mk p4 ?_
  simp only [Ja,Jb,Jc,Jd,Je,Jf,Jg,Jh,Ji,Jj,Jk,Jl,Jm,Jn,Jo,Jp,Jq,Jr,Js,Jt,Ju,Jv,Jw,envA,lensOf,Jx,Jy,Jz,JA,JB,JC,JD,JE,JF,JG,JH,JI,JJ,JK,JL,JM,JN,JO,JP,JQ,JR,JS,JT,JU,JV,JW,↓reduceIte,if_true,reduceCtorEq,Nat.reduceEqDiff,JX,JY,JZ,J0,J1,J2,J3,J4,J5,J6,J7,Ya,Yb,Yc,Yd,Ye,Yf,Int.cast_ofNat_Int,Yg,Yh,Int.reduceLT,Int.reduceLE,Int.reduceEq,Int.reduceAdd,Int.reduceMul,Int.reduceSub,Int.reduceNeg,Yi,Yj,Yk,Yl,Ym,Yn,Yo,Yp,Yq,Yr,Ys,Yt,Yu,Yv,Yw,Yx,Yy,Yz,YA,YB,YC,YD,YE,YF,YG,YH,YI,YJ,YK,YL,YM,YN,YO,YP,YQ,YR,YS,YT, len_LP]
  refine WC.mk p5 ?_
  simp only [Ja,Jb,Jc,Jd,Je,Jf,Jg,Jh,Ji,Jj,Jk,Jl,Jm,Jn,Jo,Jp,Jq,Jr,Js,Jt,Ju,Jv,Jw,envA,lensOf,Jx,Jy,Jz,JA,JB,JC,JD,JE,JF,JG,JH,JI,JJ,JK,JL,JM,JN,JO,JP,JQ,JR,JS,JT,JU,JV,JW,↓reduceIte,if_true,reduceCtorEq,Nat.reduceEqDiff,JX,JY,JZ,J0,J1,J2,J3,J4,J5,J6,J7,Ya,Yb,Yc,Yd,Ye,Yf,Int.cast_ofNat_Int,Yg,Yh,Int.reduceLT,Int.reduceLE,Int.reduceEq,Int.reduceAdd,Int.reduceMul,Int.reduceSub,Int.reduceNeg,Yi,Yj,Yk,Yl,Ym,Yn,Yo,Yp,Yq,Yr,Ys,Yt,Yu,Yv,Yw,Yx,Yy,Yz,YA,YB,YC,YD,YE,YF,YG,YH,YI,YJ,YK,YL,YM,YN,YO,YP,YQ,YR,YS,YT, len_LP, len_U4]
  refine LW.cnt rs.length (fun j => [.i (psm (rs.take j)), .i (j : Nat)]) (fun j hj => ?_) ?_ (by simp [psm])
  rotate_left
  · have hj' : ¬ (rs.length : Int) < rs.length := by omega
    rw [List.take_length, hpg]
    (repeat (first | simp (disch := omega) only [wrap64, wrapU32, wrapU64, wrapU8] | simp only [Ja,Jb,Jc,Jd,Je,Jf,Jg,Jh,Ji,Jj,Jk,Jl,Jm,Jn,Jo,Jp,Jq,Jr,Js,Jt,Ju,Jv,Jw,envA,lensOf,Jx,Jy,Jz,JA,JB,JC,JD,JE,JF,JG,JH,JI,JJ,JK,JL,JM,JN,JO,JP,JQ,JR,JS,JT,JU,JV,JW,↓reduceIte,if_true,reduceCtorEq,Nat.reduceEqDiff,JX,JY,JZ,J0,J1,J2,J3,J4,J5,J6,J7,Ya,Yb,Yc,Yd,Ye,Yf,Int.cast_ofNat_Int,Yg,Yh,Int.reduceLT,Int.reduceLE,Int.reduceEq,Int.reduceAdd,Int.reduceMul,Int.reduceSub,Int.reduceNeg,Yi,Yj,Yk,Yl,Ym,Yn,Yo,Yp,Yq,Yr,Ys,Yt,Yu,Yv,Yw,Yx,Yy,Yz,YA,YB,YC,YD,YE,YF,YG,YH,YI,YJ,YK,YL,YM,YN,YO,YP,YQ,YR,YS,YT, len_LN, len_LP, len_U4, hj']))
  have hj' : (j : Int) < rs.length := by omega
  obtain ⟨k, k5, kp, hr⟩ := hmem _ (List.getElem_mem hj)
  have jq : (j : Int) + 1 = ((j + 1 : Nat) : Int) := by omega
  have n1 : psm (rs.take (j + 1)) = psm (rs.take j) + (pgs k xs : Int) := by
    unfold psm
    rw [List.map_take, sum_take (by simpa using hj), List.getElem_map, ← List.map_take, hr]
    rfl
  have m1 : 0 ≤ psm (rs.take j) ∧ psm (rs.take j) ≤ 16 * (rs.length : Int) := by
    have := sum_bd16 ((rs.take j).map fun r => r.2.1) (fun z hz => by
      obtain ⟨r, hr, rfl⟩ := List.mem_map.1 hz
      obtain ⟨k, k5, kp, rfl⟩ := hmem r (List.mem_of_mem_take hr)
      have := hpl k
      show 0 ≤ (pgs k xs : Int) ∧ (pgs k xs : Int) ≤ 16
      omega)
    rw [List.length_map, List.length_take] at this
    unfold psm
    omega
  have g0 : (Pr.get [ki64, ki64, ki64, ki64] 0).eval [U4 rs, .i (j : Int)] = some (.i (k : Nat)) := by rw [get0_U4 hj, hr]; rfl
  have g1 : (Pr.get [ki64, ki64, ki64, ki64] 1).eval [U4 rs, .i (j : Int)] = some (.i (pgs k xs : Nat)) := by rw [get1_U4 hj, hr]; rfl
  have g2 : (Pr.get [ki64, ki64, ki64, ki64] 2).eval [U4 rs, .i (j : Int)] = some (.i (tks k xs : Nat)) := by rw [get2_U4 hj, hr]; rfl
  have g3 : (Pr.get [ki64, ki64, ki64, ki64] 3).eval [U4 rs, .i (j : Int)] = some (.i ((pgs k xs : Int) * per k - tks k xs)) := by rw [get3_U4 hj, hr]; rfl
  have hk1 := hpt k
  have hk2 := hpl k
  have hk3 := htl k
  have hk4 := hcz k k5
  have pp := f72 k (by omega)
  have pcs := f84 k k5
  have prev : ∀ i, i + 1 = j → ∃ z : Int, (Pr.get [ki64, ki64, ki64, ki64] 0).eval [U4 rs, .i (i : Int)] = some (.i z) ∧ z < (k : Int) := fun i hi => by
    have hi' : i < rs.length := by omega
    have := hinc i j hi' hj (by omega)
    rw [hr] at this
    exact ⟨_, get0_U4 hi', this⟩
  have hper : per k ≤ 16 := per_le k
  have hmul : 0 ≤ (pgs k xs : Int) * per k ∧ (pgs k xs : Int) * per k ≤ 256 := mulB k xs h16
  rw [n1]
  generalize psm (rs.take j) = N at m1
  generalize tks k xs = t at *
  generalize pgs k xs = p at *
  obtain ⟨pm, hpm⟩ : ∃ z, (p : Int) * (per k : Int) = z := ⟨_, rfl⟩
  rw [hpm] at hmul g3
  have q1 : (t : Int) + (pm - t) = pm := by omega
  have q2 : ¬ (p : Int) < 1 := by omega
  have q3 : ¬ (t : Int) < p := by omega
  (repeat (first | simp (disch := omega) only [wrap64, wrapU32, wrapU64, wrapU8] | simp only [Ja,Jb,Jc,Jd,Je,Jf,Jg,Jh,Ji,Jj,Jk,Jl,Jm,Jn,Jo,Jp,Jq,Jr,Js,Jt,Ju,Jv,Jw,envA,lensOf,Jx,Jy,Jz,JA,JB,JC,JD,JE,JF,JG,JH,JI,JJ,JK,JL,JM,JN,JO,JP,JQ,JR,JS,JT,JU,JV,JW,↓reduceIte,if_true,reduceCtorEq,Nat.reduceEqDiff,JX,JY,JZ,J0,J1,J2,J3,J4,J5,J6,J7,Ya,Yb,Yc,Yd,Ye,Yf,Int.cast_ofNat_Int,Yg,Yh,Int.reduceLT,Int.reduceLE,Int.reduceEq,Int.reduceAdd,Int.reduceMul,Int.reduceSub,Int.reduceNeg,Yi,Yj,Yk,Yl,Ym,Yn,Yo,Yp,Yq,Yr,Ys,Yt,Yu,Yv,Yw,Yx,Yy,Yz,YA,YB,YC,YD,YE,YF,YG,YH,YI,YJ,YK,YL,YM,YN,YO,YP,YQ,YR,YS,YT, len_U4, len_LP, len_LN, hj', g0, g1, g2, g3, Bool.and_self, q2, q3]))
  refine WC.mk pp ?_
  (repeat (first | simp (disch := omega) only [wrap64, wrapU32, wrapU64, wrapU8] | simp only [Ja,Jb,Jc,Jd,Je,Jf,Jg,Jh,Ji,Jj,Jk,Jl,Jm,Jn,Jo,Jp,Jq,Jr,Js,Jt,Ju,Jv,Jw,envA,lensOf,Jx,Jy,Jz,JA,JB,JC,JD,JE,JF,JG,JH,JI,JJ,JK,JL,JM,JN,JO,JP,JQ,JR,JS,JT,JU,JV,JW,↓reduceIte,if_true,reduceCtorEq,Nat.reduceEqDiff,JX,JY,JZ,J0,J1,J2,J3,J4,J5,J6,J7,Ya,Yb,Yc,Yd,Ye,Yf,Int.cast_ofNat_Int,Yg,Yh,Int.reduceLT,Int.reduceLE,Int.reduceEq,Int.reduceAdd,Int.reduceMul,Int.reduceSub,Int.reduceNeg,Yi,Yj,Yk,Yl,Ym,Yn,Yo,Yp,Yq,Yr,Ys,Yt,Yu,Yv,Yw,Yx,Yy,Yz,YA,YB,YC,YD,YE,YF,YG,YH,YI,YJ,YK,YL,YM,YN,YO,YP,YQ,YR,YS,YT, len_U4, len_LP, len_LN, hpm, q1]))
  by_cases j0 : j = 0
  · subst j0
    have j0' : ¬ (0 : Int) < ((0 : Nat) : Int) := by omega
    (repeat (first | simp (disch := omega) only [wrap64, wrapU32, wrapU64, wrapU8] | simp only [Ja,Jb,Jc,Jd,Je,Jf,Jg,Jh,Ji,Jj,Jk,Jl,Jm,Jn,Jo,Jp,Jq,Jr,Js,Jt,Ju,Jv,Jw,envA,lensOf,Jx,Jy,Jz,JA,JB,JC,JD,JE,JF,JG,JH,JI,JJ,JK,JL,JM,JN,JO,JP,JQ,JR,JS,JT,JU,JV,JW,↓reduceIte,if_true,reduceCtorEq,Nat.reduceEqDiff,JX,JY,JZ,J0,J1,J2,J3,J4,J5,J6,J7,Ya,Yb,Yc,Yd,Ye,Yf,Int.cast_ofNat_Int,Yg,Yh,Int.reduceLT,Int.reduceLE,Int.reduceEq,Int.reduceAdd,Int.reduceMul,Int.reduceSub,Int.reduceNeg,Yi,Yj,Yk,Yl,Ym,Yn,Yo,Yp,Yq,Yr,Ys,Yt,Yu,Yv,Yw,Yx,Yy,Yz,YA,YB,YC,YD,YE,YF,YG,YH,YI,YJ,YK,YL,YM,YN,YO,YP,YQ,YR,YS,YT, len_U4, len_LP, len_LN, j0']))
    refine LW.cnt ls.length (fun i => [.i (i : Nat), .i ((t : Int) - (cz k (ls.take i) : Nat))]) (fun i hi => ?_) ?_ (by simp [cz])
    · have hi' : (i : Int) < ls.length := by omega
      have iq : (i : Int) + 1 = ((i + 1 : Nat) : Int) := by omega
      have gl := get1_LP hi
      have ct := cz_take (k := k) hi
      have cm := cz_mono (k := k) (ps := ls) (i + 1)
      (repeat (first | simp (disch := omega) only [wrap64, wrapU32, wrapU64, wrapU8] | simp only [Ja,Jb,Jc,Jd,Je,Jf,Jg,Jh,Ji,Jj,Jk,Jl,Jm,Jn,Jo,Jp,Jq,Jr,Js,Jt,Ju,Jv,Jw,envA,lensOf,Jx,Jy,Jz,JA,JB,JC,JD,JE,JF,JG,JH,JI,JJ,JK,JL,JM,JN,JO,JP,JQ,JR,JS,JT,JU,JV,JW,↓reduceIte,if_true,reduceCtorEq,Nat.reduceEqDiff,JX,JY,JZ,J0,J1,J2,J3,J4,J5,J6,J7,Ya,Yb,Yc,Yd,Ye,Yf,Int.cast_ofNat_Int,Yg,Yh,Int.reduceLT,Int.reduceLE,Int.reduceEq,Int.reduceAdd,Int.reduceMul,Int.reduceSub,Int.reduceNeg,Yi,Yj,Yk,Yl,Ym,Yn,Yo,Yp,Yq,Yr,Ys,Yt,Yu,Yv,Yw,Yx,Yy,Yz,YA,YB,YC,YD,YE,YF,YG,YH,YI,YJ,YK,YL,YM,YN,YO,YP,YQ,YR,YS,YT, len_U4, len_LP, len_LN, hi', gl]))
      refine WC.mk pcs ?_
      by_cases he : ls[i].2 = 2 ^ k
      · rw [if_pos he] at ct
        have he' : ((ls[i].2 : Nat) : Int) = ((2 ^ k : Nat) : Int) := by rw [he]
        have q4 : (t : Int) - (cz k (ls.take i) : Nat) - 1 = (t : Int) - (cz k (ls.take (i + 1)) : Nat) := by omega
        generalize cz k (ls.take (i + 1)) = c' at q4 cm ct
        generalize cz k (ls.take i) = c at q4 ct
        generalize ls[i].2 = l2 at he'
        generalize 2 ^ k = pk at he'
        (repeat (first | simp (disch := omega) only [wrap64, wrapU32, wrapU64, wrapU8] | simp only [Ja,Jb,Jc,Jd,Je,Jf,Jg,Jh,Ji,Jj,Jk,Jl,Jm,Jn,Jo,Jp,Jq,Jr,Js,Jt,Ju,Jv,Jw,envA,lensOf,Jx,Jy,Jz,JA,JB,JC,JD,JE,JF,JG,JH,JI,JJ,JK,JL,JM,JN,JO,JP,JQ,JR,JS,JT,JU,JV,JW,↓reduceIte,if_true,reduceCtorEq,Nat.reduceEqDiff,JX,JY,JZ,J0,J1,J2,J3,J4,J5,J6,J7,Ya,Yb,Yc,Yd,Ye,Yf,Int.cast_ofNat_Int,Yg,Yh,Int.reduceLT,Int.reduceLE,Int.reduceEq,Int.reduceAdd,Int.reduceMul,Int.reduceSub,Int.reduceNeg,Yi,Yj,Yk,Yl,Ym,Yn,Yo,Yp,Yq,Yr,Ys,Yt,Yu,Yv,Yw,Yx,Yy,Yz,YA,YB,YC,YD,YE,YF,YG,YH,YI,YJ,YK,YL,YM,YN,YO,YP,YQ,YR,YS,YT, len_U4, len_LP, len_LN, he', q4, iq]))
      · rw [if_neg he] at ct
        have he' : ¬ ((ls[i].2 : Nat) : Int) = ((2 ^ k : Nat) : Int) := by omega
        have ct' : cz k (ls.take (i + 1)) = cz k (ls.take i) := by omega
        rw [ct']
        generalize cz k (ls.take i) = c
        generalize ls[i].2 = l2 at he'
        generalize 2 ^ k = pk at he'
        (repeat (first | simp (disch := omega) only [wrap64, wrapU32, wrapU64, wrapU8] | simp only [Ja,Jb,Jc,Jd,Je,Jf,Jg,Jh,Ji,Jj,Jk,Jl,Jm,Jn,Jo,Jp,Jq,Jr,Js,Jt,Ju,Jv,Jw,envA,lensOf,Jx,Jy,Jz,JA,JB,JC,JD,JE,JF,JG,JH,JI,JJ,JK,JL,JM,JN,JO,JP,JQ,JR,JS,JT,JU,JV,JW,↓reduceIte,if_true,reduceCtorEq,Nat.reduceEqDiff,JX,JY,JZ,J0,J1,J2,J3,J4,J5,J6,J7,Ya,Yb,Yc,Yd,Ye,Yf,Int.cast_ofNat_Int,Yg,Yh,Int.reduceLT,Int.reduceLE,Int.reduceEq,Int.reduceAdd,Int.reduceMul,Int.reduceSub,Int.reduceNeg,Yi,Yj,Yk,Yl,Ym,Yn,Yo,Yp,Yq,Yr,Ys,Yt,Yu,Yv,Yw,Yx,Yy,Yz,YA,YB,YC,YD,YE,YF,YG,YH,YI,YJ,YK,YL,YM,YN,YO,YP,YQ,YR,YS,YT, len_U4, len_LP, len_LN, he', iq]))
    · have hi' : ¬ (ls.length : Int) < ls.length := by omega
      rw [List.take_length, hk4]
      have q5 : (t : Int) - (t : Nat) = 0 := by omega
      (repeat (first | simp (disch := omega) only [wrap64, wrapU32, wrapU64, wrapU8] | simp only [Ja,Jb,Jc,Jd,Je,Jf,Jg,Jh,Ji,Jj,Jk,Jl,Jm,Jn,Jo,Jp,Jq,Jr,Js,Jt,Ju,Jv,Jw,envA,lensOf,Jx,Jy,Jz,JA,JB,JC,JD,JE,JF,JG,JH,JI,JJ,JK,JL,JM,JN,JO,JP,JQ,JR,JS,JT,JU,JV,JW,↓reduceIte,if_true,reduceCtorEq,Nat.reduceEqDiff,JX,JY,JZ,J0,J1,J2,J3,J4,J5,J6,J7,Ya,Yb,Yc,Yd,Ye,Yf,Int.cast_ofNat_Int,Yg,Yh,Int.reduceLT,Int.reduceLE,Int.reduceEq,Int.reduceAdd,Int.reduceMul,Int.reduceSub,Int.reduceNeg,Yi,Yj,Yk,Yl,Ym,Yn,Yo,Yp,Yq,Yr,Ys,Yt,Yu,Yv,Yw,Yx,Yy,Yz,YA,YB,YC,YD,YE,YF,YG,YH,YI,YJ,YK,YL,YM,YN,YO,YP,YQ,YR,YS,YT, len_U4, len_LP, len_LN, hi', q5, jq]))
      try rfl
  · obtain ⟨i0, hi0⟩ : ∃ i, i + 1 = j := ⟨j - 1, by omega⟩
    obtain ⟨z, gz, zk⟩ := prev i0 hi0
    have j0' : (0 : Int) < (j : Int) := by omega
    have jm : (j : Int) - 1 = (i0 : Int) := by omega
    have jl : (i0 : Int) < rs.length := by omega
    have zk' : ¬ (k : Int) ≤ z := by omega
    (repeat (first | simp (disch := omega) only [wrap64, wrapU32, wrapU64, wrapU8] | simp only [Ja,Jb,Jc,Jd,Je,Jf,Jg,Jh,Ji,Jj,Jk,Jl,Jm,Jn,Jo,Jp,Jq,Jr,Js,Jt,Ju,Jv,Jw,envA,lensOf,Jx,Jy,Jz,JA,JB,JC,JD,JE,JF,JG,JH,JI,JJ,JK,JL,JM,JN,JO,JP,JQ,JR,JS,JT,JU,JV,JW,↓reduceIte,if_true,reduceCtorEq,Nat.reduceEqDiff,JX,JY,JZ,J0,J1,J2,J3,J4,J5,J6,J7,Ya,Yb,Yc,Yd,Ye,Yf,Int.cast_ofNat_Int,Yg,Yh,Int.reduceLT,Int.reduceLE,Int.reduceEq,Int.reduceAdd,Int.reduceMul,Int.reduceSub,Int.reduceNeg,Yi,Yj,Yk,Yl,Ym,Yn,Yo,Yp,Yq,Yr,Ys,Yt,Yu,Yv,Yw,Yx,Yy,Yz,YA,YB,YC,YD,YE,YF,YG,YH,YI,YJ,YK,YL,YM,YN,YO,YP,YQ,YR,YS,YT, len_U4, len_LP, len_LN, j0', jm, jl, gz, zk']))
    refine LW.cnt ls.length (fun i => [.i (i : Nat), .i ((t : Int) - (cz k (ls.take i) : Nat))]) (fun i hi => ?_) ?_ (by simp [cz])
    · have hi' : (i : Int) < ls.length := by omega
      have iq : (i : Int) + 1 = ((i + 1 : Nat) : Int) := by omega
      have gl := get1_LP hi
      have ct := cz_take (k := k) hi
      have cm := cz_mono (k := k) (ps := ls) (i + 1)
      (repeat (first | simp (disch := omega) only [wrap64, wrapU32, wrapU64, wrapU8] | simp only [Ja,Jb,Jc,Jd,Je,Jf,Jg,Jh,Ji,Jj,Jk,Jl,Jm,Jn,Jo,Jp,Jq,Jr,Js,Jt,Ju,Jv,Jw,envA,lensOf,Jx,Jy,Jz,JA,JB,JC,JD,JE,JF,JG,JH,JI,JJ,JK,JL,JM,JN,JO,JP,JQ,JR,JS,JT,JU,JV,JW,↓reduceIte,if_true,reduceCtorEq,Nat.reduceEqDiff,JX,JY,JZ,J0,J1,J2,J3,J4,J5,J6,J7,Ya,Yb,Yc,Yd,Ye,Yf,Int.cast_ofNat_Int,Yg,Yh,Int.reduceLT,Int.reduceLE,Int.reduceEq,Int.reduceAdd,Int.reduceMul,Int.reduceSub,Int.reduceNeg,Yi,Yj,Yk,Yl,Ym,Yn,Yo,Yp,Yq,Yr,Ys,Yt,Yu,Yv,Yw,Yx,Yy,Yz,YA,YB,YC,YD,YE,YF,YG,YH,YI,YJ,YK,YL,YM,YN,YO,YP,YQ,YR,YS,YT, len_U4, len_LP, len_LN, hi', gl]))
      refine WC.mk pcs ?_
      by_cases he : ls[i].2 = 2 ^ k
      · rw [if_pos he] at ct
        have he' : ((ls[i].2 : Nat) : Int) = ((2 ^ k : Nat) : Int) := by rw [he]
        have q4 : (t : Int) - (cz k (ls.take i) : Nat) - 1 = (t : Int) - (cz k (ls.take (i + 1)) : Nat) := by omega
        generalize cz k (ls.take (i + 1)) = c' at q4 cm ct
        generalize cz k (ls.take i) = c at q4 ct
        generalize ls[i].2 = l2 at he'
        generalize 2 ^ k = pk at he'
        (repeat (first | simp (disch := omega) only [wrap64, wrapU32, wrapU64, wrapU8] | simp only [Ja,Jb,Jc,Jd,Je,Jf,Jg,Jh,Ji,Jj,Jk,Jl,Jm,Jn,Jo,Jp,Jq,Jr,Js,Jt,Ju,Jv,Jw,envA,lensOf,Jx,Jy,Jz,JA,JB,JC,JD,JE,JF,JG,JH,JI,JJ,JK,JL,JM,JN,JO,JP,JQ,JR,JS,JT,JU,JV,JW,↓reduceIte,if_true,reduceCtorEq,Nat.reduceEqDiff,JX,JY,JZ,J0,J1,J2,J3,J4,J5,J6,J7,Ya,Yb,Yc,Yd,Ye,Yf,Int.cast_ofNat_Int,Yg,Yh,Int.reduceLT,Int.reduceLE,Int.reduceEq,Int.reduceAdd,Int.reduceMul,Int.reduceSub,Int.reduceNeg,Yi,Yj,Yk,Yl,Ym,Yn,Yo,Yp,Yq,Yr,Ys,Yt,Yu,Yv,Yw,Yx,Yy,Yz,YA,YB,YC,YD,YE,YF,YG,YH,YI,YJ,YK,YL,YM,YN,YO,YP,YQ,YR,YS,YT, len_U4, len_LP, len_LN, he', q4, iq]))
      · rw [if_neg he] at ct
        have he' : ¬ ((ls[i].2 : Nat) : Int) = ((2 ^ k : Nat) : Int) := by omega
        have ct' : cz k (ls.take (i + 1)) = cz k (ls.take i) := by omega
        rw [ct']
        generalize cz k (ls.take i) = c
        generalize ls[i].2 = l2 at he'
        generalize 2 ^ k = pk at he'
        (repeat (first | simp (disch := omega) only [wrap64, wrapU32, wrapU64, wrapU8] | simp only [Ja,Jb,Jc,Jd,Je,Jf,Jg,Jh,Ji,Jj,Jk,Jl,Jm,Jn,Jo,Jp,Jq,Jr,Js,Jt,Ju,Jv,Jw,envA,lensOf,Jx,Jy,Jz,JA,JB,JC,JD,JE,JF,JG,JH,JI,JJ,JK,JL,JM,JN,JO,JP,JQ,JR,JS,JT,JU,JV,JW,↓reduceIte,if_true,reduceCtorEq,Nat.reduceEqDiff,JX,JY,JZ,J0,J1,J2,J3,J4,J5,J6,J7,Ya,Yb,Yc,Yd,Ye,Yf,Int.cast_ofNat_Int,Yg,Yh,Int.reduceLT,Int.reduceLE,Int.reduceEq,Int.reduceAdd,Int.reduceMul,Int.reduceSub,Int.reduceNeg,Yi,Yj,Yk,Yl,Ym,Yn,Yo,Yp,Yq,Yr,Ys,Yt,Yu,Yv,Yw,Yx,Yy,Yz,YA,YB,YC,YD,YE,YF,YG,YH,YI,YJ,YK,YL,YM,YN,YO,YP,YQ,YR,YS,YT, len_U4, len_LP, len_LN, he', iq]))
    · have hi' : ¬ (ls.length : Int) < ls.length := by omega
      rw [List.take_length, hk4]
      have q5 : (t : Int) - (t : Nat) = 0 := by omega
      (repeat (first | simp (disch := omega) only [wrap64, wrapU32, wrapU64, wrapU8] | simp only [Ja,Jb,Jc,Jd,Je,Jf,Jg,Jh,Ji,Jj,Jk,Jl,Jm,Jn,Jo,Jp,Jq,Jr,Js,Jt,Ju,Jv,Jw,envA,lensOf,Jx,Jy,Jz,JA,JB,JC,JD,JE,JF,JG,JH,JI,JJ,JK,JL,JM,JN,JO,JP,JQ,JR,JS,JT,JU,JV,JW,↓reduceIte,if_true,reduceCtorEq,Nat.reduceEqDiff,JX,JY,JZ,J0,J1,J2,J3,J4,J5,J6,J7,Ya,Yb,Yc,Yd,Ye,Yf,Int.cast_ofNat_Int,Yg,Yh,Int.reduceLT,Int.reduceLE,Int.reduceEq,Int.reduceAdd,Int.reduceMul,Int.reduceSub,Int.reduceNeg,Yi,Yj,Yk,Yl,Ym,Yn,Yo,Yp,Yq,Yr,Ys,Yt,Yu,Yv,Yw,Yx,Yy,Yz,YA,YB,YC,YD,YE,YF,YG,YH,YI,YJ,YK,YL,YM,YN,YO,YP,YQ,YR,YS,YT, len_U4, len_LP, len_LN, hi', q5, jq]))
theorem law (ds : List D) (h : wfZ [.sl [.int .u8]] ds) : EvF fes 88 ds [.b true] := by
  obtain ⟨d0, r, rfl, h0, h⟩ := wfZ_cons h
  obtain rfl := wfZ_nil h
  obtain ⟨xs, rfl, hl, hx⟩ := bytes_of h0
  exact f88 xs hl hx
end Go.Proofs.Ytbacblphkppigaa.Uses
