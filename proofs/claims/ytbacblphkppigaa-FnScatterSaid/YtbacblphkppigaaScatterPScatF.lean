/- FnScatter: the law is true of every code. -/
import Derived.Test.YtbacblphkppigaaScatterQD
import Derived.Test.YtbacblphkppigaaScatterPScat
import Derived.Test.YtbacblphkppigaaScatterPUses
set_option linter.unusedVariables false
set_option linter.unusedSimpArgs false
namespace Go.Proofs.Ytbacblphkppigaa.Scatter
open Go.BH
set_option maxRecDepth 100000
theorem f86 (c : Nat) (h : c < 5) : EvF fes 86 [.i c] [.i ((2 ^ c : Nat) : Int)] := by
  have : c = 0 ∨ c = 1 ∨ c = 2 ∨ c = 3 ∨ c = 4 := by omega
  rcases this with rfl | rfl | rfl | rfl | rfl <;> exact EvF.at 20 (by kernel_rfl)
def fsm (rs : List R4) : Int := (rs.map fun r => r.2.2.2 * ((2 ^ r.1.toNat : Nat) : Int)).sum
def tsm (rs : List R4) : Int := (rs.map fun r => r.2.2.1 * ((2 ^ r.1.toNat : Nat) : Int)).sum
theorem tks_zero {k : Nat} {l : List Nat} (h : pgs k l = 0) : tks k l = 0 := by
  unfold pgs at h
  unfold tks
  rw [List.eq_nil_of_length_eq_zero h]
  rfl
theorem fsm_succ (xs : List Nat) (n : Nat) : fsm (usesTo xs (n + 1)) = fsm (usesTo xs n) + ((pgs n xs : Int) * per n - tks n xs) * ((2 ^ n : Nat) : Int) := by
  rw [usesTo_succ]
  unfold fsm
  rw [List.map_append, List.sum_append]
  by_cases h : 0 < pgs n xs
  · rw [if_pos h]
    simp only [List.map_cons, List.map_nil, List.sum_cons, List.sum_nil, use, Int.toNat_natCast, Int.add_zero]
  · rw [if_neg h, tks_zero (by omega), show pgs n xs = 0 by omega]
    simp
theorem tsm_succ (xs : List Nat) (n : Nat) : tsm (usesTo xs (n + 1)) = tsm (usesTo xs n) + (tks n xs : Int) * ((2 ^ n : Nat) : Int) := by
  rw [usesTo_succ]
  unfold tsm
  rw [List.map_append, List.sum_append]
  by_cases h : 0 < pgs n xs
  · rw [if_pos h]
    simp only [List.map_cons, List.map_nil, List.sum_cons, List.sum_nil, use, Int.toNat_natCast, Int.add_zero]
  · rw [if_neg h, tks_zero (by omega)]
    simp
def P5 (xs : List Nat) : Nat := pgs 0 xs + pgs 1 xs + pgs 2 xs + pgs 3 xs + pgs 4 xs
def T5 (xs : List Nat) : Nat := tks 0 xs + 2 * tks 1 xs + 4 * tks 2 xs + 8 * tks 3 xs + 16 * tks 4 xs
theorem fsm5 (xs : List Nat) : fsm (usesTo xs 5) = 16 * (P5 xs : Int) - T5 xs := by
  rw [fsm_succ, fsm_succ, fsm_succ, fsm_succ, fsm_succ, show fsm (usesTo xs 0) = 0 from rfl, show per 0 = 16 from rfl, show per 1 = 8 from rfl, show per 2 = 4 from rfl, show per 3 = 2 from rfl, show per 4 = 1 from rfl, P5, T5]
  omega
theorem tsm5 (xs : List Nat) : tsm (usesTo xs 5) = (T5 xs : Int) := by
  rw [tsm_succ, tsm_succ, tsm_succ, tsm_succ, tsm_succ, show tsm (usesTo xs 0) = 0 from rfl, T5]
  omega
theorem pgs_cons (k w : Nat) (r : List Nat) : pgs k (w :: r) = (if hitB k w = true then 1 else 0) + pgs k r := by
  unfold pgs
  rw [List.filter_cons]
  split <;> simp; omega
theorem tks_cons (k w : Nat) (r : List Nat) : tks k (w :: r) = (if hitB k w = true then pc (mk' w) 32 else 0) + tks k r := by
  unfold tks
  rw [List.filter_cons]
  split <;> simp
theorem kd1 {w : Nat} (h : okw w = true) (hk : kd w = 1) : cl w < 5 ∧ mk' w ≠ 0 ∧ mk' w < 2 ^ per (cl w) := by
  unfold okw okc at h
  rw [if_neg (by omega), if_pos hk] at h
  simp only [Bool.and_eq_true, decide_eq_true_eq] at h
  exact ⟨h.1.1.1, h.1.1.2, h.1.2⟩
theorem pc_b {w : Nat} (h : okw w = true) (hk : kd w = 1) : 1 ≤ pc (mk' w) 32 ∧ pc (mk' w) 32 ≤ per (cl w) := by
  obtain ⟨h1, h2, h3⟩ := kd1 h hk
  have h16 := per16 (cl w)
  have hlt : mk' w < 4294967296 := by
    have : 2 ^ per (cl w) ≤ 2 ^ 16 := Nat.pow_le_pow_right (by omega) h16
    omega
  refine ⟨ons_ne h2 hlt, ?_⟩
  have := pc_end (mk' w) (per (cl w)) h3 (32 - per (cl w))
  rw [show per (cl w) + (32 - per (cl w)) = 32 by omega] at this
  rw [this]
  exact pc_le _ _
theorem T5_cons {w : Nat} (r : List Nat) (h : okw w = true) : P5 (w :: r) = (if kd w = 1 then 1 else 0) + P5 r ∧ T5 (w :: r) = (if kd w = 1 then tw w else 0) + T5 r := by
  unfold P5 T5
  simp only [pgs_cons, tks_cons]
  by_cases hk : kd w = 1
  · have hc := okw_cl h hk
    have ht : tw w = pc (mk' w) 32 * 2 ^ cl w := by unfold tw; rw [if_pos h, if_pos hk]
    rw [if_pos hk, if_pos hk, ht]
    have : cl w = 0 ∨ cl w = 1 ∨ cl w = 2 ∨ cl w = 3 ∨ cl w = 4 := by omega
    rcases this with hc | hc | hc | hc | hc <;> simp [hitB, hk, hc] <;> omega
  · rw [if_neg hk, if_neg hk]
    simp [hitB, hk]
theorem sc5 : ∀ (xs : List Nat) (b : Nat × Nat), (∀ w ∈ xs, okw w = true) → sc b xs = (b.1 + 16 * P5 xs, b.2 + T5 xs)
  | [], b, _ => by simp [sc, P5, T5, pgs, tks]
  | w :: r, b, h => by
    obtain ⟨h1, h2⟩ := T5_cons r (h w List.mem_cons_self)
    rw [sc, sc5 r _ (fun x hx => h x (List.mem_cons_of_mem _ hx)), h1, h2]
    by_cases hk : kd w = 1
    · simp only [if_pos hk]
      congr 1 <;> omega
    · simp only [if_neg hk]
      congr 1 <;> omega
theorem PT5 : ∀ (xs : List Nat), (∀ w ∈ xs, okw w = true) → P5 xs ≤ T5 xs ∧ T5 xs ≤ 16 * P5 xs ∧ P5 xs ≤ xs.length
  | [], _ => by simp [P5, T5, pgs, tks]
  | w :: r, h => by
    have ok := h w List.mem_cons_self
    obtain ⟨h1, h2⟩ := T5_cons r ok
    obtain ⟨i1, i2, i3⟩ := PT5 r (fun x hx => h x (List.mem_cons_of_mem _ hx))
    rw [h1, h2]
    by_cases hk : kd w = 1
    · obtain ⟨b1, b2⟩ := pc_b ok hk
      have hc := okw_cl ok hk
      have ht : tw w = pc (mk' w) 32 * 2 ^ cl w := by unfold tw; rw [if_pos ok, if_pos hk]
      rw [if_pos hk, if_pos hk]
      have : 1 ≤ tw w ∧ tw w ≤ 16 := by
        rw [ht]
        have : cl w = 0 ∨ cl w = 1 ∨ cl w = 2 ∨ cl w = 3 ∨ cl w = 4 := by omega
        rcases this with hc | hc | hc | hc | hc <;> rw [hc] at b2 ⊢ <;> simp [per] at b2 ⊢ <;> omega
      simp only [List.length_cons]
      omega
    · rw [if_neg hk, if_neg hk]
      simp only [List.length_cons]
      omega
/-- A row that a list of uses may hold. -/
def Rw (xs : List Nat) (r : R4) : Prop := ∃ k, k < 5 ∧ 0 < pgs k xs ∧ r = use k xs
theorem usesTo_mem {xs : List Nat} {n : Nat} (hn : n ≤ 5) {r : R4} (h : r ∈ usesTo xs n) : Rw xs r := by
  unfold usesTo at h
  obtain ⟨k, hk, e⟩ := List.mem_filterMap.1 h
  split at e
  · rename_i hp
    exact ⟨k, by have := List.mem_range.1 hk; omega, hp, (Option.some.inj e).symm⟩
  · cases e
theorem Rw.bd {xs : List Nat} {r : R4} (h : Rw xs r) (hl : xs.length ≤ 16) : ∃ k : Nat, k < 5 ∧ r.1 = k ∧ (-8192 ≤ r.2.2.2 * ((2 ^ k : Nat) : Int) ∧ r.2.2.2 * ((2 ^ k : Nat) : Int) ≤ 8192) ∧ (-8192 ≤ r.2.2.1 * ((2 ^ k : Nat) : Int) ∧ r.2.2.1 * ((2 ^ k : Nat) : Int) ≤ 8192) := by
  obtain ⟨k, hk, hp, rfl⟩ := h
  have h1 := pgs_le k xs
  have h2 := tks_le k xs
  refine ⟨k, hk, rfl, ?_⟩
  unfold use
  simp only
  generalize pgs k xs = p at h1
  generalize tks k xs = t at h2
  have : k = 0 ∨ k = 1 ∨ k = 2 ∨ k = 3 ∨ k = 4 := by omega
  rcases this with rfl | rfl | rfl | rfl | rfl
  · rw [show per 0 = 16 from rfl, show 2 ^ 0 = 1 from rfl]; omega
  · rw [show per 1 = 8 from rfl, show 2 ^ 1 = 2 from rfl]; omega
  · rw [show per 2 = 4 from rfl, show 2 ^ 2 = 4 from rfl]; omega
  · rw [show per 3 = 2 from rfl, show 2 ^ 3 = 8 from rfl]; omega
  · rw [show per 4 = 1 from rfl, show 2 ^ 4 = 16 from rfl]; omega
theorem sum_bd : ∀ (zs : List Int), (∀ z ∈ zs, -8192 ≤ z ∧ z ≤ 8192) → -8192 * (zs.length : Int) ≤ zs.sum ∧ zs.sum ≤ 8192 * (zs.length : Int)
  | [], _ => by simp
  | z :: r, h => by
    obtain ⟨i1, i2⟩ := sum_bd r (fun x hx => h x (List.mem_cons_of_mem _ hx))
    obtain ⟨z1, z2⟩ := h z List.mem_cons_self
    simp only [List.sum_cons, List.length_cons]
    omega
theorem sum_take {zs : List Int} {i : Nat} (h : i < zs.length) : (zs.take (i + 1)).sum = (zs.take i).sum + zs[i] := by
  rw [List.take_add_one, List.getElem?_eq_getElem h, List.sum_append]
  simp
set_option maxHeartbeats 2000000 in
theorem f87 (cs : List Nat) (hl : cs.length < 9223372036854775808) (hx : ∀ n ∈ cs, n < 256) : EvF fes 87 [LN cs] [.b true] := by
  refine EvF.w (fe := e87) (t := t87) rfl rfl ?_
  rw [show envA e87.sig [LN cs] = [LN cs] from rfl]
  simp only [Ja,Jb,Jc,Jd,Je,Jf,Jg,Jh,Ji,Jj,Jk,Jl,Jm,Jn,Jo,Jp,Jq,Jr,Js,Jt,Ju,Jv,Jw,envA,lensOf,Jx,Jy,Jz,JA,JB,JC,JD,JE,JF,JG,JH,JI,JJ,JK,JL,JM,JN,JO,JP,JQ,JR,JS,JT,JU,JV,JW,↓reduceIte,if_true,reduceCtorEq,Nat.reduceEqDiff,JX,JY,JZ,J0,J1,J2,J3,J4,J5,J6,J7,Ya,Yb,Yc,Yd,Ye,Yf,Int.cast_ofNat_Int,Yg,Yh,Int.reduceLT,Int.reduceLE,Int.reduceEq,Int.reduceAdd,Int.reduceMul,Int.reduceSub,Int.reduceNeg,Yi,Yj,Yk,Yl,Ym,Yn,Yo,Yp,Yq,Yr,Ys,Yt,Yu,Yv,Yw,Yx,Yy,Yz,YA,YB,YC,YD,YE,YF,YG,YH,YI,YJ,YK,YL,YM,YN,YO,YP,YQ,YR,YS,YT, t87]
  refine WC.mk (f0 cs) ?_
  by_cases hb : 1048576 < cs.length
  · have hb' : (1048576 : Int) < cs.length := by omega
    simp only [Ja,Jb,Jc,Jd,Je,Jf,Jg,Jh,Ji,Jj,Jk,Jl,Jm,Jn,Jo,Jp,Jq,Jr,Js,Jt,Ju,Jv,Jw,envA,lensOf,Jx,Jy,Jz,JA,JB,JC,JD,JE,JF,JG,JH,JI,JJ,JK,JL,JM,JN,JO,JP,JQ,JR,JS,JT,JU,JV,JW,↓reduceIte,if_true,reduceCtorEq,Nat.reduceEqDiff,JX,JY,JZ,J0,J1,J2,J3,J4,J5,J6,J7,Ya,Yb,Yc,Yd,Ye,Yf,Int.cast_ofNat_Int,Yg,Yh,Int.reduceLT,Int.reduceLE,Int.reduceEq,Int.reduceAdd,Int.reduceMul,Int.reduceSub,Int.reduceNeg,Yi,Yj,Yk,Yl,Ym,Yn,Yo,Yp,Yq,Yr,Ys,Yt,Yu,Yv,Yw,Yx,Yy,Yz,YA,YB,YC,YD,YE,YF,YG,YH,YI,YJ,YK,YL,YM,YN,YO,YP,YQ,YR,YS,YT, hb']
  have hb' : ¬ (1048576 : Int) < cs.length := by omega
  have hc : Code cs := ⟨by omega, hx⟩
  obtain ⟨xs, p1, l1, d1⟩ := drawScatter hc
  have p2 := f82 xs (by omega) d1
  have p3 := f84 xs (by omega) d1
  have p4 := f85 xs (by omega) d1
  simp only [Ja,Jb,Jc,Jd,Je,Jf,Jg,Jh,Ji,Jj,Jk,Jl,Jm,Jn,Jo,Jp,Jq,Jr,Js,Jt,Ju,Jv,Jw,envA,lensOf,Jx,Jy,Jz,JA,JB,JC,JD,JE,JF,JG,JH,JI,JJ,JK,JL,JM,JN,JO,JP,JQ,JR,JS,JT,JU,JV,JW,↓reduceIte,if_true,reduceCtorEq,Nat.reduceEqDiff,JX,JY,JZ,J0,J1,J2,J3,J4,J5,J6,J7,Ya,Yb,Yc,Yd,Ye,Yf,Int.cast_ofNat_Int,Yg,Yh,Int.reduceLT,Int.reduceLE,Int.reduceEq,Int.reduceAdd,Int.reduceMul,Int.reduceSub,Int.reduceNeg,Yi,Yj,Yk,Yl,Ym,Yn,Yo,Yp,Yq,Yr,Ys,Yt,Yu,Yv,Yw,Yx,Yy,Yz,YA,YB,YC,YD,YE,YF,YG,YH,YI,YJ,YK,YL,YM,YN,YO,YP,YQ,YR,YS,YT, hb']
  refine WC.mk p1 ?_
  simp only [Ja,Jb,Jc,Jd,Je,Jf,Jg,Jh,Ji,Jj,Jk,Jl,Jm,Jn,Jo,Jp,Jq,Jr,Js,Jt,Ju,Jv,Jw,envA,lensOf,Jx,Jy,Jz,JA,JB,JC,JD,JE,JF,JG,JH,JI,JJ,JK,JL,JM,JN,JO,JP,JQ,JR,JS,JT,JU,JV,JW,↓reduceIte,if_true,reduceCtorEq,Nat.reduceEqDiff,JX,JY,JZ,J0,J1,J2,J3,J4,J5,J6,J7,Ya,Yb,Yc,Yd,Ye,Yf,Int.cast_ofNat_Int,Yg,Yh,Int.reduceLT,Int.reduceLE,Int.reduceEq,Int.reduceAdd,Int.reduceMul,Int.reduceSub,Int.reduceNeg,Yi,Yj,Yk,Yl,Ym,Yn,Yo,Yp,Yq,Yr,Ys,Yt,Yu,Yv,Yw,Yx,Yy,Yz,YA,YB,YC,YD,YE,YF,YG,YH,YI,YJ,YK,YL,YM,YN,YO,YP,YQ,YR,YS,YT, len_LN]
  refine WC.mk p2 ?_
  simp only [Ja,Jb,Jc,Jd,Je,Jf,Jg,Jh,Ji,Jj,Jk,Jl,Jm,Jn,Jo,Jp,Jq,Jr,Js,Jt,Ju,Jv,Jw,envA,lensOf,Jx,Jy,Jz,JA,JB,JC,JD,JE,JF,JG,JH,JI,JJ,JK,JL,JM,JN,JO,JP,JQ,JR,JS,JT,JU,JV,JW,↓reduceIte,if_true,reduceCtorEq,Nat.reduceEqDiff,JX,JY,JZ,J0,J1,J2,J3,J4,J5,J6,J7,Ya,Yb,Yc,Yd,Ye,Yf,Int.cast_ofNat_Int,Yg,Yh,Int.reduceLT,Int.reduceLE,Int.reduceEq,Int.reduceAdd,Int.reduceMul,Int.reduceSub,Int.reduceNeg,Yi,Yj,Yk,Yl,Ym,Yn,Yo,Yp,Yq,Yr,Ys,Yt,Yu,Yv,Yw,Yx,Yy,Yz,YA,YB,YC,YD,YE,YF,YG,YH,YI,YJ,YK,YL,YM,YN,YO,YP,YQ,YR,YS,YT]
  refine WC.mk p3 ?_
  cases hk : okm xs with
  | false =>
    have e : scat xs = -1 := by simp [scat, hk]
    rw [e] at p3 ⊢
    simp only [Ja,Jb,Jc,Jd,Je,Jf,Jg,Jh,Ji,Jj,Jk,Jl,Jm,Jn,Jo,Jp,Jq,Jr,Js,Jt,Ju,Jv,Jw,envA,lensOf,Jx,Jy,Jz,JA,JB,JC,JD,JE,JF,JG,JH,JI,JJ,JK,JL,JM,JN,JO,JP,JQ,JR,JS,JT,JU,JV,JW,↓reduceIte,if_true,reduceCtorEq,Nat.reduceEqDiff,JX,JY,JZ,J0,J1,J2,J3,J4,J5,J6,J7,Ya,Yb,Yc,Yd,Ye,Yf,Int.cast_ofNat_Int,Yg,Yh,Int.reduceLT,Int.reduceLE,Int.reduceEq,Int.reduceAdd,Int.reduceMul,Int.reduceSub,Int.reduceNeg,Yi,Yj,Yk,Yl,Ym,Yn,Yo,Yp,Yq,Yr,Ys,Yt,Yu,Yv,Yw,Yx,Yy,Yz,YA,YB,YC,YD,YE,YF,YG,YH,YI,YJ,YK,YL,YM,YN,YO,YP,YQ,YR,YS,YT, len_LN]
    refine WC.mk p3 ?_
    simp only [Ja,Jb,Jc,Jd,Je,Jf,Jg,Jh,Ji,Jj,Jk,Jl,Jm,Jn,Jo,Jp,Jq,Jr,Js,Jt,Ju,Jv,Jw,envA,lensOf,Jx,Jy,Jz,JA,JB,JC,JD,JE,JF,JG,JH,JI,JJ,JK,JL,JM,JN,JO,JP,JQ,JR,JS,JT,JU,JV,JW,↓reduceIte,if_true,reduceCtorEq,Nat.reduceEqDiff,JX,JY,JZ,J0,J1,J2,J3,J4,J5,J6,J7,Ya,Yb,Yc,Yd,Ye,Yf,Int.cast_ofNat_Int,Yg,Yh,Int.reduceLT,Int.reduceLE,Int.reduceEq,Int.reduceAdd,Int.reduceMul,Int.reduceSub,Int.reduceNeg,Yi,Yj,Yk,Yl,Ym,Yn,Yo,Yp,Yq,Yr,Ys,Yt,Yu,Yv,Yw,Yx,Yy,Yz,YA,YB,YC,YD,YE,YF,YG,YH,YI,YJ,YK,YL,YM,YN,YO,YP,YQ,YR,YS,YT]
  | true =>
  obtain ⟨h16, hall⟩ := okm_all' hk
  have e5 := sc5 xs (0, 0) hall
  obtain ⟨q1, q2, q3⟩ := PT5 xs hall
  have hu : uses xs = usesTo xs 5 := by simp [uses, hk]
  have z1 := fsm5 xs
  have z2 := tsm5 xs
  have u5 := usesTo_len xs 5
  have hmem : ∀ r ∈ usesTo xs 5, Rw xs r := fun r hr => usesTo_mem (Nat.le_refl 5) hr
  have es : scat xs = if 16 * P5 xs = 0 then 0 else IntKind.i64.wrap ((1000 * ((16 * P5 xs : Nat) - (T5 xs : Nat) : Int)).tdiv (16 * P5 xs : Nat)) := by
    simp only [scat, hk, if_true, e5, Nat.zero_add]
  rw [hu] at p4
  generalize usesTo xs 5 = rs at *
  generalize P5 xs = p at *
  generalize T5 xs = t at *
  have hs : ∃ s : Nat, scat xs = s ∧ s < 1000 ∧ (p = 0 → s = 0) ∧ (p ≠ 0 → (1000 * (16 * (p : Int) - t)).tdiv (16 * (p : Int)) = s) := by
    rw [es]
    by_cases h0 : p = 0
    · subst h0
      exact ⟨0, by simp, by omega, fun _ => rfl, fun h => absurd rfl h⟩
    · have e1 : 1000 * (((16 * p : Nat) : Int) - (t : Int)) = ((1000 * (16 * p - t) : Nat) : Int) := by omega
      have e2 : (16 * (p : Int)) = ((16 * p : Nat) : Int) := by omega
      have e3 : 1000 * (16 * (p : Int) - t) = ((1000 * (16 * p - t) : Nat) : Int) := by omega
      have e4 : (((1000 * (16 * p - t) : Nat) : Int)).tdiv ((16 * p : Nat) : Int) = ((1000 * (16 * p - t) / (16 * p) : Nat) : Int) := rfl
      have lt : 1000 * (16 * p - t) / (16 * p) < 1000 := by
        rw [Nat.div_lt_iff_lt_mul (by omega)]
        omega
      refine ⟨1000 * (16 * p - t) / (16 * p), ?_, lt, fun h => absurd h h0, fun _ => ?_⟩
      · rw [if_neg (by omega), e1, e4]
        generalize 1000 * (16 * p - t) / (16 * p) = q at lt ⊢
        rw [wrap64 (by omega)]
      · rw [e3, e2, e4]
  obtain ⟨s, s1, s2, s3, s4⟩ := hs
  rw [s1] at p3 ⊢
  have s0 : ¬ (s : Int) < 0 := by omega
  have s9 : (s : Int) < 1000 := by omega
  simp only [Ja,Jb,Jc,Jd,Je,Jf,Jg,Jh,Ji,Jj,Jk,Jl,Jm,Jn,Jo,Jp,Jq,Jr,Js,Jt,Ju,Jv,Jw,envA,lensOf,Jx,Jy,Jz,JA,JB,JC,JD,JE,JF,JG,JH,JI,JJ,JK,JL,JM,JN,JO,JP,JQ,JR,JS,JT,JU,JV,JW,↓reduceIte,if_true,reduceCtorEq,Nat.reduceEqDiff,JX,JY,JZ,J0,J1,J2,J3,J4,J5,J6,J7,Ya,Yb,Yc,Yd,Ye,Yf,Int.cast_ofNat_Int,Yg,Yh,Int.reduceLT,Int.reduceLE,Int.reduceEq,Int.reduceAdd,Int.reduceMul,Int.reduceSub,Int.reduceNeg,Yi,Yj,Yk,Yl,Ym,Yn,Yo,Yp,Yq,Yr,Ys,Yt,Yu,Yv,Yw,Yx,Yy,Yz,YA,YB,YC,YD,YE,YF,YG,YH,YI,YJ,YK,YL,YM,YN,YO,YP,YQ,YR,YS,YT, len_LN, s0]
  refine WC.mk p4 ?_
  simp only [Ja,Jb,Jc,Jd,Je,Jf,Jg,Jh,Ji,Jj,Jk,Jl,Jm,Jn,Jo,Jp,Jq,Jr,Js,Jt,Ju,Jv,Jw,envA,lensOf,Jx,Jy,Jz,JA,JB,JC,JD,JE,JF,JG,JH,JI,JJ,JK,JL,JM,JN,JO,JP,JQ,JR,JS,JT,JU,JV,JW,↓reduceIte,if_true,reduceCtorEq,Nat.reduceEqDiff,JX,JY,JZ,J0,J1,J2,J3,J4,J5,J6,J7,Ya,Yb,Yc,Yd,Ye,Yf,Int.cast_ofNat_Int,Yg,Yh,Int.reduceLT,Int.reduceLE,Int.reduceEq,Int.reduceAdd,Int.reduceMul,Int.reduceSub,Int.reduceNeg,Yi,Yj,Yk,Yl,Ym,Yn,Yo,Yp,Yq,Yr,Ys,Yt,Yu,Yv,Yw,Yx,Yy,Yz,YA,YB,YC,YD,YE,YF,YG,YH,YI,YJ,YK,YL,YM,YN,YO,YP,YQ,YR,YS,YT, len_U4]
  refine LW.cnt rs.length (fun j => [.i (fsm (rs.take j)), .i (tsm (rs.take j)), .i (j : Nat)]) (fun j hj => ?_) ?_ (by simp [fsm, tsm])
  · have hj' : (j : Int) < rs.length := by omega
    obtain ⟨k, k5, r1, ⟨b1, b2⟩, b3, b4⟩ := (hmem _ (List.getElem_mem hj)).bd h16
    have jq : (j : Int) + 1 = ((j + 1 : Nat) : Int) := by omega
    have m1 := sum_bd ((rs.take j).map fun r => r.2.2.2 * ((2 ^ r.1.toNat : Nat) : Int)) (fun z hz => by
      obtain ⟨r, hr, rfl⟩ := List.mem_map.1 hz
      obtain ⟨k, k5, r1, ⟨b1, b2⟩, b3, b4⟩ := (hmem r (List.mem_of_mem_take hr)).bd h16
      simp only [r1, Int.toNat_natCast]
      exact ⟨b1, b2⟩)
    have m2 := sum_bd ((rs.take j).map fun r => r.2.2.1 * ((2 ^ r.1.toNat : Nat) : Int)) (fun z hz => by
      obtain ⟨r, hr, rfl⟩ := List.mem_map.1 hz
      obtain ⟨k, k5, r1, ⟨b1, b2⟩, b3, b4⟩ := (hmem r (List.mem_of_mem_take hr)).bd h16
      simp only [r1, Int.toNat_natCast]
      exact ⟨b3, b4⟩)
    have n1 : fsm (rs.take (j + 1)) = fsm (rs.take j) + rs[j].2.2.2 * ((2 ^ k : Nat) : Int) := by
      unfold fsm
      rw [List.map_take, sum_take (by simpa using hj), List.getElem_map, ← List.map_take, r1, Int.toNat_natCast]
    have n2 : tsm (rs.take (j + 1)) = tsm (rs.take j) + rs[j].2.2.1 * ((2 ^ k : Nat) : Int) := by
      unfold tsm
      rw [List.map_take, sum_take (by simpa using hj), List.getElem_map, ← List.map_take, r1, Int.toNat_natCast]
    rw [List.length_map, List.length_take] at m1 m2
    rw [n1, n2]
    change _ ≤ fsm (rs.take j) ∧ fsm (rs.take j) ≤ _ at m1
    change _ ≤ tsm (rs.take j) ∧ tsm (rs.take j) ≤ _ at m2
    have pcs := f86 k k5
    have g0 : (Pr.get [ki64, ki64, ki64, ki64] 0).eval [U4 rs, .i (j : Int)] = some (.i (k : Nat)) := by rw [get0_U4 hj, r1]
    have g2 := get2_U4 hj
    have g3 := get3_U4 hj
    generalize fsm (rs.take j) = F at m1
    generalize tsm (rs.take j) = T at m2
    generalize rs[j].2.2.2 = x at b1 b2 g3
    generalize rs[j].2.2.1 = y at b3 b4 g2
    generalize ((2 ^ k : Nat) : Int) = c at b1 b2 b3 b4 pcs
    obtain ⟨xc, exc⟩ : ∃ z, x * c = z := ⟨_, rfl⟩
    obtain ⟨yc, eyc⟩ : ∃ z, y * c = z := ⟨_, rfl⟩
    rw [exc] at b1 b2
    rw [eyc] at b3 b4
    rw [exc, eyc]
    (repeat (first | simp (disch := omega) only [wrap64, wrapU32, wrapU64, wrapU8] | simp only [Ja,Jb,Jc,Jd,Je,Jf,Jg,Jh,Ji,Jj,Jk,Jl,Jm,Jn,Jo,Jp,Jq,Jr,Js,Jt,Ju,Jv,Jw,envA,lensOf,Jx,Jy,Jz,JA,JB,JC,JD,JE,JF,JG,JH,JI,JJ,JK,JL,JM,JN,JO,JP,JQ,JR,JS,JT,JU,JV,JW,↓reduceIte,if_true,reduceCtorEq,Nat.reduceEqDiff,JX,JY,JZ,J0,J1,J2,J3,J4,J5,J6,J7,Ya,Yb,Yc,Yd,Ye,Yf,Int.cast_ofNat_Int,Yg,Yh,Int.reduceLT,Int.reduceLE,Int.reduceEq,Int.reduceAdd,Int.reduceMul,Int.reduceSub,Int.reduceNeg,Yi,Yj,Yk,Yl,Ym,Yn,Yo,Yp,Yq,Yr,Ys,Yt,Yu,Yv,Yw,Yx,Yy,Yz,YA,YB,YC,YD,YE,YF,YG,YH,YI,YJ,YK,YL,YM,YN,YO,YP,YQ,YR,YS,YT, len_U4, hj', g0, g3]))
    refine WC.mk pcs ?_
    (repeat (first | simp (disch := omega) only [wrap64, wrapU32, wrapU64, wrapU8] | simp only [Ja,Jb,Jc,Jd,Je,Jf,Jg,Jh,Ji,Jj,Jk,Jl,Jm,Jn,Jo,Jp,Jq,Jr,Js,Jt,Ju,Jv,Jw,envA,lensOf,Jx,Jy,Jz,JA,JB,JC,JD,JE,JF,JG,JH,JI,JJ,JK,JL,JM,JN,JO,JP,JQ,JR,JS,JT,JU,JV,JW,↓reduceIte,if_true,reduceCtorEq,Nat.reduceEqDiff,JX,JY,JZ,J0,J1,J2,J3,J4,J5,J6,J7,Ya,Yb,Yc,Yd,Ye,Yf,Int.cast_ofNat_Int,Yg,Yh,Int.reduceLT,Int.reduceLE,Int.reduceEq,Int.reduceAdd,Int.reduceMul,Int.reduceSub,Int.reduceNeg,Yi,Yj,Yk,Yl,Ym,Yn,Yo,Yp,Yq,Yr,Ys,Yt,Yu,Yv,Yw,Yx,Yy,Yz,YA,YB,YC,YD,YE,YF,YG,YH,YI,YJ,YK,YL,YM,YN,YO,YP,YQ,YR,YS,YT, len_U4, hj', g0, g2, exc]))
    refine WC.mk pcs ?_
    (repeat (first | simp (disch := omega) only [wrap64, wrapU32, wrapU64, wrapU8] | simp only [Ja,Jb,Jc,Jd,Je,Jf,Jg,Jh,Ji,Jj,Jk,Jl,Jm,Jn,Jo,Jp,Jq,Jr,Js,Jt,Ju,Jv,Jw,envA,lensOf,Jx,Jy,Jz,JA,JB,JC,JD,JE,JF,JG,JH,JI,JJ,JK,JL,JM,JN,JO,JP,JQ,JR,JS,JT,JU,JV,JW,↓reduceIte,if_true,reduceCtorEq,Nat.reduceEqDiff,JX,JY,JZ,J0,J1,J2,J3,J4,J5,J6,J7,Ya,Yb,Yc,Yd,Ye,Yf,Int.cast_ofNat_Int,Yg,Yh,Int.reduceLT,Int.reduceLE,Int.reduceEq,Int.reduceAdd,Int.reduceMul,Int.reduceSub,Int.reduceNeg,Yi,Yj,Yk,Yl,Ym,Yn,Yo,Yp,Yq,Yr,Ys,Yt,Yu,Yv,Yw,Yx,Yy,Yz,YA,YB,YC,YD,YE,YF,YG,YH,YI,YJ,YK,YL,YM,YN,YO,YP,YQ,YR,YS,YT, len_U4, hj', eyc, jq]))
  · have hj' : ¬ (rs.length : Int) < rs.length := by omega
    rw [List.take_length, z1, z2]
    have q : 16 * (p : Int) - t + t = 16 * (p : Int) := by omega
    by_cases h0 : p = 0
    · subst h0
      rw [s3 rfl]
      have t0 : t = 0 := by omega
      subst t0
      (repeat (first | simp (disch := omega) only [wrap64, wrapU32, wrapU64, wrapU8] | simp only [Ja,Jb,Jc,Jd,Je,Jf,Jg,Jh,Ji,Jj,Jk,Jl,Jm,Jn,Jo,Jp,Jq,Jr,Js,Jt,Ju,Jv,Jw,envA,lensOf,Jx,Jy,Jz,JA,JB,JC,JD,JE,JF,JG,JH,JI,JJ,JK,JL,JM,JN,JO,JP,JQ,JR,JS,JT,JU,JV,JW,↓reduceIte,if_true,reduceCtorEq,Nat.reduceEqDiff,JX,JY,JZ,J0,J1,J2,J3,J4,J5,J6,J7,Ya,Yb,Yc,Yd,Ye,Yf,Int.cast_ofNat_Int,Yg,Yh,Int.reduceLT,Int.reduceLE,Int.reduceEq,Int.reduceAdd,Int.reduceMul,Int.reduceSub,Int.reduceNeg,Yi,Yj,Yk,Yl,Ym,Yn,Yo,Yp,Yq,Yr,Ys,Yt,Yu,Yv,Yw,Yx,Yy,Yz,YA,YB,YC,YD,YE,YF,YG,YH,YI,YJ,YK,YL,YM,YN,YO,YP,YQ,YR,YS,YT, len_U4, hj', q]))
    · have h0' : ¬ (16 * (p : Int)) = 0 := by omega
      (repeat (first | simp (disch := omega) only [wrap64, wrapU32, wrapU64, wrapU8] | simp only [Ja,Jb,Jc,Jd,Je,Jf,Jg,Jh,Ji,Jj,Jk,Jl,Jm,Jn,Jo,Jp,Jq,Jr,Js,Jt,Ju,Jv,Jw,envA,lensOf,Jx,Jy,Jz,JA,JB,JC,JD,JE,JF,JG,JH,JI,JJ,JK,JL,JM,JN,JO,JP,JQ,JR,JS,JT,JU,JV,JW,↓reduceIte,if_true,reduceCtorEq,Nat.reduceEqDiff,JX,JY,JZ,J0,J1,J2,J3,J4,J5,J6,J7,Ya,Yb,Yc,Yd,Ye,Yf,Int.cast_ofNat_Int,Yg,Yh,Int.reduceLT,Int.reduceLE,Int.reduceEq,Int.reduceAdd,Int.reduceMul,Int.reduceSub,Int.reduceNeg,Yi,Yj,Yk,Yl,Ym,Yn,Yo,Yp,Yq,Yr,Ys,Yt,Yu,Yv,Yw,Yx,Yy,Yz,YA,YB,YC,YD,YE,YF,YG,YH,YI,YJ,YK,YL,YM,YN,YO,YP,YQ,YR,YS,YT, len_U4, hj', q, h0', s4 h0, s9]))
theorem law (ds : List D) (h : wfZ [.sl [.int .u8]] ds) : EvF fes 87 ds [.b true] := by
  obtain ⟨d0, r, rfl, h0, h⟩ := wfZ_cons h
  obtain rfl := wfZ_nil h
  obtain ⟨xs, rfl, hl, hx⟩ := bytes_of h0
  exact f87 xs hl hx
end Go.Proofs.Ytbacblphkppigaa.Scatter
