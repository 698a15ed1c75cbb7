/- Pages and blocks by class. -/
import Derived.Test.YtbacblphkppigaaUsesQD
import Derived.Test.YtbacblphkppigaaUsesPUses
import Derived.Test.YtbacblphkppigaaUsesPWho
import Derived.Test.YtbacblphkppigaaUsesPSum
set_option linter.unusedVariables false
set_option linter.unusedSimpArgs false
namespace Go.Proofs.Ytbacblphkppigaa.Uses
open Go.BH
set_option maxRecDepth 100000
theorem tks_zero {k : Nat} {l : List Nat} (h : pgs k l = 0) : tks k l = 0 := by
  unfold pgs at h
  unfold tks
  rw [List.eq_nil_of_length_eq_zero h]
  rfl
def P5 (xs : List Nat) : Nat := pgs 0 xs + pgs 1 xs + pgs 2 xs + pgs 3 xs + pgs 4 xs
def T5 (xs : List Nat) : Nat := tks 0 xs + 2 * tks 1 xs + 4 * tks 2 xs + 8 * tks 3 xs + 16 * tks 4 xs
theorem pgs_cons (k w : Nat) (r : List Nat) : pgs k (w :: r) = (if hitB k w = true then 1 else 0) + pgs k r := by
  unfold pgs
  rw [List.filter_cons]
  split <;> simp; omega
theorem tks_cons (k w : Nat) (r : List Nat) : tks k (w :: r) = (if hitB k w = true then pc (mk' w) 32 else 0) + tks k r := by
  unfold tks
  rw [List.filter_cons]
  split <;> simp
theorem kd1 {w : Nat} (h : okw w = true) (hk : kd w = 1) : cl w < 5 ∧ mk' w ≠ 0 ∧ mk' w < 2 ^ per (cl w) := by
  unfold okw okc at h
  rw [if_neg (by omega), if_pos hk] at h
  simp only [Bool.and_eq_true, decide_eq_true_eq] at h
  exact ⟨h.1.1.1, h.1.1.2, h.1.2⟩
theorem pc_b {w : Nat} (h : okw w = true) (hk : kd w = 1) : 1 ≤ pc (mk' w) 32 ∧ pc (mk' w) 32 ≤ per (cl w) := by
  obtain ⟨h1, h2, h3⟩ := kd1 h hk
  have h16 := per16 (cl w)
  have hlt : mk' w < 4294967296 := by
    have : 2 ^ per (cl w) ≤ 2 ^ 16 := Nat.pow_le_pow_right (by omega) h16
    omega
  refine ⟨ons_ne h2 hlt, ?_⟩
  have := pc_end (mk' w) (per (cl w)) h3 (32 - per (cl w))
  rw [show per (cl w) + (32 - per (cl w)) = 32 by omega] at this
  rw [this]
  exact pc_le _ _
theorem T5_cons {w : Nat} (r : List Nat) (h : okw w = true) : P5 (w :: r) = (if kd w = 1 then 1 else 0) + P5 r ∧ T5 (w :: r) = (if kd w = 1 then tw w else 0) + T5 r := by
  unfold P5 T5
  simp only [pgs_cons, tks_cons]
  by_cases hk : kd w = 1
  · have hc := okw_cl h hk
    have ht : tw w = pc (mk' w) 32 * 2 ^ cl w := by unfold tw; rw [if_pos h, if_pos hk]
    rw [if_pos hk, if_pos hk, ht]
    have : cl w = 0 ∨ cl w = 1 ∨ cl w = 2 ∨ cl w = 3 ∨ cl w = 4 := by omega
    rcases this with hc | hc | hc | hc | hc <;> simp [hitB, hk, hc] <;> omega
  · rw [if_neg hk, if_neg hk]
    simp [hitB, hk]
theorem PT5 : ∀ (xs : List Nat), (∀ w ∈ xs, okw w = true) → P5 xs ≤ T5 xs ∧ T5 xs ≤ 16 * P5 xs ∧ P5 xs ≤ xs.length
  | [], _ => by simp [P5, T5, pgs, tks]
  | w :: r, h => by
    have ok := h w List.mem_cons_self
    obtain ⟨h1, h2⟩ := T5_cons r ok
    obtain ⟨i1, i2, i3⟩ := PT5 r (fun x hx => h x (List.mem_cons_of_mem _ hx))
    rw [h1, h2]
    by_cases hk : kd w = 1
    · obtain ⟨b1, b2⟩ := pc_b ok hk
      have hc := okw_cl ok hk
      have ht : tw w = pc (mk' w) 32 * 2 ^ cl w := by unfold tw; rw [if_pos ok, if_pos hk]
      rw [if_pos hk, if_pos hk]
      have : 1 ≤ tw w ∧ tw w ≤ 16 := by
        rw [ht]
        have : cl w = 0 ∨ cl w = 1 ∨ cl w = 2 ∨ cl w = 3 ∨ cl w = 4 := by omega
        rcases this with hc | hc | hc | hc | hc <;> rw [hc] at b2 ⊢ <;> simp [per] at b2 ⊢ <;> omega
      simp only [List.length_cons]
      omega
    · rw [if_neg hk, if_neg hk]
      simp only [List.length_cons]
      omega
/-- A row that a list of uses may hold. -/
def Rw (xs : List Nat) (r : R4) : Prop := ∃ k, k < 5 ∧ 0 < pgs k xs ∧ r = use k xs
theorem usesTo_mem {xs : List Nat} {n : Nat} (hn : n ≤ 5) {r : R4} (h : r ∈ usesTo xs n) : Rw xs r := by
  unfold usesTo at h
  obtain ⟨k, hk, e⟩ := List.mem_filterMap.1 h
  split at e
  · rename_i hp
    exact ⟨k, by have := List.mem_range.1 hk; omega, hp, (Option.some.inj e).symm⟩
  · cases e
theorem Rw.bd {xs : List Nat} {r : R4} (h : Rw xs r) (hl : xs.length ≤ 16) : ∃ k : Nat, k < 5 ∧ r.1 = k ∧ (-8192 ≤ r.2.2.2 * ((2 ^ k : Nat) : Int) ∧ r.2.2.2 * ((2 ^ k : Nat) : Int) ≤ 8192) ∧ (-8192 ≤ r.2.2.1 * ((2 ^ k : Nat) : Int) ∧ r.2.2.1 * ((2 ^ k : Nat) : Int) ≤ 8192) := by
  obtain ⟨k, hk, hp, rfl⟩ := h
  have h1 := pgs_le k xs
  have h2 := tks_le k xs
  refine ⟨k, hk, rfl, ?_⟩
  unfold use
  simp only
  generalize pgs k xs = p at h1
  generalize tks k xs = t at h2
  have : k = 0 ∨ k = 1 ∨ k = 2 ∨ k = 3 ∨ k = 4 := by omega
  rcases this with rfl | rfl | rfl | rfl | rfl
  · rw [show per 0 = 16 from rfl, show 2 ^ 0 = 1 from rfl]; omega
  · rw [show per 1 = 8 from rfl, show 2 ^ 1 = 2 from rfl]; omega
  · rw [show per 2 = 4 from rfl, show 2 ^ 2 = 4 from rfl]; omega
  · rw [show per 3 = 2 from rfl, show 2 ^ 3 = 8 from rfl]; omega
  · rw [show per 4 = 1 from rfl, show 2 ^ 4 = 16 from rfl]; omega
theorem sum_bd : ∀ (zs : List Int), (∀ z ∈ zs, -8192 ≤ z ∧ z ≤ 8192) → -8192 * (zs.length : Int) ≤ zs.sum ∧ zs.sum ≤ 8192 * (zs.length : Int)
  | [], _ => by simp
  | z :: r, h => by
    obtain ⟨i1, i2⟩ := sum_bd r (fun x hx => h x (List.mem_cons_of_mem _ hx))
    obtain ⟨z1, z2⟩ := h z List.mem_cons_self
    simp only [List.sum_cons, List.length_cons]
    omega
theorem sum_take {zs : List Int} {i : Nat} (h : i < zs.length) : (zs.take (i + 1)).sum = (zs.take i).sum + zs[i] := by
  rw [List.take_add_one, List.getElem?_eq_getElem h, List.sum_append]
  simp
theorem pages5 : ∀ (xs : List Nat), (∀ w ∈ xs, okw w = true) → xs.countP pP = P5 xs
  | [], _ => by simp [P5, pgs]
  | w :: r, h => by
    have ok := h w List.mem_cons_self
    obtain ⟨h1, h2⟩ := T5_cons r ok
    rw [List.countP_cons, pages5 r (fun x hx => h x (List.mem_cons_of_mem _ hx)), h1]
    by_cases hk : kd w = 1 <;> simp [pP, hk] <;> omega
theorem pow_inj5 : ∀ a : Nat, a < 5 → ∀ b : Nat, b < 5 → 2 ^ a = 2 ^ b → a = b := by decide
theorem pow_le5 : ∀ a : Nat, a < 5 → 2 ^ a ≤ 16 := by decide
theorem kd2 {w : Nat} (h : okw w = true) (hk : kd w = 2) : 2 ≤ pn w := by
  unfold okw okc at h
  rw [if_neg (by omega), if_neg (by omega), if_pos hk] at h
  simp only [Bool.and_eq_true, decide_eq_true_eq] at h
  exact h.1.2
def cz (k : Nat) (ps : List (Nat × Nat)) : Nat := ps.countP fun p => decide (p.2 = 2 ^ k)
theorem cz_bw {k i w : Nat} (hk : k < 5) (h : okw w = true) : cz k (bw i w) = if hitB k w = true then pc (mk' w) 32 else 0 := by
  unfold cz bw hitB
  by_cases h1 : kd w = 1
  · have hc := okw_cl h h1
    rw [if_pos h1, List.countP_map]
    by_cases hck : cl w = k
    · have : ((fun p : Nat × Nat => decide (p.2 = 2 ^ k)) ∘ fun j => (16 * i + j * 2 ^ cl w, 2 ^ cl w)) = fun _ => true := by
        funext j; simp [hck]
      rw [this]
      simp [h1, hck, pc]
    · have hne : ¬ 2 ^ cl w = 2 ^ k := fun e => hck (pow_inj5 _ hc _ hk e)
      have : ((fun p : Nat × Nat => decide (p.2 = 2 ^ k)) ∘ fun j => (16 * i + j * 2 ^ cl w, 2 ^ cl w)) = fun _ => false := by
        funext j; simp only [Function.comp_apply]; exact decide_eq_false hne
      rw [this]
      simp [h1, hck]
  · rw [if_neg h1]
    by_cases h2 : kd w = 2
    · have hn := kd2 h h2
      have hp := pow_le5 k hk
      have : ¬ 16 * pn w = 2 ^ k := by omega
      rw [if_pos h2]
      simp [h1, this]
    · rw [if_neg h2]
      simp [h1]
theorem cz_aud {k : Nat} (hk : k < 5) : ∀ (i : Nat) (xs : List Nat), (∀ w ∈ xs, okw w = true) → cz k (audR i xs) = tks k xs
  | _, [], _ => by simp [cz, audR, tks]
  | i, w :: r, h => by
    have ih := cz_aud hk (i + 1) r (fun x hx => h x (List.mem_cons_of_mem _ hx))
    have h1 := cz_bw (i := i) hk (h w List.mem_cons_self)
    rw [tks_cons, ← ih, ← h1, audR]
    unfold cz
    rw [List.countP_append]
def psm (rs : List R4) : Int := (rs.map fun r => r.2.1).sum
theorem psm_succ (xs : List Nat) (n : Nat) : psm (usesTo xs (n + 1)) = psm (usesTo xs n) + (pgs n xs : Int) := by
  rw [usesTo_succ]
  unfold psm
  rw [List.map_append, List.sum_append]
  by_cases h : 0 < pgs n xs
  · rw [if_pos h]
    simp only [List.map_cons, List.map_nil, List.sum_cons, List.sum_nil, use, Int.add_zero]
  · rw [if_neg h, show pgs n xs = 0 by omega]
    simp
theorem psm5 (xs : List Nat) : psm (usesTo xs 5) = (P5 xs : Int) := by
  rw [psm_succ, psm_succ, psm_succ, psm_succ, psm_succ, show psm (usesTo xs 0) = 0 from rfl, P5]
  omega
theorem usesTo_lt {xs : List Nat} {n : Nat} {r : R4} (h : r ∈ usesTo xs n) : r.1 < n := by
  unfold usesTo at h
  obtain ⟨k, hk, e⟩ := List.mem_filterMap.1 h
  have := List.mem_range.1 hk
  split at e
  · rw [← Option.some.inj e]
    show (k : Int) < n
    omega
  · cases e
theorem usesTo_inc (xs : List Nat) : ∀ n, (usesTo xs n).Pairwise (fun a b => a.1 < b.1)
  | 0 => by simp [usesTo]
  | n + 1 => by
    rw [usesTo_succ, List.pairwise_append]
    refine ⟨usesTo_inc xs n, ?_, ?_⟩
    · split <;> simp
    · intro a ha b hb
      have := usesTo_lt ha
      split at hb
      · rw [List.mem_singleton.1 hb]; exact this
      · cases hb
theorem pgs_tks : ∀ (k : Nat) (xs : List Nat), (∀ w ∈ xs, okw w = true) → pgs k xs ≤ tks k xs
  | k, [], _ => by simp [pgs, tks]
  | k, w :: r, h => by
    have ih := pgs_tks k r (fun x hx => h x (List.mem_cons_of_mem _ hx))
    rw [pgs_cons, tks_cons]
    by_cases hb : hitB k w = true
    · have hk : kd w = 1 := by
        unfold hitB at hb
        simp only [Bool.and_eq_true, decide_eq_true_eq] at hb
        exact hb.1
      have := (pc_b (h w List.mem_cons_self) hk).1
      rw [if_pos hb, if_pos hb]
      omega
    · rw [if_neg hb, if_neg hb]
      omega
theorem f86 (xs : List Nat) (hl : xs.length < 9223372036854775808) (hx : ∀ n ∈ xs, n < 4294967296) : EvF fes 86 [LN xs] (if okm xs = true then [.b true, LP (audR 0 xs)] else [.b false, LP []]) := by
  refine EvF.w (fe := e86) (t := t86) rfl rfl ?_
  rw [show envA e86.sig [LN xs] = [LN xs] from rfl]
  simp only [Ja,Jb,Jc,Jd,Je,Jf,Jg,Jh,Ji,Jj,Jk,Jl,Jm,Jn,Jo,Jp,Jq,Jr,Js,Jt,Ju,Jv,Jw,envA,lensOf,Jx,Jy,Jz,JA,JB,JC,JD,JE,JF,JG,JH,JI,JJ,JK,JL,JM,JN,JO,JP,JQ,JR,JS,JT,JU,JV,JW,↓reduceIte,if_true,reduceCtorEq,Nat.reduceEqDiff,JX,JY,JZ,J0,J1,J2,J3,J4,J5,J6,J7,Ya,Yb,Yc,Yd,Ye,Yf,Int.cast_ofNat_Int,Yg,Yh,Int.reduceLT,Int.reduceLE,Int.reduceEq,Int.reduceAdd,Int.reduceMul,Int.reduceSub,Int.reduceNeg,Yi,Yj,Yk,Yl,Ym,Yn,Yo,Yp,Yq,Yr,Ys,Yt,Yu,Yv,Yw,Yx,Yy,Yz,YA,YB,YC,YD,YE,YF,YG,YH,YI,YJ,YK,YL,YM,YN,YO,YP,YQ,YR,YS,YT, t86]
  refine WC.mk (f78 xs hl hx) ?_
  cases hk : okm xs with
  | false =>
    simp only [Ja,Jb,Jc,Jd,Je,Jf,Jg,Jh,Ji,Jj,Jk,Jl,Jm,Jn,Jo,Jp,Jq,Jr,Js,Jt,Ju,Jv,Jw,envA,lensOf,Jx,Jy,Jz,JA,JB,JC,JD,JE,JF,JG,JH,JI,JJ,JK,JL,JM,JN,JO,JP,JQ,JR,JS,JT,JU,JV,JW,↓reduceIte,if_true,reduceCtorEq,Nat.reduceEqDiff,JX,JY,JZ,J0,J1,J2,J3,J4,J5,J6,J7,Ya,Yb,Yc,Yd,Ye,Yf,Int.cast_ofNat_Int,Yg,Yh,Int.reduceLT,Int.reduceLE,Int.reduceEq,Int.reduceAdd,Int.reduceMul,Int.reduceSub,Int.reduceNeg,Yi,Yj,Yk,Yl,Ym,Yn,Yo,Yp,Yq,Yr,Ys,Yt,Yu,Yv,Yw,Yx,Yy,Yz,YA,YB,YC,YD,YE,YF,YG,YH,YI,YJ,YK,YL,YM,YN,YO,YP,YQ,YR,YS,YT]
    rfl
  | true =>
    simp only [Ja,Jb,Jc,Jd,Je,Jf,Jg,Jh,Ji,Jj,Jk,Jl,Jm,Jn,Jo,Jp,Jq,Jr,Js,Jt,Ju,Jv,Jw,envA,lensOf,Jx,Jy,Jz,JA,JB,JC,JD,JE,JF,JG,JH,JI,JJ,JK,JL,JM,JN,JO,JP,JQ,JR,JS,JT,JU,JV,JW,↓reduceIte,if_true,reduceCtorEq,Nat.reduceEqDiff,JX,JY,JZ,J0,J1,J2,J3,J4,J5,J6,J7,Ya,Yb,Yc,Yd,Ye,Yf,Int.cast_ofNat_Int,Yg,Yh,Int.reduceLT,Int.reduceLE,Int.reduceEq,Int.reduceAdd,Int.reduceMul,Int.reduceSub,Int.reduceNeg,Yi,Yj,Yk,Yl,Ym,Yn,Yo,Yp,Yq,Yr,Ys,Yt,Yu,Yv,Yw,Yx,Yy,Yz,YA,YB,YC,YD,YE,YF,YG,YH,YI,YJ,YK,YL,YM,YN,YO,YP,YQ,YR,YS,YT]
    refine WC.mk (f85 xs hk hx) ?_
    simp only [Ja,Jb,Jc,Jd,Je,Jf,Jg,Jh,Ji,Jj,Jk,Jl,Jm,Jn,Jo,Jp,Jq,Jr,Js,Jt,Ju,Jv,Jw,envA,lensOf,Jx,Jy,Jz,JA,JB,JC,JD,JE,JF,JG,JH,JI,JJ,JK,JL,JM,JN,JO,JP,JQ,JR,JS,JT,JU,JV,JW,↓reduceIte,if_true,reduceCtorEq,Nat.reduceEqDiff,JX,JY,JZ,J0,J1,J2,J3,J4,J5,J6,J7,Ya,Yb,Yc,Yd,Ye,Yf,Int.cast_ofNat_Int,Yg,Yh,Int.reduceLT,Int.reduceLE,Int.reduceEq,Int.reduceAdd,Int.reduceMul,Int.reduceSub,Int.reduceNeg,Yi,Yj,Yk,Yl,Ym,Yn,Yo,Yp,Yq,Yr,Ys,Yt,Yu,Yv,Yw,Yx,Yy,Yz,YA,YB,YC,YD,YE,YF,YG,YH,YI,YJ,YK,YL,YM,YN,YO,YP,YQ,YR,YS,YT, len_LP]
end Go.Proofs.Ytbacblphkppigaa.Uses
