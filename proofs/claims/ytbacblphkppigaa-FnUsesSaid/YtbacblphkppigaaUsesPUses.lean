/- UsesOf: both sides. -/
import Derived.Test.YtbacblphkppigaaUsesQA
import Derived.Test.YtbacblphkppigaaMR
set_option linter.unusedVariables false
set_option linter.unusedSimpArgs false
namespace Go.Proofs.Ytbacblphkppigaa.Uses
open Go.BH
set_option maxRecDepth 100000
abbrev R4 : Type := Int × Int × Int × Int
def U4 (rs : List R4) : D := .l (rs.map fun r => .l [.i r.1, .i r.2.1, .i r.2.2.1, .i r.2.2.2])
theorem len_U4 {e : List CK} {rs : List R4} : (Pr.len e).eval [U4 rs] = some (.i rs.length) := by simp [U4]
theorem mk_U4 {a b c d : Int} : (Pr.mk [ki64, ki64, ki64, ki64] 1).eval [.i a, .i b, .i c, .i d] = some (U4 [(a, b, c, d)]) := rfl
theorem rowsOf_4 {a b c d : CK} {x y z u : D} : rowsOf [a, b, c, d] 1 [x, y, z, u] = [.l [x, y, z, u]] := rfl
theorem U4_one {a b c d : Int} : D.l [D.l [.i a, .i b, .i c, .i d]] = U4 [(a, b, c, d)] := rfl
theorem app_U4 {rs qs : List R4} (h : rs.length + qs.length < 1000000) : (Pr.app [ki64, ki64, ki64, ki64] 32).eval [U4 rs, U4 qs] = some (U4 (rs ++ qs)) := by
  rw [U4, U4, ev_app, if_pos (by simp only [List.length_map]; omega)]
  simp [U4]
theorem row_4 {a b c d : CK} {l : List D} : row [a, b, c, d] (.l l) = l := rfl
theorem unrow_4 {a b c d : CK} {l : List D} : unrow [a, b, c, d] l = .l l := rfl
theorem get0_U4 {rs : List R4} {i : Nat} (h : i < rs.length) : (Pr.get [ki64, ki64, ki64, ki64] 0).eval [U4 rs, .i (i : Int)] = some (.i rs[i].1) := by simp [U4, row_4, h]
theorem get1_U4 {rs : List R4} {i : Nat} (h : i < rs.length) : (Pr.get [ki64, ki64, ki64, ki64] 1).eval [U4 rs, .i (i : Int)] = some (.i rs[i].2.1) := by simp [U4, row_4, h]
theorem get2_U4 {rs : List R4} {i : Nat} (h : i < rs.length) : (Pr.get [ki64, ki64, ki64, ki64] 2).eval [U4 rs, .i (i : Int)] = some (.i rs[i].2.2.1) := by simp [U4, row_4, h]
theorem get3_U4 {rs : List R4} {i : Nat} (h : i < rs.length) : (Pr.get [ki64, ki64, ki64, ki64] 3).eval [U4 rs, .i (i : Int)] = some (.i rs[i].2.2.2) := by simp [U4, row_4, h]
theorem modify_map {α β : Type} {f : α → β} {g : β → β} {h : α → α} : ∀ {l : List α} {i : Nat}, (∀ a, g (f a) = f (h a)) → (l.map f).modify i g = (l.modify i h).map f
  | [], i, hg => by simp
  | a :: l, 0, hg => by simp [hg]
  | a :: l, i + 1, hg => by simp [modify_map hg]
theorem set0_U4 {rs : List R4} {i : Nat} {v : Int} (h : i < rs.length) : (Pr.set [ki64, ki64, ki64, ki64] 0).eval [U4 rs, .i (i : Int), .i v] = some (U4 (rs.modify i fun r => (v, r.2))) := by
  rw [U4, ev_set, if_pos (by simp only [List.length_map]; omega), Int.toNat_natCast]
  congr 2
  exact modify_map (fun a => by simp [setRow, row_4, unrow_4])
theorem set1_U4 {rs : List R4} {i : Nat} {v : Int} (h : i < rs.length) : (Pr.set [ki64, ki64, ki64, ki64] 1).eval [U4 rs, .i (i : Int), .i v] = some (U4 (rs.modify i fun r => (r.1, v, r.2.2))) := by
  rw [U4, ev_set, if_pos (by simp only [List.length_map]; omega), Int.toNat_natCast]
  congr 2
  exact modify_map (fun a => by simp [setRow, row_4, unrow_4])
theorem set2_U4 {rs : List R4} {i : Nat} {v : Int} (h : i < rs.length) : (Pr.set [ki64, ki64, ki64, ki64] 2).eval [U4 rs, .i (i : Int), .i v] = some (U4 (rs.modify i fun r => (r.1, r.2.1, v, r.2.2.2))) := by
  rw [U4, ev_set, if_pos (by simp only [List.length_map]; omega), Int.toNat_natCast]
  congr 2
  exact modify_map (fun a => by simp [setRow, row_4, unrow_4])
theorem set3_U4 {rs : List R4} {i : Nat} {v : Int} (h : i < rs.length) : (Pr.set [ki64, ki64, ki64, ki64] 3).eval [U4 rs, .i (i : Int), .i v] = some (U4 (rs.modify i fun r => (r.1, r.2.1, r.2.2.1, v))) := by
  rw [U4, ev_set, if_pos (by simp only [List.length_map]; omega), Int.toNat_natCast]
  congr 2
  exact modify_map (fun a => by simp [setRow, row_4, unrow_4])
theorem cut_U4 {k1 k2 : IntKind} {rs : List R4} {n : Int} (h : n = rs.length) : (Pr.cut [ki64, ki64, ki64, ki64] k1 k2).eval [U4 rs, .i 0, .i n] = some (U4 rs) := by
  subst h
  rw [U4, ev_cut, if_pos (by simp only [List.length_map]; omega)]
  simp
  exact List.take_of_length_le (by simp)
/-! ### the law's own helpers -/
def m4 (j : Nat) : R4 := (4 * j + 1, 4 * j + 2, 4 * j + 3, 4 * j + 4)
def ml4 (n : Nat) : List R4 := (List.range n).map m4
theorem ml4_len (n : Nat) : (ml4 n).length = n := by simp [ml4]
theorem ml4_get {n i : Nat} (h : i < (ml4 n).length) : (ml4 n)[i] = m4 i := by simp [ml4]
def mx4 (rs : List R4) (i : Nat) : List R4 := ml4 i ++ rs.drop i
theorem mx4_len {rs : List R4} {i : Nat} (h : i ≤ rs.length) : (mx4 rs i).length = rs.length := by
  simp [mx4, ml4_len]
  omega
theorem mx4_step {rs : List R4} {i : Nat} (h : i < rs.length) {g : R4 → R4} (hg : ∀ r, g r = m4 i) : (mx4 rs i).modify i g = mx4 rs (i + 1) := by
  unfold mx4
  rw [List.drop_eq_getElem_cons h]
  have : ∀ (a b : List R4) (z : R4), a.length = i → (a ++ z :: b).modify i g = a ++ g z :: b := by
    intro a b z ha
    subst ha
    clear h hg
    induction a with
    | nil => rfl
    | cons x a ih => simp [ih]
  rw [this _ _ _ (ml4_len i), hg]
  simp [ml4, List.range_succ]
theorem modify_modify {α : Type} {g h : α → α} : ∀ {l : List α} {i : Nat}, (l.modify i g).modify i h = l.modify i (fun a => h (g a))
  | [], i => by simp
  | a :: l, 0 => by simp
  | a :: l, i + 1 => by simp [modify_modify]
/-! ### pages by class -/
def hitB (k w : Nat) : Bool := decide (kd w = 1) && decide (cl w = k)
def pgs (k : Nat) (l : List Nat) : Nat := (l.filter (hitB k)).length
def tks (k : Nat) (l : List Nat) : Nat := ((l.filter (hitB k)).map fun w => pc (mk' w) 32).sum
def use (k : Nat) (l : List Nat) : R4 := (k, pgs k l, tks k l, (pgs k l : Int) * per k - tks k l)
def usesTo (xs : List Nat) (n : Nat) : List R4 := (List.range n).filterMap fun k => if 0 < pgs k xs then some (use k xs) else none
theorem usesTo_succ (xs : List Nat) (n : Nat) : usesTo xs (n + 1) = usesTo xs n ++ (if 0 < pgs n xs then [use n xs] else []) := by
  unfold usesTo
  rw [List.range_succ, List.filterMap_append]
  by_cases h : 0 < pgs n xs <;> simp [h]
theorem usesTo_len (xs : List Nat) (n : Nat) : (usesTo xs n).length ≤ n := by
  have := List.length_filterMap_le (fun k => if 0 < pgs k xs then some (use k xs) else none) (List.range n)
  simpa [usesTo] using this
theorem filt_take {xs : List Nat} {k i : Nat} (h : i < xs.length) : (xs.take (i + 1)).filter (hitB k) = (xs.take i).filter (hitB k) ++ (if hitB k xs[i] = true then [xs[i]] else []) := by
  rw [List.take_add_one, List.getElem?_eq_getElem h, List.filter_append]
  by_cases hh : hitB k xs[i] = true <;> simp [hh]
theorem pgs_take {xs : List Nat} {k i : Nat} (h : i < xs.length) : pgs k (xs.take (i + 1)) = pgs k (xs.take i) + (if hitB k xs[i] = true then 1 else 0) := by
  unfold pgs
  rw [filt_take h]
  split <;> simp
theorem tks_take {xs : List Nat} {k i : Nat} (h : i < xs.length) : tks k (xs.take (i + 1)) = tks k (xs.take i) + (if hitB k xs[i] = true then pc (mk' xs[i]) 32 else 0) := by
  unfold tks
  rw [filt_take h]
  split <;> simp
theorem pgs_le (k : Nat) (l : List Nat) : pgs k l ≤ l.length := List.length_filter_le _ _
theorem tks_le (k : Nat) : ∀ (l : List Nat), tks k l ≤ 32 * l.length
  | [] => by simp [tks]
  | w :: r => by
    have ih := tks_le k r
    have hp := pc_le (mk' w) 32
    unfold tks at ih ⊢
    rw [List.filter_cons]
    split
    · simp only [List.map_cons, List.sum_cons, List.length_cons]
      omega
    · simp only [List.length_cons]
      omega
theorem per_le (c : Nat) : per c ≤ 16 := by
  unfold per
  split
  · exact Nat.div_le_self _ _
  · omega
theorem mulP (k : Nat) (p : Nat) : (p : Int) * per k + per k = ((p + 1 : Nat) : Int) * per k := by
  rw [Int.natCast_add, Int.add_mul]
  simp
theorem rdw_ok {w : Nat} (h : okw w = true) : rdw w = [.b true, .i (kd w), .i (cl w), .i (mk' w), .i (pn w)] := by rw [rdw, if_pos h]
theorem mulB (k : Nat) (l : List Nat) (h : l.length ≤ 16) : 0 ≤ (pgs k l : Int) * per k ∧ (pgs k l : Int) * per k ≤ 256 := by
  have h1 := pgs_le k l
  have h2 := per_le k
  have h3 : pgs k l * per k ≤ 16 * 16 := Nat.mul_le_mul (by omega) h2
  rw [← Int.natCast_mul]
  omega
def uses (xs : List Nat) : List R4 := if okm xs = true then usesTo xs 5 else []
theorem uses_len (xs : List Nat) : (uses xs).length ≤ 5 := by
  unfold uses
  split
  · exact usesTo_len xs 5
  · simp
theorem U4_nil : D.l [] = U4 [] := rfl
set_option maxHeartbeats 1000000 in
theorem f82 (xs : List Nat) (hl : xs.length < 4611686018427387904) (hx : ∀ n ∈ xs, n < 4294967296) : EvF fes 82 [LN xs] [U4 (uses xs)] := by
  refine EvF.w (fe := e82) (t := t82) rfl rfl ?_
  have hm := f35 xs (by omega) hx
  unfold uses
  cases hk : okm xs with
  | false =>
    rw [hk] at hm
    simp only [Ja,Jb,Jc,Jd,Je,Jf,Jg,Jh,Ji,Jj,Jk,Jl,Jm,Jn,Jo,Jp,Jq,Jr,Js,Jt,Ju,Jv,Jw,envA,lensOf,Jx,Jy,Jz,JA,JB,JC,JD,JE,JF,JG,JH,JI,JJ,JK,JL,JM,JN,JO,JP,JQ,JR,JS,JT,JU,JV,JW,↓reduceIte,if_true,reduceCtorEq,Nat.reduceEqDiff,JX,JY,JZ,J0,J1,J2,J3,J4,J5,J6,J7,Ya,Yb,Yc,Yd,Ye,Yf,Int.cast_ofNat_Int,Yg,Yh,Int.reduceLT,Int.reduceLE,Int.reduceEq,Int.reduceAdd,Int.reduceMul,Int.reduceSub,Int.reduceNeg,Yi,Yj,Yk,Yl,Ym,Yn,Yo,Yp,Yq,Yr,Ys,Yt,Yu,Yv,Yw,Yx,Yy,Yz,YA,YB,YC,YD,YE,YF,YG,YH,YI,YJ,YK,YL,YM,YN,YO,YP,YQ,YR,YS,YT, t82, e82, U4_nil]
    refine LW.rd ?_
    simp only [Ja,Jb,Jc,Jd,Je,Jf,Jg,Jh,Ji,Jj,Jk,Jl,Jm,Jn,Jo,Jp,Jq,Jr,Js,Jt,Ju,Jv,Jw,envA,lensOf,Jx,Jy,Jz,JA,JB,JC,JD,JE,JF,JG,JH,JI,JJ,JK,JL,JM,JN,JO,JP,JQ,JR,JS,JT,JU,JV,JW,↓reduceIte,if_true,reduceCtorEq,Nat.reduceEqDiff,JX,JY,JZ,J0,J1,J2,J3,J4,J5,J6,J7,Ya,Yb,Yc,Yd,Ye,Yf,Int.cast_ofNat_Int,Yg,Yh,Int.reduceLT,Int.reduceLE,Int.reduceEq,Int.reduceAdd,Int.reduceMul,Int.reduceSub,Int.reduceNeg,Yi,Yj,Yk,Yl,Ym,Yn,Yo,Yp,Yq,Yr,Ys,Yt,Yu,Yv,Yw,Yx,Yy,Yz,YA,YB,YC,YD,YE,YF,YG,YH,YI,YJ,YK,YL,YM,YN,YO,YP,YQ,YR,YS,YT, len_U4]
    refine WC.mk hm ?_
    simp only [Ja,Jb,Jc,Jd,Je,Jf,Jg,Jh,Ji,Jj,Jk,Jl,Jm,Jn,Jo,Jp,Jq,Jr,Js,Jt,Ju,Jv,Jw,envA,lensOf,Jx,Jy,Jz,JA,JB,JC,JD,JE,JF,JG,JH,JI,JJ,JK,JL,JM,JN,JO,JP,JQ,JR,JS,JT,JU,JV,JW,↓reduceIte,if_true,reduceCtorEq,Nat.reduceEqDiff,JX,JY,JZ,J0,J1,J2,J3,J4,J5,J6,J7,Ya,Yb,Yc,Yd,Ye,Yf,Int.cast_ofNat_Int,Yg,Yh,Int.reduceLT,Int.reduceLE,Int.reduceEq,Int.reduceAdd,Int.reduceMul,Int.reduceSub,Int.reduceNeg,Yi,Yj,Yk,Yl,Ym,Yn,Yo,Yp,Yq,Yr,Ys,Yt,Yu,Yv,Yw,Yx,Yy,Yz,YA,YB,YC,YD,YE,YF,YG,YH,YI,YJ,YK,YL,YM,YN,YO,YP,YQ,YR,YS,YT, len_U4]
  | true =>
  rw [hk] at hm
  obtain ⟨h16, hall⟩ := okm_all' hk
  rw [if_pos rfl]
  simp only [Ja,Jb,Jc,Jd,Je,Jf,Jg,Jh,Ji,Jj,Jk,Jl,Jm,Jn,Jo,Jp,Jq,Jr,Js,Jt,Ju,Jv,Jw,envA,lensOf,Jx,Jy,Jz,JA,JB,JC,JD,JE,JF,JG,JH,JI,JJ,JK,JL,JM,JN,JO,JP,JQ,JR,JS,JT,JU,JV,JW,↓reduceIte,if_true,reduceCtorEq,Nat.reduceEqDiff,JX,JY,JZ,J0,J1,J2,J3,J4,J5,J6,J7,Ya,Yb,Yc,Yd,Ye,Yf,Int.cast_ofNat_Int,Yg,Yh,Int.reduceLT,Int.reduceLE,Int.reduceEq,Int.reduceAdd,Int.reduceMul,Int.reduceSub,Int.reduceNeg,Yi,Yj,Yk,Yl,Ym,Yn,Yo,Yp,Yq,Yr,Ys,Yt,Yu,Yv,Yw,Yx,Yy,Yz,YA,YB,YC,YD,YE,YF,YG,YH,YI,YJ,YK,YL,YM,YN,YO,YP,YQ,YR,YS,YT, t82, e82, U4_nil]
  refine LW.cnt 5 (fun n => [.i n, U4 (usesTo xs n)]) (fun n hn => ?_) ?_ (by simp [usesTo])
  · have n5 : (n : Int) < 5 := by omega
    have hul := usesTo_len xs n
    simp only [Ja,Jb,Jc,Jd,Je,Jf,Jg,Jh,Ji,Jj,Jk,Jl,Jm,Jn,Jo,Jp,Jq,Jr,Js,Jt,Ju,Jv,Jw,envA,lensOf,Jx,Jy,Jz,JA,JB,JC,JD,JE,JF,JG,JH,JI,JJ,JK,JL,JM,JN,JO,JP,JQ,JR,JS,JT,JU,JV,JW,↓reduceIte,if_true,reduceCtorEq,Nat.reduceEqDiff,JX,JY,JZ,J0,J1,J2,J3,J4,J5,J6,J7,Ya,Yb,Yc,Yd,Ye,Yf,Int.cast_ofNat_Int,Yg,Yh,Int.reduceLT,Int.reduceLE,Int.reduceEq,Int.reduceAdd,Int.reduceMul,Int.reduceSub,Int.reduceNeg,Yi,Yj,Yk,Yl,Ym,Yn,Yo,Yp,Yq,Yr,Ys,Yt,Yu,Yv,Yw,Yx,Yy,Yz,YA,YB,YC,YD,YE,YF,YG,YH,YI,YJ,YK,YL,YM,YN,YO,YP,YQ,YR,YS,YT, len_U4, n5]
    refine WC.mk hm ?_
    simp only [Ja,Jb,Jc,Jd,Je,Jf,Jg,Jh,Ji,Jj,Jk,Jl,Jm,Jn,Jo,Jp,Jq,Jr,Js,Jt,Ju,Jv,Jw,envA,lensOf,Jx,Jy,Jz,JA,JB,JC,JD,JE,JF,JG,JH,JI,JJ,JK,JL,JM,JN,JO,JP,JQ,JR,JS,JT,JU,JV,JW,↓reduceIte,if_true,reduceCtorEq,Nat.reduceEqDiff,JX,JY,JZ,J0,J1,J2,J3,J4,J5,J6,J7,Ya,Yb,Yc,Yd,Ye,Yf,Int.cast_ofNat_Int,Yg,Yh,Int.reduceLT,Int.reduceLE,Int.reduceEq,Int.reduceAdd,Int.reduceMul,Int.reduceSub,Int.reduceNeg,Yi,Yj,Yk,Yl,Ym,Yn,Yo,Yp,Yq,Yr,Ys,Yt,Yu,Yv,Yw,Yx,Yy,Yz,YA,YB,YC,YD,YE,YF,YG,YH,YI,YJ,YK,YL,YM,YN,YO,YP,YQ,YR,YS,YT, len_U4]
    refine LW.cnt xs.length (fun i => [.i i, .i (pgs n (xs.take i)), .i (tks n (xs.take i)), .i ((pgs n (xs.take i) : Int) * per n - tks n (xs.take i))]) (fun i hi => ?_) ?_ (by simp [pgs, tks])
    · have h2 : (i : Int) < xs.length := by omega
      have hw := hx _ (List.getElem_mem hi)
      have ho := hall _ (List.getElem_mem hi)
      have hr := f23 xs[i] hw
      rw [rdw_ok ho] at hr
      have b1 := pgs_le n (xs.take i)
      have b2 := tks_le n (xs.take i)
      have b3 := mulB n (xs.take i) (by rw [List.length_take]; omega)
      have b4 := per_le n
      have b5 := pc_le (mk' xs[i]) 32
      rw [List.length_take] at b1 b2
      have e1 := pgs_take (k := n) hi
      have e2 := tks_take (k := n) hi
      have e3 := mulP n (pgs n (xs.take i))
      generalize pgs n (xs.take i) = P at b1 b3 e1 e3
      generalize tks n (xs.take i) = T at b2 e2
      (repeat (first | simp (disch := omega) only [wrap64, wrapU32, wrapU64, wrapU8] | simp only [Ja,Jb,Jc,Jd,Je,Jf,Jg,Jh,Ji,Jj,Jk,Jl,Jm,Jn,Jo,Jp,Jq,Jr,Js,Jt,Ju,Jv,Jw,envA,lensOf,Jx,Jy,Jz,JA,JB,JC,JD,JE,JF,JG,JH,JI,JJ,JK,JL,JM,JN,JO,JP,JQ,JR,JS,JT,JU,JV,JW,↓reduceIte,if_true,reduceCtorEq,Nat.reduceEqDiff,JX,JY,JZ,J0,J1,J2,J3,J4,J5,J6,J7,Ya,Yb,Yc,Yd,Ye,Yf,Int.cast_ofNat_Int,Yg,Yh,Int.reduceLT,Int.reduceLE,Int.reduceEq,Int.reduceAdd,Int.reduceMul,Int.reduceSub,Int.reduceNeg,Yi,Yj,Yk,Yl,Ym,Yn,Yo,Yp,Yq,Yr,Ys,Yt,Yu,Yv,Yw,Yx,Yy,Yz,YA,YB,YC,YD,YE,YF,YG,YH,YI,YJ,YK,YL,YM,YN,YO,YP,YQ,YR,YS,YT, len_U4, h2, ixc_N hi, get_LN hi]))
      refine WC.mk hr ?_
      by_cases k1 : kd xs[i] = 1
      · have k1' : (kd xs[i] : Int) = 1 := by omega
        by_cases kc : cl xs[i] = n
        · have kc' : (cl xs[i] : Int) = n := by omega
          have hh : hitB n xs[i] = true := by simp [hitB, k1, kc]
          rw [if_pos hh] at e1 e2
          simp only [Ja,Jb,Jc,Jd,Je,Jf,Jg,Jh,Ji,Jj,Jk,Jl,Jm,Jn,Jo,Jp,Jq,Jr,Js,Jt,Ju,Jv,Jw,envA,lensOf,Jx,Jy,Jz,JA,JB,JC,JD,JE,JF,JG,JH,JI,JJ,JK,JL,JM,JN,JO,JP,JQ,JR,JS,JT,JU,JV,JW,↓reduceIte,if_true,reduceCtorEq,Nat.reduceEqDiff,JX,JY,JZ,J0,J1,J2,J3,J4,J5,J6,J7,Ya,Yb,Yc,Yd,Ye,Yf,Int.cast_ofNat_Int,Yg,Yh,Int.reduceLT,Int.reduceLE,Int.reduceEq,Int.reduceAdd,Int.reduceMul,Int.reduceSub,Int.reduceNeg,Yi,Yj,Yk,Yl,Ym,Yn,Yo,Yp,Yq,Yr,Ys,Yt,Yu,Yv,Yw,Yx,Yy,Yz,YA,YB,YC,YD,YE,YF,YG,YH,YI,YJ,YK,YL,YM,YN,YO,YP,YQ,YR,YS,YT, k1', kc', len_U4]
          refine WC.mk (f24 (mk' xs[i]) (by unfold mk'; omega)) ?_
          simp only [Ja,Jb,Jc,Jd,Je,Jf,Jg,Jh,Ji,Jj,Jk,Jl,Jm,Jn,Jo,Jp,Jq,Jr,Js,Jt,Ju,Jv,Jw,envA,lensOf,Jx,Jy,Jz,JA,JB,JC,JD,JE,JF,JG,JH,JI,JJ,JK,JL,JM,JN,JO,JP,JQ,JR,JS,JT,JU,JV,JW,↓reduceIte,if_true,reduceCtorEq,Nat.reduceEqDiff,JX,JY,JZ,J0,J1,J2,J3,J4,J5,J6,J7,Ya,Yb,Yc,Yd,Ye,Yf,Int.cast_ofNat_Int,Yg,Yh,Int.reduceLT,Int.reduceLE,Int.reduceEq,Int.reduceAdd,Int.reduceMul,Int.reduceSub,Int.reduceNeg,Yi,Yj,Yk,Yl,Ym,Yn,Yo,Yp,Yq,Yr,Ys,Yt,Yu,Yv,Yw,Yx,Yy,Yz,YA,YB,YC,YD,YE,YF,YG,YH,YI,YJ,YK,YL,YM,YN,YO,YP,YQ,YR,YS,YT]
          refine WC.mk (f21 n (by omega)) ?_
          simp only [Ja,Jb,Jc,Jd,Je,Jf,Jg,Jh,Ji,Jj,Jk,Jl,Jm,Jn,Jo,Jp,Jq,Jr,Js,Jt,Ju,Jv,Jw,envA,lensOf,Jx,Jy,Jz,JA,JB,JC,JD,JE,JF,JG,JH,JI,JJ,JK,JL,JM,JN,JO,JP,JQ,JR,JS,JT,JU,JV,JW,↓reduceIte,if_true,reduceCtorEq,Nat.reduceEqDiff,JX,JY,JZ,J0,J1,J2,J3,J4,J5,J6,J7,Ya,Yb,Yc,Yd,Ye,Yf,Int.cast_ofNat_Int,Yg,Yh,Int.reduceLT,Int.reduceLE,Int.reduceEq,Int.reduceAdd,Int.reduceMul,Int.reduceSub,Int.reduceNeg,Yi,Yj,Yk,Yl,Ym,Yn,Yo,Yp,Yq,Yr,Ys,Yt,Yu,Yv,Yw,Yx,Yy,Yz,YA,YB,YC,YD,YE,YF,YG,YH,YI,YJ,YK,YL,YM,YN,YO,YP,YQ,YR,YS,YT]
          refine WC.mk (f24 (mk' xs[i]) (by unfold mk'; omega)) ?_
          generalize hM : (P : Int) * per n = M at b3 e3
          (repeat (first | simp (disch := omega) only [wrap64, wrapU32, wrapU64, wrapU8] | simp only [Ja,Jb,Jc,Jd,Je,Jf,Jg,Jh,Ji,Jj,Jk,Jl,Jm,Jn,Jo,Jp,Jq,Jr,Js,Jt,Ju,Jv,Jw,envA,lensOf,Jx,Jy,Jz,JA,JB,JC,JD,JE,JF,JG,JH,JI,JJ,JK,JL,JM,JN,JO,JP,JQ,JR,JS,JT,JU,JV,JW,↓reduceIte,if_true,reduceCtorEq,Nat.reduceEqDiff,JX,JY,JZ,J0,J1,J2,J3,J4,J5,J6,J7,Ya,Yb,Yc,Yd,Ye,Yf,Int.cast_ofNat_Int,Yg,Yh,Int.reduceLT,Int.reduceLE,Int.reduceEq,Int.reduceAdd,Int.reduceMul,Int.reduceSub,Int.reduceNeg,Yi,Yj,Yk,Yl,Ym,Yn,Yo,Yp,Yq,Yr,Ys,Yt,Yu,Yv,Yw,Yx,Yy,Yz,YA,YB,YC,YD,YE,YF,YG,YH,YI,YJ,YK,YL,YM,YN,YO,YP,YQ,YR,YS,YT, len_U4]))
          rw [e1, e2]
          have q : M - (T : Int) + per n - (pc (mk' xs[i]) 32 : Nat) = ((P + 1 : Nat) : Int) * per n - ((T + pc (mk' xs[i]) 32 : Nat) : Int) := by omega
          rw [q]
          simp
        · have kc' : ¬ (cl xs[i] : Int) = n := by omega
          have hh : hitB n xs[i] = false := by simp [hitB, kc]
          rw [hh] at e1 e2
          (repeat (first | simp (disch := omega) only [wrap64, wrapU32, wrapU64, wrapU8] | simp only [Ja,Jb,Jc,Jd,Je,Jf,Jg,Jh,Ji,Jj,Jk,Jl,Jm,Jn,Jo,Jp,Jq,Jr,Js,Jt,Ju,Jv,Jw,envA,lensOf,Jx,Jy,Jz,JA,JB,JC,JD,JE,JF,JG,JH,JI,JJ,JK,JL,JM,JN,JO,JP,JQ,JR,JS,JT,JU,JV,JW,↓reduceIte,if_true,reduceCtorEq,Nat.reduceEqDiff,JX,JY,JZ,J0,J1,J2,J3,J4,J5,J6,J7,Ya,Yb,Yc,Yd,Ye,Yf,Int.cast_ofNat_Int,Yg,Yh,Int.reduceLT,Int.reduceLE,Int.reduceEq,Int.reduceAdd,Int.reduceMul,Int.reduceSub,Int.reduceNeg,Yi,Yj,Yk,Yl,Ym,Yn,Yo,Yp,Yq,Yr,Ys,Yt,Yu,Yv,Yw,Yx,Yy,Yz,YA,YB,YC,YD,YE,YF,YG,YH,YI,YJ,YK,YL,YM,YN,YO,YP,YQ,YR,YS,YT, k1', kc', len_U4]))
          rw [e1, e2]
          simp
      · have k1' : ¬ (kd xs[i] : Int) = 1 := by omega
        have hh : hitB n xs[i] = false := by simp [hitB, k1]
        rw [hh] at e1 e2
        (repeat (first | simp (disch := omega) only [wrap64, wrapU32, wrapU64, wrapU8] | simp only [Ja,Jb,Jc,Jd,Je,Jf,Jg,Jh,Ji,Jj,Jk,Jl,Jm,Jn,Jo,Jp,Jq,Jr,Js,Jt,Ju,Jv,Jw,envA,lensOf,Jx,Jy,Jz,JA,JB,JC,JD,JE,JF,JG,JH,JI,JJ,JK,JL,JM,JN,JO,JP,JQ,JR,JS,JT,JU,JV,JW,↓reduceIte,if_true,reduceCtorEq,Nat.reduceEqDiff,JX,JY,JZ,J0,J1,J2,J3,J4,J5,J6,J7,Ya,Yb,Yc,Yd,Ye,Yf,Int.cast_ofNat_Int,Yg,Yh,Int.reduceLT,Int.reduceLE,Int.reduceEq,Int.reduceAdd,Int.reduceMul,Int.reduceSub,Int.reduceNeg,Yi,Yj,Yk,Yl,Ym,Yn,Yo,Yp,Yq,Yr,Ys,Yt,Yu,Yv,Yw,Yx,Yy,Yz,YA,YB,YC,YD,YE,YF,YG,YH,YI,YJ,YK,YL,YM,YN,YO,YP,YQ,YR,YS,YT, k1', len_U4]))
        rw [e1, e2]
        simp
    · have h2 : ¬ (xs.length : Int) < xs.length := by omega
      rw [List.take_length]
      simp only [Ja,Jb,Jc,Jd,Je,Jf,Jg,Jh,Ji,Jj,Jk,Jl,Jm,Jn,Jo,Jp,Jq,Jr,Js,Jt,Ju,Jv,Jw,envA,lensOf,Jx,Jy,Jz,JA,JB,JC,JD,JE,JF,JG,JH,JI,JJ,JK,JL,JM,JN,JO,JP,JQ,JR,JS,JT,JU,JV,JW,↓reduceIte,if_true,reduceCtorEq,Nat.reduceEqDiff,JX,JY,JZ,J0,J1,J2,J3,J4,J5,J6,J7,Ya,Yb,Yc,Yd,Ye,Yf,Int.cast_ofNat_Int,Yg,Yh,Int.reduceLT,Int.reduceLE,Int.reduceEq,Int.reduceAdd,Int.reduceMul,Int.reduceSub,Int.reduceNeg,Yi,Yj,Yk,Yl,Ym,Yn,Yo,Yp,Yq,Yr,Ys,Yt,Yu,Yv,Yw,Yx,Yy,Yz,YA,YB,YC,YD,YE,YF,YG,YH,YI,YJ,YK,YL,YM,YN,YO,YP,YQ,YR,YS,YT, len_U4, h2]
      by_cases hp : 0 < pgs n xs
      · have hp' : (0 : Int) < pgs n xs := by omega
        simp only [Ja,Jb,Jc,Jd,Je,Jf,Jg,Jh,Ji,Jj,Jk,Jl,Jm,Jn,Jo,Jp,Jq,Jr,Js,Jt,Ju,Jv,Jw,envA,lensOf,Jx,Jy,Jz,JA,JB,JC,JD,JE,JF,JG,JH,JI,JJ,JK,JL,JM,JN,JO,JP,JQ,JR,JS,JT,JU,JV,JW,↓reduceIte,if_true,reduceCtorEq,Nat.reduceEqDiff,JX,JY,JZ,J0,J1,J2,J3,J4,J5,J6,J7,Ya,Yb,Yc,Yd,Ye,Yf,Int.cast_ofNat_Int,Yg,Yh,Int.reduceLT,Int.reduceLE,Int.reduceEq,Int.reduceAdd,Int.reduceMul,Int.reduceSub,Int.reduceNeg,Yi,Yj,Yk,Yl,Ym,Yn,Yo,Yp,Yq,Yr,Ys,Yt,Yu,Yv,Yw,Yx,Yy,Yz,YA,YB,YC,YD,YE,YF,YG,YH,YI,YJ,YK,YL,YM,YN,YO,YP,YQ,YR,YS,YT, hp', rowsOf_4, U4_one]
        rw [app_U4 (by simp; omega)]
        (repeat (first | simp (disch := omega) only [wrap64, wrapU32, wrapU64, wrapU8] | simp only [Ja,Jb,Jc,Jd,Je,Jf,Jg,Jh,Ji,Jj,Jk,Jl,Jm,Jn,Jo,Jp,Jq,Jr,Js,Jt,Ju,Jv,Jw,envA,lensOf,Jx,Jy,Jz,JA,JB,JC,JD,JE,JF,JG,JH,JI,JJ,JK,JL,JM,JN,JO,JP,JQ,JR,JS,JT,JU,JV,JW,↓reduceIte,if_true,reduceCtorEq,Nat.reduceEqDiff,JX,JY,JZ,J0,J1,J2,J3,J4,J5,J6,J7,Ya,Yb,Yc,Yd,Ye,Yf,Int.cast_ofNat_Int,Yg,Yh,Int.reduceLT,Int.reduceLE,Int.reduceEq,Int.reduceAdd,Int.reduceMul,Int.reduceSub,Int.reduceNeg,Yi,Yj,Yk,Yl,Ym,Yn,Yo,Yp,Yq,Yr,Ys,Yt,Yu,Yv,Yw,Yx,Yy,Yz,YA,YB,YC,YD,YE,YF,YG,YH,YI,YJ,YK,YL,YM,YN,YO,YP,YQ,YR,YS,YT, len_U4, usesTo_succ, if_pos hp, use]))
        rfl
      · have hp' : ¬ (0 : Int) < pgs n xs := by omega
        (repeat (first | simp (disch := omega) only [wrap64, wrapU32, wrapU64, wrapU8] | simp only [Ja,Jb,Jc,Jd,Je,Jf,Jg,Jh,Ji,Jj,Jk,Jl,Jm,Jn,Jo,Jp,Jq,Jr,Js,Jt,Ju,Jv,Jw,envA,lensOf,Jx,Jy,Jz,JA,JB,JC,JD,JE,JF,JG,JH,JI,JJ,JK,JL,JM,JN,JO,JP,JQ,JR,JS,JT,JU,JV,JW,↓reduceIte,if_true,reduceCtorEq,Nat.reduceEqDiff,JX,JY,JZ,J0,J1,J2,J3,J4,J5,J6,J7,Ya,Yb,Yc,Yd,Ye,Yf,Int.cast_ofNat_Int,Yg,Yh,Int.reduceLT,Int.reduceLE,Int.reduceEq,Int.reduceAdd,Int.reduceMul,Int.reduceSub,Int.reduceNeg,Yi,Yj,Yk,Yl,Ym,Yn,Yo,Yp,Yq,Yr,Ys,Yt,Yu,Yv,Yw,Yx,Yy,Yz,YA,YB,YC,YD,YE,YF,YG,YH,YI,YJ,YK,YL,YM,YN,YO,YP,YQ,YR,YS,YT, hp', len_U4, usesTo_succ, if_neg hp]))
        rfl
  · simp only [Ja,Jb,Jc,Jd,Je,Jf,Jg,Jh,Ji,Jj,Jk,Jl,Jm,Jn,Jo,Jp,Jq,Jr,Js,Jt,Ju,Jv,Jw,envA,lensOf,Jx,Jy,Jz,JA,JB,JC,JD,JE,JF,JG,JH,JI,JJ,JK,JL,JM,JN,JO,JP,JQ,JR,JS,JT,JU,JV,JW,↓reduceIte,if_true,reduceCtorEq,Nat.reduceEqDiff,JX,JY,JZ,J0,J1,J2,J3,J4,J5,J6,J7,Ya,Yb,Yc,Yd,Ye,Yf,Int.cast_ofNat_Int,Yg,Yh,Int.reduceLT,Int.reduceLE,Int.reduceEq,Int.reduceAdd,Int.reduceMul,Int.reduceSub,Int.reduceNeg,Yi,Yj,Yk,Yl,Ym,Yn,Yo,Yp,Yq,Yr,Ys,Yt,Yu,Yv,Yw,Yx,Yy,Yz,YA,YB,YC,YD,YE,YF,YG,YH,YI,YJ,YK,YL,YM,YN,YO,YP,YQ,YR,YS,YT, len_U4]
set_option maxHeartbeats 1000000 in
theorem f81 (xs : List Nat) (hl : xs.length < 4611686018427387904) (hx : ∀ n ∈ xs, n < 4294967296) : EvF fes 81 [LN xs] [U4 (uses xs)] := by
  refine EvF.w (fe := e81) (t := t81) rfl rfl ?_
  have hm := f78 xs (by omega) hx
  unfold uses
  simp only [Ja,Jb,Jc,Jd,Je,Jf,Jg,Jh,Ji,Jj,Jk,Jl,Jm,Jn,Jo,Jp,Jq,Jr,Js,Jt,Ju,Jv,Jw,envA,lensOf,Jx,Jy,Jz,JA,JB,JC,JD,JE,JF,JG,JH,JI,JJ,JK,JL,JM,JN,JO,JP,JQ,JR,JS,JT,JU,JV,JW,↓reduceIte,if_true,reduceCtorEq,Nat.reduceEqDiff,JX,JY,JZ,J0,J1,J2,J3,J4,J5,J6,J7,Ya,Yb,Yc,Yd,Ye,Yf,Int.cast_ofNat_Int,Yg,Yh,Int.reduceLT,Int.reduceLE,Int.reduceEq,Int.reduceAdd,Int.reduceMul,Int.reduceSub,Int.reduceNeg,Yi,Yj,Yk,Yl,Ym,Yn,Yo,Yp,Yq,Yr,Ys,Yt,Yu,Yv,Yw,Yx,Yy,Yz,YA,YB,YC,YD,YE,YF,YG,YH,YI,YJ,YK,YL,YM,YN,YO,YP,YQ,YR,YS,YT, t81, e81, U4_nil]
  refine WC.mk hm ?_
  cases hk : okm xs with
  | false => simp only [Ja,Jb,Jc,Jd,Je,Jf,Jg,Jh,Ji,Jj,Jk,Jl,Jm,Jn,Jo,Jp,Jq,Jr,Js,Jt,Ju,Jv,Jw,envA,lensOf,Jx,Jy,Jz,JA,JB,JC,JD,JE,JF,JG,JH,JI,JJ,JK,JL,JM,JN,JO,JP,JQ,JR,JS,JT,JU,JV,JW,↓reduceIte,if_true,reduceCtorEq,Nat.reduceEqDiff,JX,JY,JZ,J0,J1,J2,J3,J4,J5,J6,J7,Ya,Yb,Yc,Yd,Ye,Yf,Int.cast_ofNat_Int,Yg,Yh,Int.reduceLT,Int.reduceLE,Int.reduceEq,Int.reduceAdd,Int.reduceMul,Int.reduceSub,Int.reduceNeg,Yi,Yj,Yk,Yl,Ym,Yn,Yo,Yp,Yq,Yr,Ys,Yt,Yu,Yv,Yw,Yx,Yy,Yz,YA,YB,YC,YD,YE,YF,YG,YH,YI,YJ,YK,YL,YM,YN,YO,YP,YQ,YR,YS,YT]
  | true =>
  obtain ⟨h16, hall⟩ := okm_all' hk
  rw [if_pos rfl]
  simp only [Ja,Jb,Jc,Jd,Je,Jf,Jg,Jh,Ji,Jj,Jk,Jl,Jm,Jn,Jo,Jp,Jq,Jr,Js,Jt,Ju,Jv,Jw,envA,lensOf,Jx,Jy,Jz,JA,JB,JC,JD,JE,JF,JG,JH,JI,JJ,JK,JL,JM,JN,JO,JP,JQ,JR,JS,JT,JU,JV,JW,↓reduceIte,if_true,reduceCtorEq,Nat.reduceEqDiff,JX,JY,JZ,J0,J1,J2,J3,J4,J5,J6,J7,Ya,Yb,Yc,Yd,Ye,Yf,Int.cast_ofNat_Int,Yg,Yh,Int.reduceLT,Int.reduceLE,Int.reduceEq,Int.reduceAdd,Int.reduceMul,Int.reduceSub,Int.reduceNeg,Yi,Yj,Yk,Yl,Ym,Yn,Yo,Yp,Yq,Yr,Ys,Yt,Yu,Yv,Yw,Yx,Yy,Yz,YA,YB,YC,YD,YE,YF,YG,YH,YI,YJ,YK,YL,YM,YN,YO,YP,YQ,YR,YS,YT]
  refine LW.cnt 5 (fun n => [.i n, U4 (usesTo xs n)]) (fun n hn => ?_) ?_ (by simp [usesTo])
  · have n5 : (n : Int) < 5 := by omega
    have hul := usesTo_len xs n
    simp only [Ja,Jb,Jc,Jd,Je,Jf,Jg,Jh,Ji,Jj,Jk,Jl,Jm,Jn,Jo,Jp,Jq,Jr,Js,Jt,Ju,Jv,Jw,envA,lensOf,Jx,Jy,Jz,JA,JB,JC,JD,JE,JF,JG,JH,JI,JJ,JK,JL,JM,JN,JO,JP,JQ,JR,JS,JT,JU,JV,JW,↓reduceIte,if_true,reduceCtorEq,Nat.reduceEqDiff,JX,JY,JZ,J0,J1,J2,J3,J4,J5,J6,J7,Ya,Yb,Yc,Yd,Ye,Yf,Int.cast_ofNat_Int,Yg,Yh,Int.reduceLT,Int.reduceLE,Int.reduceEq,Int.reduceAdd,Int.reduceMul,Int.reduceSub,Int.reduceNeg,Yi,Yj,Yk,Yl,Ym,Yn,Yo,Yp,Yq,Yr,Ys,Yt,Yu,Yv,Yw,Yx,Yy,Yz,YA,YB,YC,YD,YE,YF,YG,YH,YI,YJ,YK,YL,YM,YN,YO,YP,YQ,YR,YS,YT, len_U4, n5]
    refine LW.cnt xs.length (fun i => [.i i, .i (pgs n (xs.take i)), .i (tks n (xs.take i))]) (fun i hi => ?_) ?_ (by simp [pgs, tks])
    · have h2 : (i : Int) < xs.length := by omega
      have hw := hx _ (List.getElem_mem hi)
      have ho := hall _ (List.getElem_mem hi)
      have hr := f74 xs[i] hw
      rw [rdw_ok ho] at hr
      have b1 := pgs_le n (xs.take i)
      have b2 := tks_le n (xs.take i)
      have b5 := pc_le (mk' xs[i]) 32
      rw [List.length_take] at b1 b2
      have e1 := pgs_take (k := n) hi
      have e2 := tks_take (k := n) hi
      generalize pgs n (xs.take i) = P at b1 e1
      generalize tks n (xs.take i) = T at b2 e2
      (repeat (first | simp (disch := omega) only [wrap64, wrapU32, wrapU64, wrapU8] | simp only [Ja,Jb,Jc,Jd,Je,Jf,Jg,Jh,Ji,Jj,Jk,Jl,Jm,Jn,Jo,Jp,Jq,Jr,Js,Jt,Ju,Jv,Jw,envA,lensOf,Jx,Jy,Jz,JA,JB,JC,JD,JE,JF,JG,JH,JI,JJ,JK,JL,JM,JN,JO,JP,JQ,JR,JS,JT,JU,JV,JW,↓reduceIte,if_true,reduceCtorEq,Nat.reduceEqDiff,JX,JY,JZ,J0,J1,J2,J3,J4,J5,J6,J7,Ya,Yb,Yc,Yd,Ye,Yf,Int.cast_ofNat_Int,Yg,Yh,Int.reduceLT,Int.reduceLE,Int.reduceEq,Int.reduceAdd,Int.reduceMul,Int.reduceSub,Int.reduceNeg,Yi,Yj,Yk,Yl,Ym,Yn,Yo,Yp,Yq,Yr,Ys,Yt,Yu,Yv,Yw,Yx,Yy,Yz,YA,YB,YC,YD,YE,YF,YG,YH,YI,YJ,YK,YL,YM,YN,YO,YP,YQ,YR,YS,YT, len_U4, h2, ixc_N hi, get_LN hi]))
      refine WC.mk hr ?_
      by_cases k1 : kd xs[i] = 1
      · have k1' : (kd xs[i] : Int) = 1 := by omega
        by_cases kc : cl xs[i] = n
        · have kc' : (cl xs[i] : Int) = n := by omega
          have hh : hitB n xs[i] = true := by simp [hitB, k1, kc]
          rw [if_pos hh] at e1 e2
          simp only [Ja,Jb,Jc,Jd,Je,Jf,Jg,Jh,Ji,Jj,Jk,Jl,Jm,Jn,Jo,Jp,Jq,Jr,Js,Jt,Ju,Jv,Jw,envA,lensOf,Jx,Jy,Jz,JA,JB,JC,JD,JE,JF,JG,JH,JI,JJ,JK,JL,JM,JN,JO,JP,JQ,JR,JS,JT,JU,JV,JW,↓reduceIte,if_true,reduceCtorEq,Nat.reduceEqDiff,JX,JY,JZ,J0,J1,J2,J3,J4,J5,J6,J7,Ya,Yb,Yc,Yd,Ye,Yf,Int.cast_ofNat_Int,Yg,Yh,Int.reduceLT,Int.reduceLE,Int.reduceEq,Int.reduceAdd,Int.reduceMul,Int.reduceSub,Int.reduceNeg,Yi,Yj,Yk,Yl,Ym,Yn,Yo,Yp,Yq,Yr,Ys,Yt,Yu,Yv,Yw,Yx,Yy,Yz,YA,YB,YC,YD,YE,YF,YG,YH,YI,YJ,YK,YL,YM,YN,YO,YP,YQ,YR,YS,YT, k1', kc', len_U4]
          refine WC.mk (f80 (mk' xs[i]) (by unfold mk'; omega)) ?_
          (repeat (first | simp (disch := omega) only [wrap64, wrapU32, wrapU64, wrapU8] | simp only [Ja,Jb,Jc,Jd,Je,Jf,Jg,Jh,Ji,Jj,Jk,Jl,Jm,Jn,Jo,Jp,Jq,Jr,Js,Jt,Ju,Jv,Jw,envA,lensOf,Jx,Jy,Jz,JA,JB,JC,JD,JE,JF,JG,JH,JI,JJ,JK,JL,JM,JN,JO,JP,JQ,JR,JS,JT,JU,JV,JW,↓reduceIte,if_true,reduceCtorEq,Nat.reduceEqDiff,JX,JY,JZ,J0,J1,J2,J3,J4,J5,J6,J7,Ya,Yb,Yc,Yd,Ye,Yf,Int.cast_ofNat_Int,Yg,Yh,Int.reduceLT,Int.reduceLE,Int.reduceEq,Int.reduceAdd,Int.reduceMul,Int.reduceSub,Int.reduceNeg,Yi,Yj,Yk,Yl,Ym,Yn,Yo,Yp,Yq,Yr,Ys,Yt,Yu,Yv,Yw,Yx,Yy,Yz,YA,YB,YC,YD,YE,YF,YG,YH,YI,YJ,YK,YL,YM,YN,YO,YP,YQ,YR,YS,YT, len_U4]))
          rw [e1, e2]
          simp
        · have kc' : ¬ (cl xs[i] : Int) = n := by omega
          have hh : hitB n xs[i] = false := by simp [hitB, kc]
          rw [hh] at e1 e2
          (repeat (first | simp (disch := omega) only [wrap64, wrapU32, wrapU64, wrapU8] | simp only [Ja,Jb,Jc,Jd,Je,Jf,Jg,Jh,Ji,Jj,Jk,Jl,Jm,Jn,Jo,Jp,Jq,Jr,Js,Jt,Ju,Jv,Jw,envA,lensOf,Jx,Jy,Jz,JA,JB,JC,JD,JE,JF,JG,JH,JI,JJ,JK,JL,JM,JN,JO,JP,JQ,JR,JS,JT,JU,JV,JW,↓reduceIte,if_true,reduceCtorEq,Nat.reduceEqDiff,JX,JY,JZ,J0,J1,J2,J3,J4,J5,J6,J7,Ya,Yb,Yc,Yd,Ye,Yf,Int.cast_ofNat_Int,Yg,Yh,Int.reduceLT,Int.reduceLE,Int.reduceEq,Int.reduceAdd,Int.reduceMul,Int.reduceSub,Int.reduceNeg,Yi,Yj,Yk,Yl,Ym,Yn,Yo,Yp,Yq,Yr,Ys,Yt,Yu,Yv,Yw,Yx,Yy,Yz,YA,YB,YC,YD,YE,YF,YG,YH,YI,YJ,YK,YL,YM,YN,YO,YP,YQ,YR,YS,YT, k1', kc', len_U4]))
          rw [e1, e2]
          simp
      · have k1' : ¬ (kd xs[i] : Int) = 1 := by omega
        have hh : hitB n xs[i] = false := by simp [hitB, k1]
        rw [hh] at e1 e2
        (repeat (first | simp (disch := omega) only [wrap64, wrapU32, wrapU64, wrapU8] | simp only [Ja,Jb,Jc,Jd,Je,Jf,Jg,Jh,Ji,Jj,Jk,Jl,Jm,Jn,Jo,Jp,Jq,Jr,Js,Jt,Ju,Jv,Jw,envA,lensOf,Jx,Jy,Jz,JA,JB,JC,JD,JE,JF,JG,JH,JI,JJ,JK,JL,JM,JN,JO,JP,JQ,JR,JS,JT,JU,JV,JW,↓reduceIte,if_true,reduceCtorEq,Nat.reduceEqDiff,JX,JY,JZ,J0,J1,J2,J3,J4,J5,J6,J7,Ya,Yb,Yc,Yd,Ye,Yf,Int.cast_ofNat_Int,Yg,Yh,Int.reduceLT,Int.reduceLE,Int.reduceEq,Int.reduceAdd,Int.reduceMul,Int.reduceSub,Int.reduceNeg,Yi,Yj,Yk,Yl,Ym,Yn,Yo,Yp,Yq,Yr,Ys,Yt,Yu,Yv,Yw,Yx,Yy,Yz,YA,YB,YC,YD,YE,YF,YG,YH,YI,YJ,YK,YL,YM,YN,YO,YP,YQ,YR,YS,YT, k1', len_U4]))
        rw [e1, e2]
        simp
    · have h2 : ¬ (xs.length : Int) < xs.length := by omega
      rw [List.take_length]
      simp only [Ja,Jb,Jc,Jd,Je,Jf,Jg,Jh,Ji,Jj,Jk,Jl,Jm,Jn,Jo,Jp,Jq,Jr,Js,Jt,Ju,Jv,Jw,envA,lensOf,Jx,Jy,Jz,JA,JB,JC,JD,JE,JF,JG,JH,JI,JJ,JK,JL,JM,JN,JO,JP,JQ,JR,JS,JT,JU,JV,JW,↓reduceIte,if_true,reduceCtorEq,Nat.reduceEqDiff,JX,JY,JZ,J0,J1,J2,J3,J4,J5,J6,J7,Ya,Yb,Yc,Yd,Ye,Yf,Int.cast_ofNat_Int,Yg,Yh,Int.reduceLT,Int.reduceLE,Int.reduceEq,Int.reduceAdd,Int.reduceMul,Int.reduceSub,Int.reduceNeg,Yi,Yj,Yk,Yl,Ym,Yn,Yo,Yp,Yq,Yr,Ys,Yt,Yu,Yv,Yw,Yx,Yy,Yz,YA,YB,YC,YD,YE,YF,YG,YH,YI,YJ,YK,YL,YM,YN,YO,YP,YQ,YR,YS,YT, len_U4, h2]
      by_cases hp : 0 < pgs n xs
      · have hp' : (0 : Int) < pgs n xs := by omega
        have b3 := mulB n xs h16
        have b2 := tks_le n xs
        simp only [Ja,Jb,Jc,Jd,Je,Jf,Jg,Jh,Ji,Jj,Jk,Jl,Jm,Jn,Jo,Jp,Jq,Jr,Js,Jt,Ju,Jv,Jw,envA,lensOf,Jx,Jy,Jz,JA,JB,JC,JD,JE,JF,JG,JH,JI,JJ,JK,JL,JM,JN,JO,JP,JQ,JR,JS,JT,JU,JV,JW,↓reduceIte,if_true,reduceCtorEq,Nat.reduceEqDiff,JX,JY,JZ,J0,J1,J2,J3,J4,J5,J6,J7,Ya,Yb,Yc,Yd,Ye,Yf,Int.cast_ofNat_Int,Yg,Yh,Int.reduceLT,Int.reduceLE,Int.reduceEq,Int.reduceAdd,Int.reduceMul,Int.reduceSub,Int.reduceNeg,Yi,Yj,Yk,Yl,Ym,Yn,Yo,Yp,Yq,Yr,Ys,Yt,Yu,Yv,Yw,Yx,Yy,Yz,YA,YB,YC,YD,YE,YF,YG,YH,YI,YJ,YK,YL,YM,YN,YO,YP,YQ,YR,YS,YT, hp']
        refine WC.mk (f72 n (by omega)) ?_
        generalize hM : (pgs n xs : Int) * per n = M at b3
        (repeat (first | simp (disch := omega) only [wrap64, wrapU32, wrapU64, wrapU8] | simp only [Ja,Jb,Jc,Jd,Je,Jf,Jg,Jh,Ji,Jj,Jk,Jl,Jm,Jn,Jo,Jp,Jq,Jr,Js,Jt,Ju,Jv,Jw,envA,lensOf,Jx,Jy,Jz,JA,JB,JC,JD,JE,JF,JG,JH,JI,JJ,JK,JL,JM,JN,JO,JP,JQ,JR,JS,JT,JU,JV,JW,↓reduceIte,if_true,reduceCtorEq,Nat.reduceEqDiff,JX,JY,JZ,J0,J1,J2,J3,J4,J5,J6,J7,Ya,Yb,Yc,Yd,Ye,Yf,Int.cast_ofNat_Int,Yg,Yh,Int.reduceLT,Int.reduceLE,Int.reduceEq,Int.reduceAdd,Int.reduceMul,Int.reduceSub,Int.reduceNeg,Yi,Yj,Yk,Yl,Ym,Yn,Yo,Yp,Yq,Yr,Ys,Yt,Yu,Yv,Yw,Yx,Yy,Yz,YA,YB,YC,YD,YE,YF,YG,YH,YI,YJ,YK,YL,YM,YN,YO,YP,YQ,YR,YS,YT, hM, rowsOf_4, U4_one]))
        rw [app_U4 (by simp; omega)]
        (repeat (first | simp (disch := omega) only [wrap64, wrapU32, wrapU64, wrapU8] | simp only [Ja,Jb,Jc,Jd,Je,Jf,Jg,Jh,Ji,Jj,Jk,Jl,Jm,Jn,Jo,Jp,Jq,Jr,Js,Jt,Ju,Jv,Jw,envA,lensOf,Jx,Jy,Jz,JA,JB,JC,JD,JE,JF,JG,JH,JI,JJ,JK,JL,JM,JN,JO,JP,JQ,JR,JS,JT,JU,JV,JW,↓reduceIte,if_true,reduceCtorEq,Nat.reduceEqDiff,JX,JY,JZ,J0,J1,J2,J3,J4,J5,J6,J7,Ya,Yb,Yc,Yd,Ye,Yf,Int.cast_ofNat_Int,Yg,Yh,Int.reduceLT,Int.reduceLE,Int.reduceEq,Int.reduceAdd,Int.reduceMul,Int.reduceSub,Int.reduceNeg,Yi,Yj,Yk,Yl,Ym,Yn,Yo,Yp,Yq,Yr,Ys,Yt,Yu,Yv,Yw,Yx,Yy,Yz,YA,YB,YC,YD,YE,YF,YG,YH,YI,YJ,YK,YL,YM,YN,YO,YP,YQ,YR,YS,YT, len_U4, usesTo_succ, if_pos hp, use, hM]))
        rfl
      · have hp' : ¬ (0 : Int) < pgs n xs := by omega
        (repeat (first | simp (disch := omega) only [wrap64, wrapU32, wrapU64, wrapU8] | simp only [Ja,Jb,Jc,Jd,Je,Jf,Jg,Jh,Ji,Jj,Jk,Jl,Jm,Jn,Jo,Jp,Jq,Jr,Js,Jt,Ju,Jv,Jw,envA,lensOf,Jx,Jy,Jz,JA,JB,JC,JD,JE,JF,JG,JH,JI,JJ,JK,JL,JM,JN,JO,JP,JQ,JR,JS,JT,JU,JV,JW,↓reduceIte,if_true,reduceCtorEq,Nat.reduceEqDiff,JX,JY,JZ,J0,J1,J2,J3,J4,J5,J6,J7,Ya,Yb,Yc,Yd,Ye,Yf,Int.cast_ofNat_Int,Yg,Yh,Int.reduceLT,Int.reduceLE,Int.reduceEq,Int.reduceAdd,Int.reduceMul,Int.reduceSub,Int.reduceNeg,Yi,Yj,Yk,Yl,Ym,Yn,Yo,Yp,Yq,Yr,Ys,Yt,Yu,Yv,Yw,Yx,Yy,Yz,YA,YB,YC,YD,YE,YF,YG,YH,YI,YJ,YK,YL,YM,YN,YO,YP,YQ,YR,YS,YT, hp', len_U4, usesTo_succ, if_neg hp]))
        rfl
  · simp only [Ja,Jb,Jc,Jd,Je,Jf,Jg,Jh,Ji,Jj,Jk,Jl,Jm,Jn,Jo,Jp,Jq,Jr,Js,Jt,Ju,Jv,Jw,envA,lensOf,Jx,Jy,Jz,JA,JB,JC,JD,JE,JF,JG,JH,JI,JJ,JK,JL,JM,JN,JO,JP,JQ,JR,JS,JT,JU,JV,JW,↓reduceIte,if_true,reduceCtorEq,Nat.reduceEqDiff,JX,JY,JZ,J0,J1,J2,J3,J4,J5,J6,J7,Ya,Yb,Yc,Yd,Ye,Yf,Int.cast_ofNat_Int,Yg,Yh,Int.reduceLT,Int.reduceLE,Int.reduceEq,Int.reduceAdd,Int.reduceMul,Int.reduceSub,Int.reduceNeg,Yi,Yj,Yk,Yl,Ym,Yn,Yo,Yp,Yq,Yr,Ys,Yt,Yu,Yv,Yw,Yx,Yy,Yz,YA,YB,YC,YD,YE,YF,YG,YH,YI,YJ,YK,YL,YM,YN,YO,YP,YQ,YR,YS,YT, len_U4]
theorem posF (l : Nat) : ((l : Int) + 1 < 0) = False := propext ⟨fun h => by omega, fun h => h.elim⟩
theorem pos4F (l : Nat) : (4 * (l : Int) + 1 < 0) = False := propext ⟨fun h => by omega, fun h => h.elim⟩
end Go.Proofs.Ytbacblphkppigaa.Uses
