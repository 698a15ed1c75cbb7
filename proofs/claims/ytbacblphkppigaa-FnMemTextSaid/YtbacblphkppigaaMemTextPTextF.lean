/- FnMemText: the law is true of every code. -/
import Derived.Test.YtbacblphkppigaaMemTextQD
import Derived.Test.YtbacblphkppigaaMemTextPText
set_option linter.unusedVariables false
set_option linter.unusedSimpArgs false
namespace Go.Proofs.Ytbacblphkppigaa.MemText
open Go.BH
set_option maxRecDepth 100000
theorem bytesOf_data (ds : List D) : ∀ r : ByteArray, (ds.foldl (fun r d => r.push (UInt8.ofNat d.nat)) r).data = r.data ++ (ds.map fun d => UInt8.ofNat d.nat).toArray := by
  induction ds with
  | nil => intro r; simp
  | cons d t ih =>
    intro r
    rw [List.foldl_cons, ih]
    show r.data.push _ ++ _ = _
    simp
def BN (xs : List Nat) : ByteArray := bytesOf (xs.map fun (n : Nat) => D.i (n : Int))
theorem BN_data (xs : List Nat) : (BN xs).data = (xs.map fun n => UInt8.ofNat n).toArray := by
  unfold BN bytesOf
  rw [bytesOf_data]
  rw [List.map_map, show ByteArray.empty.data = #[] from rfl, Array.empty_append]
  congr 1
theorem len_BN (xs : List Nat) : Pr.lenS.eval [.s (BN xs)] = some (.i xs.length) := by
  rw [ev_lenS]
  have : (BN xs).size = xs.length := by
    show (BN xs).data.size = _
    rw [BN_data]; simp
  rw [this]
theorem idx_BN {xs : List Nat} {i : Nat} (h : i < xs.length) (hb : xs[i] < 256) : (Pr.idxS .i64).eval [.s (BN xs), .i (i : Int)] = some (.i (xs[i] : Nat)) := by
  have hs : (BN xs).size = xs.length := by
    show (BN xs).data.size = _
    rw [BN_data]; simp
  have hi : i < (BN xs).size := by omega
  rw [ev_idxS, if_neg (by omega), Int.toNat_natCast, getElem?_pos (BN xs) i hi]
  have e : (BN xs)[i] = UInt8.ofNat xs[i] := by
    show (BN xs).data[i]'_ = _
    simp only [BN_data]
    simp
  rw [e]
  simp only [Option.map_some, UInt8.toNat_ofNat']
  rw [Nat.mod_eq_of_lt (by omega)]
theorem neq_self (s : ByteArray) : (Pr.cmpS .neq).eval [.s s, .s s] = some (.b false) := by
  rw [ev_cmpS]; simp [cmpT]
theorem eql_self (s : ByteArray) : (Pr.cmpS .eql).eval [.s s, .s s] = some (.b true) := by
  rw [ev_cmpS]; simp [cmpT]
/-- How many words of a kind lie before a place. -/
def cn (p : Nat → Bool) (xs : List Nat) (i : Nat) : Nat := (xs.take i).countP p
theorem cn_zero (p : Nat → Bool) (xs : List Nat) : cn p xs 0 = 0 := by simp [cn]
theorem cn_succ (p : Nat → Bool) {xs : List Nat} {i : Nat} (h : i < xs.length) : cn p xs (i + 1) = cn p xs i + if p xs[i] then 1 else 0 := by
  unfold cn
  rw [List.take_add_one, List.getElem?_eq_getElem h, List.countP_append]
  simp [List.countP_cons]
theorem cn_le (p : Nat → Bool) (xs : List Nat) (i : Nat) : cn p xs i ≤ xs.length := by
  unfold cn
  exact Nat.le_trans List.countP_le_length (by rw [List.length_take]; omega)
def pF (w : Nat) : Bool := decide (kd w = 0)
def pP (w : Nat) : Bool := decide (kd w = 1)
def pL (w : Nat) : Bool := decide (kd w ≠ 0 ∧ kd w ≠ 1)
def sumA (xs : List Nat) : List D := if okm xs = true then [.i (cn pF xs xs.length : Nat), .i (cn pP xs xs.length : Nat), .i (cn pL xs xs.length : Nat)] else [.i (-1), .i (-1), .i (-1)]
set_option maxHeartbeats 1000000 in
theorem f81 (xs : List Nat) (hl : xs.length < 9223372036854775808) (hx : ∀ n ∈ xs, n < 4294967296) : EvF fes 81 [LN xs] (sumA xs) := by
  refine EvF.w (fe := e81) (t := t81) rfl rfl ?_
  rw [show envA e81.sig [LN xs] = [LN xs] from rfl]
  simp only [Ja,Jb,Jc,Jd,Je,Jf,Jg,Jh,Ji,Jj,Jk,Jl,Jm,Jn,Jo,Jp,Jq,Jr,Js,Jt,Ju,Jv,Jw,envA,lensOf,Jx,Jy,Jz,JA,JB,JC,JD,JE,JF,JG,JH,JI,JJ,JK,JL,JM,JN,JO,JP,JQ,JR,JS,JT,JU,JV,JW,↓reduceIte,if_true,reduceCtorEq,Nat.reduceEqDiff,JX,JY,JZ,J0,J1,J2,J3,J4,J5,J6,J7,Ya,Yb,Yc,Yd,Ye,Yf,Int.cast_ofNat_Int,Yg,Yh,Int.reduceLT,Int.reduceLE,Int.reduceEq,Int.reduceAdd,Int.reduceMul,Int.reduceSub,Int.reduceNeg,Yi,Yj,Yk,Yl,Ym,Yn,Yo,Yp,Yq,Yr,Ys,Yt,Yu,Yv,Yw,Yx,Yy,Yz,YA,YB,YC,YD,YE,YF,YG,YH,YI,YJ,YK,YL,YM,YN,YO,YP,YQ,YR,YS,YT, t81]
  refine WC.mk (f78 xs hl hx) ?_
  unfold sumA
  cases hk : okm xs with
  | false => simp only [Ja,Jb,Jc,Jd,Je,Jf,Jg,Jh,Ji,Jj,Jk,Jl,Jm,Jn,Jo,Jp,Jq,Jr,Js,Jt,Ju,Jv,Jw,envA,lensOf,Jx,Jy,Jz,JA,JB,JC,JD,JE,JF,JG,JH,JI,JJ,JK,JL,JM,JN,JO,JP,JQ,JR,JS,JT,JU,JV,JW,↓reduceIte,if_true,reduceCtorEq,Nat.reduceEqDiff,JX,JY,JZ,J0,J1,J2,J3,J4,J5,J6,J7,Ya,Yb,Yc,Yd,Ye,Yf,Int.cast_ofNat_Int,Yg,Yh,Int.reduceLT,Int.reduceLE,Int.reduceEq,Int.reduceAdd,Int.reduceMul,Int.reduceSub,Int.reduceNeg,Yi,Yj,Yk,Yl,Ym,Yn,Yo,Yp,Yq,Yr,Ys,Yt,Yu,Yv,Yw,Yx,Yy,Yz,YA,YB,YC,YD,YE,YF,YG,YH,YI,YJ,YK,YL,YM,YN,YO,YP,YQ,YR,YS,YT]
  | true =>
  obtain ⟨h16, hall⟩ := okm_all hk
  simp only [Ja,Jb,Jc,Jd,Je,Jf,Jg,Jh,Ji,Jj,Jk,Jl,Jm,Jn,Jo,Jp,Jq,Jr,Js,Jt,Ju,Jv,Jw,envA,lensOf,Jx,Jy,Jz,JA,JB,JC,JD,JE,JF,JG,JH,JI,JJ,JK,JL,JM,JN,JO,JP,JQ,JR,JS,JT,JU,JV,JW,↓reduceIte,if_true,reduceCtorEq,Nat.reduceEqDiff,JX,JY,JZ,J0,J1,J2,J3,J4,J5,J6,J7,Ya,Yb,Yc,Yd,Ye,Yf,Int.cast_ofNat_Int,Yg,Yh,Int.reduceLT,Int.reduceLE,Int.reduceEq,Int.reduceAdd,Int.reduceMul,Int.reduceSub,Int.reduceNeg,Yi,Yj,Yk,Yl,Ym,Yn,Yo,Yp,Yq,Yr,Ys,Yt,Yu,Yv,Yw,Yx,Yy,Yz,YA,YB,YC,YD,YE,YF,YG,YH,YI,YJ,YK,YL,YM,YN,YO,YP,YQ,YR,YS,YT, len_LN]
  refine LW.cnt xs.length (fun j => [.i (cn pF xs j : Nat), .i (cn pP xs j : Nat), .i (cn pL xs j : Nat), .i (j : Nat)]) (fun j hj => ?_) ?_ (by simp [cn_zero])
  · have hj' : (j : Int) < xs.length := by omega
    have hw := hall _ (List.getElem_mem hj)
    have s1 := cn_succ pF hj
    have s2 := cn_succ pP hj
    have s3 := cn_succ pL hj
    have b1 := cn_le pF xs j
    have b2 := cn_le pP xs j
    have b3 := cn_le pL xs j
    have hc := f74 _ (hx _ (List.getElem_mem hj))
    have hg : (Pr.get [ku32] 0).eval [LN xs, .i (j : Int)] = some (.i (xs[j] : Nat)) := get_LN hj
    have jq : (j : Int) + 1 = ((j + 1 : Nat) : Int) := by omega
    generalize xs[j] = w at hw s1 s2 s3 hc hg
    simp only [rdw, hw, if_true] at hc
    (repeat (first | simp (disch := omega) only [wrap64, wrapU32, wrapU64, wrapU8] | simp only [Ja,Jb,Jc,Jd,Je,Jf,Jg,Jh,Ji,Jj,Jk,Jl,Jm,Jn,Jo,Jp,Jq,Jr,Js,Jt,Ju,Jv,Jw,envA,lensOf,Jx,Jy,Jz,JA,JB,JC,JD,JE,JF,JG,JH,JI,JJ,JK,JL,JM,JN,JO,JP,JQ,JR,JS,JT,JU,JV,JW,↓reduceIte,if_true,reduceCtorEq,Nat.reduceEqDiff,JX,JY,JZ,J0,J1,J2,J3,J4,J5,J6,J7,Ya,Yb,Yc,Yd,Ye,Yf,Int.cast_ofNat_Int,Yg,Yh,Int.reduceLT,Int.reduceLE,Int.reduceEq,Int.reduceAdd,Int.reduceMul,Int.reduceSub,Int.reduceNeg,Yi,Yj,Yk,Yl,Ym,Yn,Yo,Yp,Yq,Yr,Ys,Yt,Yu,Yv,Yw,Yx,Yy,Yz,YA,YB,YC,YD,YE,YF,YG,YH,YI,YJ,YK,YL,YM,YN,YO,YP,YQ,YR,YS,YT, len_LN, hj', hg]))
    refine WC.mk hc ?_
    by_cases k0 : kd w = 0
    · have e1 : cn pF xs (j + 1) = cn pF xs j + 1 := by rw [s1]; simp [pF, k0]
      have e2 : cn pP xs (j + 1) = cn pP xs j := by rw [s2]; simp [pP, k0]
      have e3 : cn pL xs (j + 1) = cn pL xs j := by rw [s3]; simp [pL, k0]
      have q : (cn pF xs j : Int) + 1 = ((cn pF xs (j + 1) : Nat) : Int) := by omega
      rw [e2, e3]
      generalize cn pF xs (j + 1) = v at q e1
      (repeat (first | simp (disch := omega) only [wrap64, wrapU32, wrapU64, wrapU8] | simp only [Ja,Jb,Jc,Jd,Je,Jf,Jg,Jh,Ji,Jj,Jk,Jl,Jm,Jn,Jo,Jp,Jq,Jr,Js,Jt,Ju,Jv,Jw,envA,lensOf,Jx,Jy,Jz,JA,JB,JC,JD,JE,JF,JG,JH,JI,JJ,JK,JL,JM,JN,JO,JP,JQ,JR,JS,JT,JU,JV,JW,↓reduceIte,if_true,reduceCtorEq,Nat.reduceEqDiff,JX,JY,JZ,J0,J1,J2,J3,J4,J5,J6,J7,Ya,Yb,Yc,Yd,Ye,Yf,Int.cast_ofNat_Int,Yg,Yh,Int.reduceLT,Int.reduceLE,Int.reduceEq,Int.reduceAdd,Int.reduceMul,Int.reduceSub,Int.reduceNeg,Yi,Yj,Yk,Yl,Ym,Yn,Yo,Yp,Yq,Yr,Ys,Yt,Yu,Yv,Yw,Yx,Yy,Yz,YA,YB,YC,YD,YE,YF,YG,YH,YI,YJ,YK,YL,YM,YN,YO,YP,YQ,YR,YS,YT, k0, q, jq]))
    · have k0' : ¬ (kd w : Int) = 0 := by omega
      by_cases k1 : kd w = 1
      · have e1 : cn pF xs (j + 1) = cn pF xs j := by rw [s1]; simp [pF, k1]
        have e2 : cn pP xs (j + 1) = cn pP xs j + 1 := by rw [s2]; simp [pP, k1]
        have e3 : cn pL xs (j + 1) = cn pL xs j := by rw [s3]; simp [pL, k1]
        have q : (cn pP xs j : Int) + 1 = ((cn pP xs (j + 1) : Nat) : Int) := by omega
        rw [e1, e3]
        generalize cn pP xs (j + 1) = v at q e2
        (repeat (first | simp (disch := omega) only [wrap64, wrapU32, wrapU64, wrapU8] | simp only [Ja,Jb,Jc,Jd,Je,Jf,Jg,Jh,Ji,Jj,Jk,Jl,Jm,Jn,Jo,Jp,Jq,Jr,Js,Jt,Ju,Jv,Jw,envA,lensOf,Jx,Jy,Jz,JA,JB,JC,JD,JE,JF,JG,JH,JI,JJ,JK,JL,JM,JN,JO,JP,JQ,JR,JS,JT,JU,JV,JW,↓reduceIte,if_true,reduceCtorEq,Nat.reduceEqDiff,JX,JY,JZ,J0,J1,J2,J3,J4,J5,J6,J7,Ya,Yb,Yc,Yd,Ye,Yf,Int.cast_ofNat_Int,Yg,Yh,Int.reduceLT,Int.reduceLE,Int.reduceEq,Int.reduceAdd,Int.reduceMul,Int.reduceSub,Int.reduceNeg,Yi,Yj,Yk,Yl,Ym,Yn,Yo,Yp,Yq,Yr,Ys,Yt,Yu,Yv,Yw,Yx,Yy,Yz,YA,YB,YC,YD,YE,YF,YG,YH,YI,YJ,YK,YL,YM,YN,YO,YP,YQ,YR,YS,YT, k1, q, jq]))
      · have k1' : ¬ (kd w : Int) = 1 := by omega
        have e1 : cn pF xs (j + 1) = cn pF xs j := by rw [s1]; simp [pF, k0]
        have e2 : cn pP xs (j + 1) = cn pP xs j := by rw [s2]; simp [pP, k1]
        have e3 : cn pL xs (j + 1) = cn pL xs j + 1 := by rw [s3]; simp [pL, k0, k1]
        have q : (cn pL xs j : Int) + 1 = ((cn pL xs (j + 1) : Nat) : Int) := by omega
        rw [e1, e2]
        generalize cn pL xs (j + 1) = v at q e3
        (repeat (first | simp (disch := omega) only [wrap64, wrapU32, wrapU64, wrapU8] | simp only [Ja,Jb,Jc,Jd,Je,Jf,Jg,Jh,Ji,Jj,Jk,Jl,Jm,Jn,Jo,Jp,Jq,Jr,Js,Jt,Ju,Jv,Jw,envA,lensOf,Jx,Jy,Jz,JA,JB,JC,JD,JE,JF,JG,JH,JI,JJ,JK,JL,JM,JN,JO,JP,JQ,JR,JS,JT,JU,JV,JW,↓reduceIte,if_true,reduceCtorEq,Nat.reduceEqDiff,JX,JY,JZ,J0,J1,J2,J3,J4,J5,J6,J7,Ya,Yb,Yc,Yd,Ye,Yf,Int.cast_ofNat_Int,Yg,Yh,Int.reduceLT,Int.reduceLE,Int.reduceEq,Int.reduceAdd,Int.reduceMul,Int.reduceSub,Int.reduceNeg,Yi,Yj,Yk,Yl,Ym,Yn,Yo,Yp,Yq,Yr,Ys,Yt,Yu,Yv,Yw,Yx,Yy,Yz,YA,YB,YC,YD,YE,YF,YG,YH,YI,YJ,YK,YL,YM,YN,YO,YP,YQ,YR,YS,YT, k0', k1', q, jq]))
  · have hj' : ¬ (xs.length : Int) < xs.length := by omega
    (repeat (first | simp (disch := omega) only [wrap64, wrapU32, wrapU64, wrapU8] | simp only [Ja,Jb,Jc,Jd,Je,Jf,Jg,Jh,Ji,Jj,Jk,Jl,Jm,Jn,Jo,Jp,Jq,Jr,Js,Jt,Ju,Jv,Jw,envA,lensOf,Jx,Jy,Jz,JA,JB,JC,JD,JE,JF,JG,JH,JI,JJ,JK,JL,JM,JN,JO,JP,JQ,JR,JS,JT,JU,JV,JW,↓reduceIte,if_true,reduceCtorEq,Nat.reduceEqDiff,JX,JY,JZ,J0,J1,J2,J3,J4,J5,J6,J7,Ya,Yb,Yc,Yd,Ye,Yf,Int.cast_ofNat_Int,Yg,Yh,Int.reduceLT,Int.reduceLE,Int.reduceEq,Int.reduceAdd,Int.reduceMul,Int.reduceSub,Int.reduceNeg,Yi,Yj,Yk,Yl,Ym,Yn,Yo,Yp,Yq,Yr,Ys,Yt,Yu,Yv,Yw,Yx,Yy,Yz,YA,YB,YC,YD,YE,YF,YG,YH,YI,YJ,YK,YL,YM,YN,YO,YP,YQ,YR,YS,YT, hj']))
theorem ch_lt (w : Nat) : ch w < 256 := by
  have := cl_lt w
  unfold ch
  split
  · omega
  split
  · omega
  split <;> omega
set_option maxHeartbeats 2000000 in
theorem f83 (cs : List Nat) (hl : cs.length < 9223372036854775808) (hx : ∀ n ∈ cs, n < 256) : EvF fes 83 [LN cs] [.b true] := by
  refine EvF.w (fe := e83) (t := t83) rfl rfl ?_
  rw [show envA e83.sig [LN cs] = [LN cs] from rfl]
  simp only [Ja,Jb,Jc,Jd,Je,Jf,Jg,Jh,Ji,Jj,Jk,Jl,Jm,Jn,Jo,Jp,Jq,Jr,Js,Jt,Ju,Jv,Jw,envA,lensOf,Jx,Jy,Jz,JA,JB,JC,JD,JE,JF,JG,JH,JI,JJ,JK,JL,JM,JN,JO,JP,JQ,JR,JS,JT,JU,JV,JW,↓reduceIte,if_true,reduceCtorEq,Nat.reduceEqDiff,JX,JY,JZ,J0,J1,J2,J3,J4,J5,J6,J7,Ya,Yb,Yc,Yd,Ye,Yf,Int.cast_ofNat_Int,Yg,Yh,Int.reduceLT,Int.reduceLE,Int.reduceEq,Int.reduceAdd,Int.reduceMul,Int.reduceSub,Int.reduceNeg,Yi,Yj,Yk,Yl,Ym,Yn,Yo,Yp,Yq,Yr,Ys,Yt,Yu,Yv,Yw,Yx,Yy,Yz,YA,YB,YC,YD,YE,YF,YG,YH,YI,YJ,YK,YL,YM,YN,YO,YP,YQ,YR,YS,YT, t83]
  refine WC.mk (f0 cs) ?_
  by_cases hb : 1048576 < cs.length
  · have hb' : (1048576 : Int) < cs.length := by omega
    simp only [Ja,Jb,Jc,Jd,Je,Jf,Jg,Jh,Ji,Jj,Jk,Jl,Jm,Jn,Jo,Jp,Jq,Jr,Js,Jt,Ju,Jv,Jw,envA,lensOf,Jx,Jy,Jz,JA,JB,JC,JD,JE,JF,JG,JH,JI,JJ,JK,JL,JM,JN,JO,JP,JQ,JR,JS,JT,JU,JV,JW,↓reduceIte,if_true,reduceCtorEq,Nat.reduceEqDiff,JX,JY,JZ,J0,J1,J2,J3,J4,J5,J6,J7,Ya,Yb,Yc,Yd,Ye,Yf,Int.cast_ofNat_Int,Yg,Yh,Int.reduceLT,Int.reduceLE,Int.reduceEq,Int.reduceAdd,Int.reduceMul,Int.reduceSub,Int.reduceNeg,Yi,Yj,Yk,Yl,Ym,Yn,Yo,Yp,Yq,Yr,Ys,Yt,Yu,Yv,Yw,Yx,Yy,Yz,YA,YB,YC,YD,YE,YF,YG,YH,YI,YJ,YK,YL,YM,YN,YO,YP,YQ,YR,YS,YT, hb']
  have hb' : ¬ (1048576 : Int) < cs.length := by omega
  have hc : Code cs := ⟨by omega, hx⟩
  obtain ⟨xs, p1, l1, d1⟩ := drawMemText hc
  have p2 := f80 xs (by omega) d1
  have p3 := f81 xs (by omega) d1
  have p4 := f82 xs (by omega) d1
  rw [show bytesOf ((text xs).map fun (n : Nat) => D.i (n : Int)) = BN (text xs) from rfl] at p2 p4
  simp only [Ja,Jb,Jc,Jd,Je,Jf,Jg,Jh,Ji,Jj,Jk,Jl,Jm,Jn,Jo,Jp,Jq,Jr,Js,Jt,Ju,Jv,Jw,envA,lensOf,Jx,Jy,Jz,JA,JB,JC,JD,JE,JF,JG,JH,JI,JJ,JK,JL,JM,JN,JO,JP,JQ,JR,JS,JT,JU,JV,JW,↓reduceIte,if_true,reduceCtorEq,Nat.reduceEqDiff,JX,JY,JZ,J0,J1,J2,J3,J4,J5,J6,J7,Ya,Yb,Yc,Yd,Ye,Yf,Int.cast_ofNat_Int,Yg,Yh,Int.reduceLT,Int.reduceLE,Int.reduceEq,Int.reduceAdd,Int.reduceMul,Int.reduceSub,Int.reduceNeg,Yi,Yj,Yk,Yl,Ym,Yn,Yo,Yp,Yq,Yr,Ys,Yt,Yu,Yv,Yw,Yx,Yy,Yz,YA,YB,YC,YD,YE,YF,YG,YH,YI,YJ,YK,YL,YM,YN,YO,YP,YQ,YR,YS,YT, hb']
  refine WC.mk p1 ?_
  simp only [Ja,Jb,Jc,Jd,Je,Jf,Jg,Jh,Ji,Jj,Jk,Jl,Jm,Jn,Jo,Jp,Jq,Jr,Js,Jt,Ju,Jv,Jw,envA,lensOf,Jx,Jy,Jz,JA,JB,JC,JD,JE,JF,JG,JH,JI,JJ,JK,JL,JM,JN,JO,JP,JQ,JR,JS,JT,JU,JV,JW,↓reduceIte,if_true,reduceCtorEq,Nat.reduceEqDiff,JX,JY,JZ,J0,J1,J2,J3,J4,J5,J6,J7,Ya,Yb,Yc,Yd,Ye,Yf,Int.cast_ofNat_Int,Yg,Yh,Int.reduceLT,Int.reduceLE,Int.reduceEq,Int.reduceAdd,Int.reduceMul,Int.reduceSub,Int.reduceNeg,Yi,Yj,Yk,Yl,Ym,Yn,Yo,Yp,Yq,Yr,Ys,Yt,Yu,Yv,Yw,Yx,Yy,Yz,YA,YB,YC,YD,YE,YF,YG,YH,YI,YJ,YK,YL,YM,YN,YO,YP,YQ,YR,YS,YT, len_LN]
  refine WC.mk p2 ?_
  simp only [Ja,Jb,Jc,Jd,Je,Jf,Jg,Jh,Ji,Jj,Jk,Jl,Jm,Jn,Jo,Jp,Jq,Jr,Js,Jt,Ju,Jv,Jw,envA,lensOf,Jx,Jy,Jz,JA,JB,JC,JD,JE,JF,JG,JH,JI,JJ,JK,JL,JM,JN,JO,JP,JQ,JR,JS,JT,JU,JV,JW,↓reduceIte,if_true,reduceCtorEq,Nat.reduceEqDiff,JX,JY,JZ,J0,J1,J2,J3,J4,J5,J6,J7,Ya,Yb,Yc,Yd,Ye,Yf,Int.cast_ofNat_Int,Yg,Yh,Int.reduceLT,Int.reduceLE,Int.reduceEq,Int.reduceAdd,Int.reduceMul,Int.reduceSub,Int.reduceNeg,Yi,Yj,Yk,Yl,Ym,Yn,Yo,Yp,Yq,Yr,Ys,Yt,Yu,Yv,Yw,Yx,Yy,Yz,YA,YB,YC,YD,YE,YF,YG,YH,YI,YJ,YK,YL,YM,YN,YO,YP,YQ,YR,YS,YT]
  refine WC.mk p3 ?_
  cases hk : okm xs with
  | false =>
    simp only [Ja,Jb,Jc,Jd,Je,Jf,Jg,Jh,Ji,Jj,Jk,Jl,Jm,Jn,Jo,Jp,Jq,Jr,Js,Jt,Ju,Jv,Jw,envA,lensOf,Jx,Jy,Jz,JA,JB,JC,JD,JE,JF,JG,JH,JI,JJ,JK,JL,JM,JN,JO,JP,JQ,JR,JS,JT,JU,JV,JW,↓reduceIte,if_true,reduceCtorEq,Nat.reduceEqDiff,JX,JY,JZ,J0,J1,J2,J3,J4,J5,J6,J7,Ya,Yb,Yc,Yd,Ye,Yf,Int.cast_ofNat_Int,Yg,Yh,Int.reduceLT,Int.reduceLE,Int.reduceEq,Int.reduceAdd,Int.reduceMul,Int.reduceSub,Int.reduceNeg,Yi,Yj,Yk,Yl,Ym,Yn,Yo,Yp,Yq,Yr,Ys,Yt,Yu,Yv,Yw,Yx,Yy,Yz,YA,YB,YC,YD,YE,YF,YG,YH,YI,YJ,YK,YL,YM,YN,YO,YP,YQ,YR,YS,YT, sumA, hk]
    refine WC.mk p4 ?_
    simp only [Ja,Jb,Jc,Jd,Je,Jf,Jg,Jh,Ji,Jj,Jk,Jl,Jm,Jn,Jo,Jp,Jq,Jr,Js,Jt,Ju,Jv,Jw,envA,lensOf,Jx,Jy,Jz,JA,JB,JC,JD,JE,JF,JG,JH,JI,JJ,JK,JL,JM,JN,JO,JP,JQ,JR,JS,JT,JU,JV,JW,↓reduceIte,if_true,reduceCtorEq,Nat.reduceEqDiff,JX,JY,JZ,J0,J1,J2,J3,J4,J5,J6,J7,Ya,Yb,Yc,Yd,Ye,Yf,Int.cast_ofNat_Int,Yg,Yh,Int.reduceLT,Int.reduceLE,Int.reduceEq,Int.reduceAdd,Int.reduceMul,Int.reduceSub,Int.reduceNeg,Yi,Yj,Yk,Yl,Ym,Yn,Yo,Yp,Yq,Yr,Ys,Yt,Yu,Yv,Yw,Yx,Yy,Yz,YA,YB,YC,YD,YE,YF,YG,YH,YI,YJ,YK,YL,YM,YN,YO,YP,YQ,YR,YS,YT, len_LN]
    refine WC.mk p4 ?_
    simp only [Ja,Jb,Jc,Jd,Je,Jf,Jg,Jh,Ji,Jj,Jk,Jl,Jm,Jn,Jo,Jp,Jq,Jr,Js,Jt,Ju,Jv,Jw,envA,lensOf,Jx,Jy,Jz,JA,JB,JC,JD,JE,JF,JG,JH,JI,JJ,JK,JL,JM,JN,JO,JP,JQ,JR,JS,JT,JU,JV,JW,↓reduceIte,if_true,reduceCtorEq,Nat.reduceEqDiff,JX,JY,JZ,J0,J1,J2,J3,J4,J5,J6,J7,Ya,Yb,Yc,Yd,Ye,Yf,Int.cast_ofNat_Int,Yg,Yh,Int.reduceLT,Int.reduceLE,Int.reduceEq,Int.reduceAdd,Int.reduceMul,Int.reduceSub,Int.reduceNeg,Yi,Yj,Yk,Yl,Ym,Yn,Yo,Yp,Yq,Yr,Ys,Yt,Yu,Yv,Yw,Yx,Yy,Yz,YA,YB,YC,YD,YE,YF,YG,YH,YI,YJ,YK,YL,YM,YN,YO,YP,YQ,YR,YS,YT]
  | true =>
  obtain ⟨h16, hall⟩ := okm_all hk
  have ht : text xs = xs.map ch := by simp [text, hk]
  rw [ht] at p4 ⊢
  have tl : (xs.map ch).length = xs.length := by simp
  simp only [Ja,Jb,Jc,Jd,Je,Jf,Jg,Jh,Ji,Jj,Jk,Jl,Jm,Jn,Jo,Jp,Jq,Jr,Js,Jt,Ju,Jv,Jw,envA,lensOf,Jx,Jy,Jz,JA,JB,JC,JD,JE,JF,JG,JH,JI,JJ,JK,JL,JM,JN,JO,JP,JQ,JR,JS,JT,JU,JV,JW,↓reduceIte,if_true,reduceCtorEq,Nat.reduceEqDiff,JX,JY,JZ,J0,J1,J2,J3,J4,J5,J6,J7,Ya,Yb,Yc,Yd,Ye,Yf,Int.cast_ofNat_Int,Yg,Yh,Int.reduceLT,Int.reduceLE,Int.reduceEq,Int.reduceAdd,Int.reduceMul,Int.reduceSub,Int.reduceNeg,Yi,Yj,Yk,Yl,Ym,Yn,Yo,Yp,Yq,Yr,Ys,Yt,Yu,Yv,Yw,Yx,Yy,Yz,YA,YB,YC,YD,YE,YF,YG,YH,YI,YJ,YK,YL,YM,YN,YO,YP,YQ,YR,YS,YT, sumA, hk]
  refine WC.mk p4 ?_
  simp only [Ja,Jb,Jc,Jd,Je,Jf,Jg,Jh,Ji,Jj,Jk,Jl,Jm,Jn,Jo,Jp,Jq,Jr,Js,Jt,Ju,Jv,Jw,envA,lensOf,Jx,Jy,Jz,JA,JB,JC,JD,JE,JF,JG,JH,JI,JJ,JK,JL,JM,JN,JO,JP,JQ,JR,JS,JT,JU,JV,JW,↓reduceIte,if_true,reduceCtorEq,Nat.reduceEqDiff,JX,JY,JZ,J0,J1,J2,J3,J4,J5,J6,J7,Ya,Yb,Yc,Yd,Ye,Yf,Int.cast_ofNat_Int,Yg,Yh,Int.reduceLT,Int.reduceLE,Int.reduceEq,Int.reduceAdd,Int.reduceMul,Int.reduceSub,Int.reduceNeg,Yi,Yj,Yk,Yl,Ym,Yn,Yo,Yp,Yq,Yr,Ys,Yt,Yu,Yv,Yw,Yx,Yy,Yz,YA,YB,YC,YD,YE,YF,YG,YH,YI,YJ,YK,YL,YM,YN,YO,YP,YQ,YR,YS,YT, len_LN]
  refine LW.cnt xs.length (fun j => [.i (((cn pF xs xs.length : Nat) : Int) - (cn pF xs j : Nat)), .i (((cn pP xs xs.length : Nat) : Int) - (cn pP xs j : Nat)), .i (((cn pL xs xs.length : Nat) : Int) - (cn pL xs j : Nat)), .i (j : Nat)]) (fun j hj => ?_) ?_ (by simp [cn_zero])
  · have hj' : (j : Int) < xs.length := by omega
    have hw := hall _ (List.getElem_mem hj)
    have s1 := cn_succ pF hj
    have s2 := cn_succ pP hj
    have s3 := cn_succ pL hj
    have b1 := cn_le pF xs j
    have b2 := cn_le pP xs j
    have b3 := cn_le pL xs j
    have B1 := cn_le pF xs xs.length
    have B2 := cn_le pP xs xs.length
    have B3 := cn_le pL xs xs.length
    have hg : (Pr.idxS .i64).eval [.s (BN (xs.map ch)), .i (j : Int)] = some (.i (ch xs[j] : Nat)) := by
      rw [idx_BN (by rw [tl]; exact hj) (by rw [List.getElem_map]; exact ch_lt _), List.getElem_map]
    have jq : (j : Int) + 1 = ((j + 1 : Nat) : Int) := by omega
    have hcl := cl_lt xs[j]
    generalize xs[j] = w at hw s1 s2 s3 hg hcl
    have lS := len_BN (xs.map ch)
    rw [tl] at lS
    generalize cn pF xs xs.length = A at B1
    generalize cn pP xs xs.length = P at B2
    generalize cn pL xs xs.length = L at B3
    rcases okw_kd hw with k0 | k0 | k0 | k0
    · have e1 : cn pF xs (j + 1) = cn pF xs j + 1 := by rw [s1]; simp [pF, k0]
      have e2 : cn pP xs (j + 1) = cn pP xs j := by rw [s2]; simp [pP, k0]
      have e3 : cn pL xs (j + 1) = cn pL xs j := by rw [s3]; simp [pL, k0]
      have q : (A : Int) - (cn pF xs j : Nat) - 1 = (A : Int) - (cn pF xs (j + 1) : Nat) := by omega
      have c : ch w = 46 := by simp [ch, k0]
      rw [e2, e3]
      rw [c] at hg
      generalize cn pF xs (j + 1) = v at q e1
      (repeat (first | simp (disch := omega) only [wrap64, wrapU32, wrapU64, wrapU8] | simp only [Ja,Jb,Jc,Jd,Je,Jf,Jg,Jh,Ji,Jj,Jk,Jl,Jm,Jn,Jo,Jp,Jq,Jr,Js,Jt,Ju,Jv,Jw,envA,lensOf,Jx,Jy,Jz,JA,JB,JC,JD,JE,JF,JG,JH,JI,JJ,JK,JL,JM,JN,JO,JP,JQ,JR,JS,JT,JU,JV,JW,↓reduceIte,if_true,reduceCtorEq,Nat.reduceEqDiff,JX,JY,JZ,J0,J1,J2,J3,J4,J5,J6,J7,Ya,Yb,Yc,Yd,Ye,Yf,Int.cast_ofNat_Int,Yg,Yh,Int.reduceLT,Int.reduceLE,Int.reduceEq,Int.reduceAdd,Int.reduceMul,Int.reduceSub,Int.reduceNeg,Yi,Yj,Yk,Yl,Ym,Yn,Yo,Yp,Yq,Yr,Ys,Yt,Yu,Yv,Yw,Yx,Yy,Yz,YA,YB,YC,YD,YE,YF,YG,YH,YI,YJ,YK,YL,YM,YN,YO,YP,YQ,YR,YS,YT, len_LN, lS, hj', hg, q, jq]))
    · have e1 : cn pF xs (j + 1) = cn pF xs j := by rw [s1]; simp [pF, k0]
      have e2 : cn pP xs (j + 1) = cn pP xs j + 1 := by rw [s2]; simp [pP, k0]
      have e3 : cn pL xs (j + 1) = cn pL xs j := by rw [s3]; simp [pL, k0]
      have q : (P : Int) - (cn pP xs j : Nat) - 1 = (P : Int) - (cn pP xs (j + 1) : Nat) := by omega
      have c : ch w = 48 + cl w := by simp [ch, k0]
      have c1 : ¬ ((ch w : Nat) : Int) = 46 := by omega
      have c2 : ¬ ((ch w : Nat) : Int) = 72 := by omega
      have c3 : ¬ ((ch w : Nat) : Int) = 104 := by omega
      rw [e1, e3]
      generalize ch w = cw at hg c1 c2 c3
      generalize cn pP xs (j + 1) = v at q e2
      (repeat (first | simp (disch := omega) only [wrap64, wrapU32, wrapU64, wrapU8] | simp only [Ja,Jb,Jc,Jd,Je,Jf,Jg,Jh,Ji,Jj,Jk,Jl,Jm,Jn,Jo,Jp,Jq,Jr,Js,Jt,Ju,Jv,Jw,envA,lensOf,Jx,Jy,Jz,JA,JB,JC,JD,JE,JF,JG,JH,JI,JJ,JK,JL,JM,JN,JO,JP,JQ,JR,JS,JT,JU,JV,JW,↓reduceIte,if_true,reduceCtorEq,Nat.reduceEqDiff,JX,JY,JZ,J0,J1,J2,J3,J4,J5,J6,J7,Ya,Yb,Yc,Yd,Ye,Yf,Int.cast_ofNat_Int,Yg,Yh,Int.reduceLT,Int.reduceLE,Int.reduceEq,Int.reduceAdd,Int.reduceMul,Int.reduceSub,Int.reduceNeg,Yi,Yj,Yk,Yl,Ym,Yn,Yo,Yp,Yq,Yr,Ys,Yt,Yu,Yv,Yw,Yx,Yy,Yz,YA,YB,YC,YD,YE,YF,YG,YH,YI,YJ,YK,YL,YM,YN,YO,YP,YQ,YR,YS,YT, len_LN, lS, hj', hg, c1, c2, c3, q, jq]))
    · have e1 : cn pF xs (j + 1) = cn pF xs j := by rw [s1]; simp [pF, k0]
      have e2 : cn pP xs (j + 1) = cn pP xs j := by rw [s2]; simp [pP, k0]
      have e3 : cn pL xs (j + 1) = cn pL xs j + 1 := by rw [s3]; simp [pL, k0]
      have q : (L : Int) - (cn pL xs j : Nat) - 1 = (L : Int) - (cn pL xs (j + 1) : Nat) := by omega
      have c : ch w = 72 := by simp [ch, k0]
      rw [e1, e2]
      rw [c] at hg
      generalize cn pL xs (j + 1) = v at q e3
      (repeat (first | simp (disch := omega) only [wrap64, wrapU32, wrapU64, wrapU8] | simp only [Ja,Jb,Jc,Jd,Je,Jf,Jg,Jh,Ji,Jj,Jk,Jl,Jm,Jn,Jo,Jp,Jq,Jr,Js,Jt,Ju,Jv,Jw,envA,lensOf,Jx,Jy,Jz,JA,JB,JC,JD,JE,JF,JG,JH,JI,JJ,JK,JL,JM,JN,JO,JP,JQ,JR,JS,JT,JU,JV,JW,↓reduceIte,if_true,reduceCtorEq,Nat.reduceEqDiff,JX,JY,JZ,J0,J1,J2,J3,J4,J5,J6,J7,Ya,Yb,Yc,Yd,Ye,Yf,Int.cast_ofNat_Int,Yg,Yh,Int.reduceLT,Int.reduceLE,Int.reduceEq,Int.reduceAdd,Int.reduceMul,Int.reduceSub,Int.reduceNeg,Yi,Yj,Yk,Yl,Ym,Yn,Yo,Yp,Yq,Yr,Ys,Yt,Yu,Yv,Yw,Yx,Yy,Yz,YA,YB,YC,YD,YE,YF,YG,YH,YI,YJ,YK,YL,YM,YN,YO,YP,YQ,YR,YS,YT, len_LN, lS, hj', hg, q, jq]))
    · have e1 : cn pF xs (j + 1) = cn pF xs j := by rw [s1]; simp [pF, k0]
      have e2 : cn pP xs (j + 1) = cn pP xs j := by rw [s2]; simp [pP, k0]
      have e3 : cn pL xs (j + 1) = cn pL xs j + 1 := by rw [s3]; simp [pL, k0]
      have q : (L : Int) - (cn pL xs j : Nat) - 1 = (L : Int) - (cn pL xs (j + 1) : Nat) := by omega
      have c : ch w = 104 := by simp [ch, k0]
      rw [e1, e2]
      rw [c] at hg
      generalize cn pL xs (j + 1) = v at q e3
      (repeat (first | simp (disch := omega) only [wrap64, wrapU32, wrapU64, wrapU8] | simp only [Ja,Jb,Jc,Jd,Je,Jf,Jg,Jh,Ji,Jj,Jk,Jl,Jm,Jn,Jo,Jp,Jq,Jr,Js,Jt,Ju,Jv,Jw,envA,lensOf,Jx,Jy,Jz,JA,JB,JC,JD,JE,JF,JG,JH,JI,JJ,JK,JL,JM,JN,JO,JP,JQ,JR,JS,JT,JU,JV,JW,↓reduceIte,if_true,reduceCtorEq,Nat.reduceEqDiff,JX,JY,JZ,J0,J1,J2,J3,J4,J5,J6,J7,Ya,Yb,Yc,Yd,Ye,Yf,Int.cast_ofNat_Int,Yg,Yh,Int.reduceLT,Int.reduceLE,Int.reduceEq,Int.reduceAdd,Int.reduceMul,Int.reduceSub,Int.reduceNeg,Yi,Yj,Yk,Yl,Ym,Yn,Yo,Yp,Yq,Yr,Ys,Yt,Yu,Yv,Yw,Yx,Yy,Yz,YA,YB,YC,YD,YE,YF,YG,YH,YI,YJ,YK,YL,YM,YN,YO,YP,YQ,YR,YS,YT, len_LN, lS, hj', hg, q, jq]))
  · have hj' : ¬ (xs.length : Int) < xs.length := by omega
    have lS := len_BN (xs.map ch)
    rw [tl] at lS
    have z : ∀ x : Int, x - x = 0 := fun x => by omega
    (repeat (first | simp (disch := omega) only [wrap64, wrapU32, wrapU64, wrapU8] | simp only [Ja,Jb,Jc,Jd,Je,Jf,Jg,Jh,Ji,Jj,Jk,Jl,Jm,Jn,Jo,Jp,Jq,Jr,Js,Jt,Ju,Jv,Jw,envA,lensOf,Jx,Jy,Jz,JA,JB,JC,JD,JE,JF,JG,JH,JI,JJ,JK,JL,JM,JN,JO,JP,JQ,JR,JS,JT,JU,JV,JW,↓reduceIte,if_true,reduceCtorEq,Nat.reduceEqDiff,JX,JY,JZ,J0,J1,J2,J3,J4,J5,J6,J7,Ya,Yb,Yc,Yd,Ye,Yf,Int.cast_ofNat_Int,Yg,Yh,Int.reduceLT,Int.reduceLE,Int.reduceEq,Int.reduceAdd,Int.reduceMul,Int.reduceSub,Int.reduceNeg,Yi,Yj,Yk,Yl,Ym,Yn,Yo,Yp,Yq,Yr,Ys,Yt,Yu,Yv,Yw,Yx,Yy,Yz,YA,YB,YC,YD,YE,YF,YG,YH,YI,YJ,YK,YL,YM,YN,YO,YP,YQ,YR,YS,YT, len_LN, lS, hj', z]))
theorem law (ds : List D) (h : wfZ [.sl [.int .u8]] ds) : EvF fes 83 ds [.b true] := by
  obtain ⟨d0, r, rfl, h0, h⟩ := wfZ_cons h
  obtain rfl := wfZ_nil h
  obtain ⟨xs, rfl, hl, hx⟩ := bytes_of h0
  exact f83 xs hl hx
end Go.Proofs.Ytbacblphkppigaa.MemText
