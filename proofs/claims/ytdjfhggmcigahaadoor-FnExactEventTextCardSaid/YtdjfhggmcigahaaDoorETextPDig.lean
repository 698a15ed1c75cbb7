/- The reference's number text is the library's numeral. -/
import Derived.Test.YtdjfhggmcigahaaDoorTEText
import Derived.Test.YtdjfhggmcigahaaDoorMW
import Derived.Test.YtdjfhggmcigahaaDoorPR
set_option linter.unusedVariables false
set_option linter.unusedSimpArgs false
namespace Go.Proofs.YtdjfhggmcigahaaDoor.EText
open Go.BH Go.Proofs
set_option maxRecDepth 100000
/-- The digits, none for 0. -/
def dd (u : Nat) : List Nat := if u = 0 then [] else (Lib.decDigits u).map UInt8.toNat
theorem dd_zero : dd 0 = [] := rfl
theorem toNat_dig {k : Nat} (h : k < 10) : (UInt8.ofNat (48 + k)).toNat = 48 + k := by
  rw [UInt8.toNat_ofNat']
  omega
theorem dd_step {u : Nat} (h : u ≠ 0) : dd u = dd (u / 10) ++ [48 + u % 10] := by
  unfold dd
  rw [if_neg h, Lib.decDigits]
  by_cases h1 : u < 10
  · rw [dif_pos h1, if_pos (by omega), Nat.mod_eq_of_lt h1]
    simp only [List.map_cons, List.map_nil, toNat_dig h1, List.nil_append]
  · rw [dif_neg h1, if_neg (by omega)]
    simp only [List.map_append, List.map_cons, List.map_nil, toNat_dig (Nat.mod_lt u (by decide : 10 > 0))]
theorem dd_len {u : Nat} (h : u ≤ 9223372036854775808) : (dd u).length ≤ 21 := by
  unfold dd
  split
  · simp
  · have := Lib.itoa_length_le (-(u : Int)) (by omega) (by omega)
    rw [List.length_map]
    by_cases h0 : u = 0
    · omega
    · have e : Lib.itoa (-(u : Int)) = 45 :: Lib.decDigits u := Lib.itoa_neg u (by omega)
      rw [e] at this
      simp at this
      omega
theorem push_list (bs : List UInt8) : ∀ r : ByteArray, ((bs.map fun b => D.i ((b.toNat : Nat) : Int)).foldl (fun r d => r.push (UInt8.ofNat d.nat)) r).data.toList = r.data.toList ++ bs := by
  induction bs with
  | nil => intro r; simp
  | cons b bs ih =>
    intro r
    rw [List.map_cons, List.foldl_cons, ih]
    have : UInt8.ofNat (D.i ((b.toNat : Nat) : Int)).nat = b := by
      rw [show (D.i ((b.toNat : Nat) : Int)).nat = b.toNat from Int.toNat_natCast _]
      exact UInt8.ofNat_toNat
    rw [this, ByteArray.data_push, Array.toList_push, List.append_assoc]
    rfl
theorem bytes_eq {a b : ByteArray} (h : a.data.toList = b.data.toList) : a = b := by
  obtain ⟨⟨x⟩⟩ := a
  obtain ⟨⟨y⟩⟩ := b
  simp only at h
  rw [h]
theorem bytesOf_u8 (bs : List UInt8) : bytesOf ((bs.map UInt8.toNat).map fun (n : Nat) => D.i (n : Int)) = ⟨bs.toArray⟩ := by
  refine bytes_eq ?_
  rw [bytesOf, List.map_map]
  have := push_list bs ByteArray.empty
  rw [show (ByteArray.empty.data.toList) = [] from rfl, List.nil_append] at this
  exact this
theorem capp {d : Nat} {xs : List Nat} (h : xs.length ≤ 1000) : (Pr.app [ku8] 1).eval [.l [.i (d : Int)], LN xs] = some (LN (d :: xs)) :=
  app_LN (xs := [d]) (ys := xs) (by decide) (by simp; omega)
theorem txt_neg {n : Int} (h : n < 0) : txt (45 :: dd n.natAbs) = ⟨(Lib.itoa n).toArray⟩ := by
  unfold dd Lib.itoa
  rw [if_neg (by omega), if_pos h, ← bytesOf_u8]
  rfl
theorem txt_pos {n : Int} (h : ¬ n < 0) (h0 : n ≠ 0) : txt (dd n.natAbs) = ⟨(Lib.itoa n).toArray⟩ := by
  unfold dd Lib.itoa
  rw [if_neg (by omega), if_neg h, ← bytesOf_u8, show n.natAbs = n.toNat by omega]
  rfl
theorem bstr_LN {xs : List Nat} : Pr.bstr.eval [LN xs] = some (.s (txt xs)) := rfl
theorem f8 (n : Int) (h : Okn n) : EvF fes 8 [.i n] [.s ⟨(Lib.itoa n).toArray⟩] := by
  obtain ⟨hlo, hhi⟩ := h
  refine EvF.w (fe := e8) (t := t8) rfl rfl ?_
  by_cases h0 : n = 0
  · subst h0
    (repeat (first | simp (disch := omega) only [wrap64, wrapU32, wrapU64, wrapU8] | simp only [Ja,Jb,Jc,Jd,Je,Jf,Jg,Jh,Ji,Jj,Jk,Jl,Jm,Jn,Jo,Jp,Jq,Jr,Js,Jt,Ju,Jv,Jw,envA,lensOf,Jx,Jy,Jz,JA,JB,JC,JD,JE,JF,JG,JH,JI,JJ,JK,JL,JM,JN,JO,JP,JQ,JR,JS,JT,JU,JV,JW,↓reduceIte,if_true,reduceCtorEq,Nat.reduceEqDiff,JX,JY,JZ,J0,J1,J2,J3,J4,J5,J6,J7,Ya,Yb,Yc,Yd,Ye,Yf,Int.cast_ofNat_Int,Yg,Yh,Int.reduceLT,Int.reduceLE,Int.reduceEq,Int.reduceAdd,Int.reduceMul,Int.reduceSub,Int.reduceNeg,Yi,Yj,Yk,Yl,Ym,Yn,Yo,Yp,Yq,Yr,Ys,Yt,Yu,Yv,Yw,Yx,Yy,Yz,YA,YB,YC,YD,YE,YF,YG,YH,YI,YJ,YK,YL,YM,YN,YO,YP,YQ,YR,YS,YT, t8, e8]))
    have : Lib.itoa 0 = [48] := by
      rw [show (0 : Int) = ((0 : Nat) : Int) from rfl, Lib.itoa_nonneg, Lib.decDigits, dif_pos (by decide)]
      rfl
    rw [this]
  · have hd : (dd n.natAbs).length ≤ 21 := dd_len (by omega)
    simp only [Ja,Jb,Jc,Jd,Je,Jf,Jg,Jh,Ji,Jj,Jk,Jl,Jm,Jn,Jo,Jp,Jq,Jr,Js,Jt,Ju,Jv,Jw,envA,lensOf,Jx,Jy,Jz,JA,JB,JC,JD,JE,JF,JG,JH,JI,JJ,JK,JL,JM,JN,JO,JP,JQ,JR,JS,JT,JU,JV,JW,↓reduceIte,if_true,reduceCtorEq,Nat.reduceEqDiff,JX,JY,JZ,J0,J1,J2,J3,J4,J5,J6,J7,Ya,Yb,Yc,Yd,Ye,Yf,Int.cast_ofNat_Int,Yg,Yh,Int.reduceLT,Int.reduceLE,Int.reduceEq,Int.reduceAdd,Int.reduceMul,Int.reduceSub,Int.reduceNeg,Yi,Yj,Yk,Yl,Ym,Yn,Yo,Yp,Yq,Yr,Ys,Yt,Yu,Yv,Yw,Yx,Yy,Yz,YA,YB,YC,YD,YE,YF,YG,YH,YI,YJ,YK,YL,YM,YN,YO,YP,YQ,YR,YS,YT, t8, e8, h0]
    refine LW.inv (fun a : Int × List Nat => dd a.1.natAbs ++ a.2 = dd n.natAbs ∧ -9223372036854775808 ≤ a.1 ∧ a.1 ≤ 9223372036854775807) (fun a => [.i a.1, LN a.2]) (fun a => a.1.natAbs) (fun a ha => ?_) (a := (n, [])) ⟨by simp, hlo, hhi⟩ rfl
    obtain ⟨v, xs⟩ := a
    obtain ⟨hxs, hv1, hv2⟩ := ha
    simp only at hxs hv1 hv2 ⊢
    have hlen : (dd v.natAbs).length + xs.length ≤ 21 := by
      have := congrArg List.length hxs
      rw [List.length_append] at this
      omega
    by_cases hv : v = 0
    · subst hv
      have hx : xs = dd n.natAbs := by
        rw [show (0 : Int).natAbs = 0 from rfl, dd_zero, List.nil_append] at hxs
        exact hxs
      subst hx
      by_cases hn : n < 0
      · have hc := capp (d := 45) (xs := dd n.natAbs) (by omega)
        rw [show ((45 : Nat) : Int) = 45 from rfl] at hc
        (repeat (first | simp (disch := omega) only [wrap64, wrapU32, wrapU64, wrapU8] | simp only [Ja,Jb,Jc,Jd,Je,Jf,Jg,Jh,Ji,Jj,Jk,Jl,Jm,Jn,Jo,Jp,Jq,Jr,Js,Jt,Ju,Jv,Jw,envA,lensOf,Jx,Jy,Jz,JA,JB,JC,JD,JE,JF,JG,JH,JI,JJ,JK,JL,JM,JN,JO,JP,JQ,JR,JS,JT,JU,JV,JW,↓reduceIte,if_true,reduceCtorEq,Nat.reduceEqDiff,JX,JY,JZ,J0,J1,J2,J3,J4,J5,J6,J7,Ya,Yb,Yc,Yd,Ye,Yf,Int.cast_ofNat_Int,Yg,Yh,Int.reduceLT,Int.reduceLE,Int.reduceEq,Int.reduceAdd,Int.reduceMul,Int.reduceSub,Int.reduceNeg,Yi,Yj,Yk,Yl,Ym,Yn,Yo,Yp,Yq,Yr,Ys,Yt,Yu,Yv,Yw,Yx,Yy,Yz,YA,YB,YC,YD,YE,YF,YG,YH,YI,YJ,YK,YL,YM,YN,YO,YP,YQ,YR,YS,YT, hn]))
        rw [hc]
        (repeat (first | simp (disch := omega) only [wrap64, wrapU32, wrapU64, wrapU8] | simp only [Ja,Jb,Jc,Jd,Je,Jf,Jg,Jh,Ji,Jj,Jk,Jl,Jm,Jn,Jo,Jp,Jq,Jr,Js,Jt,Ju,Jv,Jw,envA,lensOf,Jx,Jy,Jz,JA,JB,JC,JD,JE,JF,JG,JH,JI,JJ,JK,JL,JM,JN,JO,JP,JQ,JR,JS,JT,JU,JV,JW,↓reduceIte,if_true,reduceCtorEq,Nat.reduceEqDiff,JX,JY,JZ,J0,J1,J2,J3,J4,J5,J6,J7,Ya,Yb,Yc,Yd,Ye,Yf,Int.cast_ofNat_Int,Yg,Yh,Int.reduceLT,Int.reduceLE,Int.reduceEq,Int.reduceAdd,Int.reduceMul,Int.reduceSub,Int.reduceNeg,Yi,Yj,Yk,Yl,Ym,Yn,Yo,Yp,Yq,Yr,Ys,Yt,Yu,Yv,Yw,Yx,Yy,Yz,YA,YB,YC,YD,YE,YF,YG,YH,YI,YJ,YK,YL,YM,YN,YO,YP,YQ,YR,YS,YT, bstr_LN, txt_neg hn]))
      · (repeat (first | simp (disch := omega) only [wrap64, wrapU32, wrapU64, wrapU8] | simp only [Ja,Jb,Jc,Jd,Je,Jf,Jg,Jh,Ji,Jj,Jk,Jl,Jm,Jn,Jo,Jp,Jq,Jr,Js,Jt,Ju,Jv,Jw,envA,lensOf,Jx,Jy,Jz,JA,JB,JC,JD,JE,JF,JG,JH,JI,JJ,JK,JL,JM,JN,JO,JP,JQ,JR,JS,JT,JU,JV,JW,↓reduceIte,if_true,reduceCtorEq,Nat.reduceEqDiff,JX,JY,JZ,J0,J1,J2,J3,J4,J5,J6,J7,Ya,Yb,Yc,Yd,Ye,Yf,Int.cast_ofNat_Int,Yg,Yh,Int.reduceLT,Int.reduceLE,Int.reduceEq,Int.reduceAdd,Int.reduceMul,Int.reduceSub,Int.reduceNeg,Yi,Yj,Yk,Yl,Ym,Yn,Yo,Yp,Yq,Yr,Ys,Yt,Yu,Yv,Yw,Yx,Yy,Yz,YA,YB,YC,YD,YE,YF,YG,YH,YI,YJ,YK,YL,YM,YN,YO,YP,YQ,YR,YS,YT, hn, bstr_LN, txt_pos hn h0]))
    · have hz : ¬ (10 : Int) = 0 := by omega
      have hst := dd_step (u := v.natAbs) (by omega)
      by_cases hs : v < 0
      · obtain ⟨m, rfl⟩ : ∃ m : Nat, v = -(m : Int) := ⟨v.natAbs, by omega⟩
        rw [Int.natAbs_neg, Int.natAbs_natCast] at hst hxs hlen
        have hm1 : (-(m : Int)).tmod 10 = -((m % 10 : Nat) : Int) := by rw [Int.neg_tmod]; rfl
        have hm2 : (-(m : Int)).tdiv 10 = -((m / 10 : Nat) : Int) := by rw [Int.neg_tdiv]; rfl
        have hc := capp (d := 48 + m % 10) (xs := xs) (by omega)
        rw [show ((48 + m % 10 : Nat) : Int) = 48 + ((m % 10 : Nat) : Int) by omega] at hc
        have hfin : ∃ a' : Int × List Nat, (dd a'.fst.natAbs ++ a'.snd = dd n.natAbs ∧ -9223372036854775808 ≤ a'.fst ∧ a'.fst ≤ 9223372036854775807) ∧ a'.fst.natAbs < (-(m : Int)).natAbs ∧ [D.i (-((m / 10 : Nat) : Int)), LN ((48 + m % 10) :: xs)] = [D.i a'.fst, LN a'.snd] := by
          refine ⟨(-((m / 10 : Nat) : Int), (48 + m % 10) :: xs), ⟨?_, by simp only; omega, by simp only; omega⟩, by simp only; omega, rfl⟩
          simp only
          rw [Int.natAbs_neg, Int.natAbs_natCast, ← hxs, hst, List.append_assoc]
          rfl
        by_cases hr : (0 : Int) < ((m % 10 : Nat) : Int)
        · have hr1 : -((m % 10 : Nat) : Int) < 0 := by omega
          have hr2 : (0 : Int) - -((m % 10 : Nat) : Int) = ((m % 10 : Nat) : Int) := by omega
          (repeat (first | simp (disch := omega) only [wrap64, wrapU32, wrapU64, wrapU8] | simp only [Ja,Jb,Jc,Jd,Je,Jf,Jg,Jh,Ji,Jj,Jk,Jl,Jm,Jn,Jo,Jp,Jq,Jr,Js,Jt,Ju,Jv,Jw,envA,lensOf,Jx,Jy,Jz,JA,JB,JC,JD,JE,JF,JG,JH,JI,JJ,JK,JL,JM,JN,JO,JP,JQ,JR,JS,JT,JU,JV,JW,↓reduceIte,if_true,reduceCtorEq,Nat.reduceEqDiff,JX,JY,JZ,J0,J1,J2,J3,J4,J5,J6,J7,Ya,Yb,Yc,Yd,Ye,Yf,Int.cast_ofNat_Int,Yg,Yh,Int.reduceLT,Int.reduceLE,Int.reduceEq,Int.reduceAdd,Int.reduceMul,Int.reduceSub,Int.reduceNeg,Yi,Yj,Yk,Yl,Ym,Yn,Yo,Yp,Yq,Yr,Ys,Yt,Yu,Yv,Yw,Yx,Yy,Yz,YA,YB,YC,YD,YE,YF,YG,YH,YI,YJ,YK,YL,YM,YN,YO,YP,YQ,YR,YS,YT, hv, hz, hm1, hm2, hr1, hr2]))
          rw [hc]
          (repeat (first | simp (disch := omega) only [wrap64, wrapU32, wrapU64, wrapU8] | simp only [Ja,Jb,Jc,Jd,Je,Jf,Jg,Jh,Ji,Jj,Jk,Jl,Jm,Jn,Jo,Jp,Jq,Jr,Js,Jt,Ju,Jv,Jw,envA,lensOf,Jx,Jy,Jz,JA,JB,JC,JD,JE,JF,JG,JH,JI,JJ,JK,JL,JM,JN,JO,JP,JQ,JR,JS,JT,JU,JV,JW,↓reduceIte,if_true,reduceCtorEq,Nat.reduceEqDiff,JX,JY,JZ,J0,J1,J2,J3,J4,J5,J6,J7,Ya,Yb,Yc,Yd,Ye,Yf,Int.cast_ofNat_Int,Yg,Yh,Int.reduceLT,Int.reduceLE,Int.reduceEq,Int.reduceAdd,Int.reduceMul,Int.reduceSub,Int.reduceNeg,Yi,Yj,Yk,Yl,Ym,Yn,Yo,Yp,Yq,Yr,Ys,Yt,Yu,Yv,Yw,Yx,Yy,Yz,YA,YB,YC,YD,YE,YF,YG,YH,YI,YJ,YK,YL,YM,YN,YO,YP,YQ,YR,YS,YT, hm2, hz]))
          exact hfin
        · have hr1 : ¬ -((m % 10 : Nat) : Int) < 0 := by omega
          have hr2 : -((m % 10 : Nat) : Int) = ((m % 10 : Nat) : Int) := by omega
          (repeat (first | simp (disch := omega) only [wrap64, wrapU32, wrapU64, wrapU8] | simp only [Ja,Jb,Jc,Jd,Je,Jf,Jg,Jh,Ji,Jj,Jk,Jl,Jm,Jn,Jo,Jp,Jq,Jr,Js,Jt,Ju,Jv,Jw,envA,lensOf,Jx,Jy,Jz,JA,JB,JC,JD,JE,JF,JG,JH,JI,JJ,JK,JL,JM,JN,JO,JP,JQ,JR,JS,JT,JU,JV,JW,↓reduceIte,if_true,reduceCtorEq,Nat.reduceEqDiff,JX,JY,JZ,J0,J1,J2,J3,J4,J5,J6,J7,Ya,Yb,Yc,Yd,Ye,Yf,Int.cast_ofNat_Int,Yg,Yh,Int.reduceLT,Int.reduceLE,Int.reduceEq,Int.reduceAdd,Int.reduceMul,Int.reduceSub,Int.reduceNeg,Yi,Yj,Yk,Yl,Ym,Yn,Yo,Yp,Yq,Yr,Ys,Yt,Yu,Yv,Yw,Yx,Yy,Yz,YA,YB,YC,YD,YE,YF,YG,YH,YI,YJ,YK,YL,YM,YN,YO,YP,YQ,YR,YS,YT, hv, hz, hm1, hm2, hr1]))
          rw [hr2, hc]
          (repeat (first | simp (disch := omega) only [wrap64, wrapU32, wrapU64, wrapU8] | simp only [Ja,Jb,Jc,Jd,Je,Jf,Jg,Jh,Ji,Jj,Jk,Jl,Jm,Jn,Jo,Jp,Jq,Jr,Js,Jt,Ju,Jv,Jw,envA,lensOf,Jx,Jy,Jz,JA,JB,JC,JD,JE,JF,JG,JH,JI,JJ,JK,JL,JM,JN,JO,JP,JQ,JR,JS,JT,JU,JV,JW,↓reduceIte,if_true,reduceCtorEq,Nat.reduceEqDiff,JX,JY,JZ,J0,J1,J2,J3,J4,J5,J6,J7,Ya,Yb,Yc,Yd,Ye,Yf,Int.cast_ofNat_Int,Yg,Yh,Int.reduceLT,Int.reduceLE,Int.reduceEq,Int.reduceAdd,Int.reduceMul,Int.reduceSub,Int.reduceNeg,Yi,Yj,Yk,Yl,Ym,Yn,Yo,Yp,Yq,Yr,Ys,Yt,Yu,Yv,Yw,Yx,Yy,Yz,YA,YB,YC,YD,YE,YF,YG,YH,YI,YJ,YK,YL,YM,YN,YO,YP,YQ,YR,YS,YT, hm2, hz]))
          exact hfin
      · obtain ⟨m, rfl⟩ : ∃ m : Nat, v = m := ⟨v.toNat, by omega⟩
        rw [Int.natAbs_natCast] at hst hxs hlen
        have hm1 : (m : Int).tmod 10 = ((m % 10 : Nat) : Int) := rfl
        have hm2 : (m : Int).tdiv 10 = ((m / 10 : Nat) : Int) := rfl
        have hc := capp (d := 48 + m % 10) (xs := xs) (by omega)
        rw [show ((48 + m % 10 : Nat) : Int) = 48 + ((m % 10 : Nat) : Int) by omega] at hc
        have hfin : ∃ a' : Int × List Nat, (dd a'.fst.natAbs ++ a'.snd = dd n.natAbs ∧ -9223372036854775808 ≤ a'.fst ∧ a'.fst ≤ 9223372036854775807) ∧ a'.fst.natAbs < (m : Int).natAbs ∧ [D.i ((m / 10 : Nat) : Int), LN ((48 + m % 10) :: xs)] = [D.i a'.fst, LN a'.snd] := by
          refine ⟨(((m / 10 : Nat) : Int), (48 + m % 10) :: xs), ⟨?_, by simp only; omega, by simp only; omega⟩, by simp only; omega, rfl⟩
          simp only
          rw [Int.natAbs_natCast, ← hxs, hst, List.append_assoc]
          rfl
        (repeat (first | simp (disch := omega) only [wrap64, wrapU32, wrapU64, wrapU8] | simp only [Ja,Jb,Jc,Jd,Je,Jf,Jg,Jh,Ji,Jj,Jk,Jl,Jm,Jn,Jo,Jp,Jq,Jr,Js,Jt,Ju,Jv,Jw,envA,lensOf,Jx,Jy,Jz,JA,JB,JC,JD,JE,JF,JG,JH,JI,JJ,JK,JL,JM,JN,JO,JP,JQ,JR,JS,JT,JU,JV,JW,↓reduceIte,if_true,reduceCtorEq,Nat.reduceEqDiff,JX,JY,JZ,J0,J1,J2,J3,J4,J5,J6,J7,Ya,Yb,Yc,Yd,Ye,Yf,Int.cast_ofNat_Int,Yg,Yh,Int.reduceLT,Int.reduceLE,Int.reduceEq,Int.reduceAdd,Int.reduceMul,Int.reduceSub,Int.reduceNeg,Yi,Yj,Yk,Yl,Ym,Yn,Yo,Yp,Yq,Yr,Ys,Yt,Yu,Yv,Yw,Yx,Yy,Yz,YA,YB,YC,YD,YE,YF,YG,YH,YI,YJ,YK,YL,YM,YN,YO,YP,YQ,YR,YS,YT, hv, hz, hm1, hm2]))
        rw [hc]
        (repeat (first | simp (disch := omega) only [wrap64, wrapU32, wrapU64, wrapU8] | simp only [Ja,Jb,Jc,Jd,Je,Jf,Jg,Jh,Ji,Jj,Jk,Jl,Jm,Jn,Jo,Jp,Jq,Jr,Js,Jt,Ju,Jv,Jw,envA,lensOf,Jx,Jy,Jz,JA,JB,JC,JD,JE,JF,JG,JH,JI,JJ,JK,JL,JM,JN,JO,JP,JQ,JR,JS,JT,JU,JV,JW,↓reduceIte,if_true,reduceCtorEq,Nat.reduceEqDiff,JX,JY,JZ,J0,J1,J2,J3,J4,J5,J6,J7,Ya,Yb,Yc,Yd,Ye,Yf,Int.cast_ofNat_Int,Yg,Yh,Int.reduceLT,Int.reduceLE,Int.reduceEq,Int.reduceAdd,Int.reduceMul,Int.reduceSub,Int.reduceNeg,Yi,Yj,Yk,Yl,Ym,Yn,Yo,Yp,Yq,Yr,Ys,Yt,Yu,Yv,Yw,Yx,Yy,Yz,YA,YB,YC,YD,YE,YF,YG,YH,YI,YJ,YK,YL,YM,YN,YO,YP,YQ,YR,YS,YT, hm2, hz]))
        exact hfin
end Go.Proofs.YtdjfhggmcigahaaDoor.EText
