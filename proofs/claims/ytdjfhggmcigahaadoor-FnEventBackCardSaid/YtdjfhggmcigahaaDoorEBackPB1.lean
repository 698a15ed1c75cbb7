/- PDig PNb PIn PEv PEvTo PEvEq PEvT in one text. -/
import Derived.Test.YtdjfhggmcigahaaDoorTEBack
import Derived.Test.YtdjfhggmcigahaaDoorMW
import Derived.Test.YtdjfhggmcigahaaDoorPR
import Derived.Test.YtdjfhggmcigahaaDoorMR
/- The reference's number text is the library's numeral. -/
set_option linter.unusedVariables false
set_option linter.unusedSimpArgs false
namespace Go.Proofs.YtdjfhggmcigahaaDoor.EBack
open Go.BH Go.Proofs
set_option maxRecDepth 100000
/-- The digits, none for 0. -/
def dd (u : Nat) : List Nat := if u = 0 then [] else (Lib.decDigits u).map UInt8.toNat
theorem dd_zero : dd 0 = [] := rfl
theorem toNat_dig {k : Nat} (h : k < 10) : (UInt8.ofNat (48 + k)).toNat = 48 + k := by
  rw [UInt8.toNat_ofNat']
  omega
theorem dd_step {u : Nat} (h : u ≠ 0) : dd u = dd (u / 10) ++ [48 + u % 10] := by
  unfold dd
  rw [if_neg h, Lib.decDigits]
  by_cases h1 : u < 10
  · rw [dif_pos h1, if_pos (by omega), Nat.mod_eq_of_lt h1]
    simp only [List.map_cons, List.map_nil, toNat_dig h1, List.nil_append]
  · rw [dif_neg h1, if_neg (by omega)]
    simp only [List.map_append, List.map_cons, List.map_nil, toNat_dig (Nat.mod_lt u (by decide : 10 > 0))]
theorem dd_len {u : Nat} (h : u ≤ 9223372036854775808) : (dd u).length ≤ 21 := by
  unfold dd
  split
  · simp
  · have := Lib.itoa_length_le (-(u : Int)) (by omega) (by omega)
    rw [List.length_map]
    by_cases h0 : u = 0
    · omega
    · have e : Lib.itoa (-(u : Int)) = 45 :: Lib.decDigits u := Lib.itoa_neg u (by omega)
      rw [e] at this
      simp at this
      omega
theorem push_list (bs : List UInt8) : ∀ r : ByteArray, ((bs.map fun b => D.i ((b.toNat : Nat) : Int)).foldl (fun r d => r.push (UInt8.ofNat d.nat)) r).data.toList = r.data.toList ++ bs := by
  induction bs with
  | nil => intro r; simp
  | cons b bs ih =>
    intro r
    rw [List.map_cons, List.foldl_cons, ih]
    have : UInt8.ofNat (D.i ((b.toNat : Nat) : Int)).nat = b := by
      rw [show (D.i ((b.toNat : Nat) : Int)).nat = b.toNat from Int.toNat_natCast _]
      exact UInt8.ofNat_toNat
    rw [this, ByteArray.data_push, Array.toList_push, List.append_assoc]
    rfl
theorem bytes_eq {a b : ByteArray} (h : a.data.toList = b.data.toList) : a = b := by
  obtain ⟨⟨x⟩⟩ := a
  obtain ⟨⟨y⟩⟩ := b
  simp only at h
  rw [h]
theorem bytesOf_u8 (bs : List UInt8) : bytesOf ((bs.map UInt8.toNat).map fun (n : Nat) => D.i (n : Int)) = ⟨bs.toArray⟩ := by
  refine bytes_eq ?_
  rw [bytesOf, List.map_map]
  have := push_list bs ByteArray.empty
  rw [show (ByteArray.empty.data.toList) = [] from rfl, List.nil_append] at this
  exact this
theorem capp {d : Nat} {xs : List Nat} (h : xs.length ≤ 1000) : (Pr.app [ku8] 1).eval [.l [.i (d : Int)], LN xs] = some (LN (d :: xs)) :=
  app_LN (xs := [d]) (ys := xs) (by decide) (by simp; omega)
theorem txt_neg {n : Int} (h : n < 0) : txt (45 :: dd n.natAbs) = ⟨(Lib.itoa n).toArray⟩ := by
  unfold dd Lib.itoa
  rw [if_neg (by omega), if_pos h, ← bytesOf_u8]
  rfl
theorem txt_pos {n : Int} (h : ¬ n < 0) (h0 : n ≠ 0) : txt (dd n.natAbs) = ⟨(Lib.itoa n).toArray⟩ := by
  unfold dd Lib.itoa
  rw [if_neg (by omega), if_neg h, ← bytesOf_u8, show n.natAbs = n.toNat by omega]
  rfl
theorem bstr_LN {xs : List Nat} : Pr.bstr.eval [LN xs] = some (.s (txt xs)) := rfl
theorem f36 (n : Int) (h : Okn n) : EvF fes 36 [.i n] [.s ⟨(Lib.itoa n).toArray⟩] := by
  obtain ⟨hlo, hhi⟩ := h
  refine EvF.w (fe := e36) (t := t36) rfl rfl ?_
  by_cases h0 : n = 0
  · subst h0
    (repeat (first | simp (disch := omega) only [wrap64, wrapU32, wrapU64, wrapU8] | simp only [Ja,Jb,Jc,Jd,Je,Jf,Jg,Jh,Ji,Jj,Jk,Jl,Jm,Jn,Jo,Jp,Jq,Jr,Js,Jt,Ju,Jv,Jw,envA,lensOf,Jx,Jy,Jz,JA,JB,JC,JD,JE,JF,JG,JH,JI,JJ,JK,JL,JM,JN,JO,JP,JQ,JR,JS,JT,JU,JV,JW,↓reduceIte,if_true,reduceCtorEq,Nat.reduceEqDiff,JX,JY,JZ,J0,J1,J2,J3,J4,J5,J6,J7,Ya,Yb,Yc,Yd,Ye,Yf,Int.cast_ofNat_Int,Yg,Yh,Int.reduceLT,Int.reduceLE,Int.reduceEq,Int.reduceAdd,Int.reduceMul,Int.reduceSub,Int.reduceNeg,Yi,Yj,Yk,Yl,Ym,Yn,Yo,Yp,Yq,Yr,Ys,Yt,Yu,Yv,Yw,Yx,Yy,Yz,YA,YB,YC,YD,YE,YF,YG,YH,YI,YJ,YK,YL,YM,YN,YO,YP,YQ,YR,YS,YT, t36, e36]))
    have : Lib.itoa 0 = [48] := by
      rw [show (0 : Int) = ((0 : Nat) : Int) from rfl, Lib.itoa_nonneg, Lib.decDigits, dif_pos (by decide)]
      rfl
    rw [this]
  · have hd : (dd n.natAbs).length ≤ 21 := dd_len (by omega)
    simp only [Ja,Jb,Jc,Jd,Je,Jf,Jg,Jh,Ji,Jj,Jk,Jl,Jm,Jn,Jo,Jp,Jq,Jr,Js,Jt,Ju,Jv,Jw,envA,lensOf,Jx,Jy,Jz,JA,JB,JC,JD,JE,JF,JG,JH,JI,JJ,JK,JL,JM,JN,JO,JP,JQ,JR,JS,JT,JU,JV,JW,↓reduceIte,if_true,reduceCtorEq,Nat.reduceEqDiff,JX,JY,JZ,J0,J1,J2,J3,J4,J5,J6,J7,Ya,Yb,Yc,Yd,Ye,Yf,Int.cast_ofNat_Int,Yg,Yh,Int.reduceLT,Int.reduceLE,Int.reduceEq,Int.reduceAdd,Int.reduceMul,Int.reduceSub,Int.reduceNeg,Yi,Yj,Yk,Yl,Ym,Yn,Yo,Yp,Yq,Yr,Ys,Yt,Yu,Yv,Yw,Yx,Yy,Yz,YA,YB,YC,YD,YE,YF,YG,YH,YI,YJ,YK,YL,YM,YN,YO,YP,YQ,YR,YS,YT, t36, e36, h0]
    refine LW.inv (fun a : Int × List Nat => dd a.1.natAbs ++ a.2 = dd n.natAbs ∧ -9223372036854775808 ≤ a.1 ∧ a.1 ≤ 9223372036854775807) (fun a => [.i a.1, LN a.2]) (fun a => a.1.natAbs) (fun a ha => ?_) (a := (n, [])) ⟨by simp, hlo, hhi⟩ rfl
    obtain ⟨v, xs⟩ := a
    obtain ⟨hxs, hv1, hv2⟩ := ha
    simp only at hxs hv1 hv2 ⊢
    have hlen : (dd v.natAbs).length + xs.length ≤ 21 := by
      have := congrArg List.length hxs
      rw [List.length_append] at this
      omega
    by_cases hv : v = 0
    · subst hv
      have hx : xs = dd n.natAbs := by
        rw [show (0 : Int).natAbs = 0 from rfl, dd_zero, List.nil_append] at hxs
        exact hxs
      subst hx
      by_cases hn : n < 0
      · have hc := capp (d := 45) (xs := dd n.natAbs) (by omega)
        rw [show ((45 : Nat) : Int) = 45 from rfl] at hc
        (repeat (first | simp (disch := omega) only [wrap64, wrapU32, wrapU64, wrapU8] | simp only [Ja,Jb,Jc,Jd,Je,Jf,Jg,Jh,Ji,Jj,Jk,Jl,Jm,Jn,Jo,Jp,Jq,Jr,Js,Jt,Ju,Jv,Jw,envA,lensOf,Jx,Jy,Jz,JA,JB,JC,JD,JE,JF,JG,JH,JI,JJ,JK,JL,JM,JN,JO,JP,JQ,JR,JS,JT,JU,JV,JW,↓reduceIte,if_true,reduceCtorEq,Nat.reduceEqDiff,JX,JY,JZ,J0,J1,J2,J3,J4,J5,J6,J7,Ya,Yb,Yc,Yd,Ye,Yf,Int.cast_ofNat_Int,Yg,Yh,Int.reduceLT,Int.reduceLE,Int.reduceEq,Int.reduceAdd,Int.reduceMul,Int.reduceSub,Int.reduceNeg,Yi,Yj,Yk,Yl,Ym,Yn,Yo,Yp,Yq,Yr,Ys,Yt,Yu,Yv,Yw,Yx,Yy,Yz,YA,YB,YC,YD,YE,YF,YG,YH,YI,YJ,YK,YL,YM,YN,YO,YP,YQ,YR,YS,YT, hn]))
        rw [hc]
        (repeat (first | simp (disch := omega) only [wrap64, wrapU32, wrapU64, wrapU8] | simp only [Ja,Jb,Jc,Jd,Je,Jf,Jg,Jh,Ji,Jj,Jk,Jl,Jm,Jn,Jo,Jp,Jq,Jr,Js,Jt,Ju,Jv,Jw,envA,lensOf,Jx,Jy,Jz,JA,JB,JC,JD,JE,JF,JG,JH,JI,JJ,JK,JL,JM,JN,JO,JP,JQ,JR,JS,JT,JU,JV,JW,↓reduceIte,if_true,reduceCtorEq,Nat.reduceEqDiff,JX,JY,JZ,J0,J1,J2,J3,J4,J5,J6,J7,Ya,Yb,Yc,Yd,Ye,Yf,Int.cast_ofNat_Int,Yg,Yh,Int.reduceLT,Int.reduceLE,Int.reduceEq,Int.reduceAdd,Int.reduceMul,Int.reduceSub,Int.reduceNeg,Yi,Yj,Yk,Yl,Ym,Yn,Yo,Yp,Yq,Yr,Ys,Yt,Yu,Yv,Yw,Yx,Yy,Yz,YA,YB,YC,YD,YE,YF,YG,YH,YI,YJ,YK,YL,YM,YN,YO,YP,YQ,YR,YS,YT, bstr_LN, txt_neg hn]))
      · (repeat (first | simp (disch := omega) only [wrap64, wrapU32, wrapU64, wrapU8] | simp only [Ja,Jb,Jc,Jd,Je,Jf,Jg,Jh,Ji,Jj,Jk,Jl,Jm,Jn,Jo,Jp,Jq,Jr,Js,Jt,Ju,Jv,Jw,envA,lensOf,Jx,Jy,Jz,JA,JB,JC,JD,JE,JF,JG,JH,JI,JJ,JK,JL,JM,JN,JO,JP,JQ,JR,JS,JT,JU,JV,JW,↓reduceIte,if_true,reduceCtorEq,Nat.reduceEqDiff,JX,JY,JZ,J0,J1,J2,J3,J4,J5,J6,J7,Ya,Yb,Yc,Yd,Ye,Yf,Int.cast_ofNat_Int,Yg,Yh,Int.reduceLT,Int.reduceLE,Int.reduceEq,Int.reduceAdd,Int.reduceMul,Int.reduceSub,Int.reduceNeg,Yi,Yj,Yk,Yl,Ym,Yn,Yo,Yp,Yq,Yr,Ys,Yt,Yu,Yv,Yw,Yx,Yy,Yz,YA,YB,YC,YD,YE,YF,YG,YH,YI,YJ,YK,YL,YM,YN,YO,YP,YQ,YR,YS,YT, hn, bstr_LN, txt_pos hn h0]))
    · have hz : ¬ (10 : Int) = 0 := by omega
      have hst := dd_step (u := v.natAbs) (by omega)
      by_cases hs : v < 0
      · obtain ⟨m, rfl⟩ : ∃ m : Nat, v = -(m : Int) := ⟨v.natAbs, by omega⟩
        rw [Int.natAbs_neg, Int.natAbs_natCast] at hst hxs hlen
        have hm1 : (-(m : Int)).tmod 10 = -((m % 10 : Nat) : Int) := by rw [Int.neg_tmod]; rfl
        have hm2 : (-(m : Int)).tdiv 10 = -((m / 10 : Nat) : Int) := by rw [Int.neg_tdiv]; rfl
        have hc := capp (d := 48 + m % 10) (xs := xs) (by omega)
        rw [show ((48 + m % 10 : Nat) : Int) = 48 + ((m % 10 : Nat) : Int) by omega] at hc
        have hfin : ∃ a' : Int × List Nat, (dd a'.fst.natAbs ++ a'.snd = dd n.natAbs ∧ -9223372036854775808 ≤ a'.fst ∧ a'.fst ≤ 9223372036854775807) ∧ a'.fst.natAbs < (-(m : Int)).natAbs ∧ [D.i (-((m / 10 : Nat) : Int)), LN ((48 + m % 10) :: xs)] = [D.i a'.fst, LN a'.snd] := by
          refine ⟨(-((m / 10 : Nat) : Int), (48 + m % 10) :: xs), ⟨?_, by simp only; omega, by simp only; omega⟩, by simp only; omega, rfl⟩
          simp only
          rw [Int.natAbs_neg, Int.natAbs_natCast, ← hxs, hst, List.append_assoc]
          rfl
        by_cases hr : (0 : Int) < ((m % 10 : Nat) : Int)
        · have hr1 : -((m % 10 : Nat) : Int) < 0 := by omega
          have hr2 : (0 : Int) - -((m % 10 : Nat) : Int) = ((m % 10 : Nat) : Int) := by omega
          (repeat (first | simp (disch := omega) only [wrap64, wrapU32, wrapU64, wrapU8] | simp only [Ja,Jb,Jc,Jd,Je,Jf,Jg,Jh,Ji,Jj,Jk,Jl,Jm,Jn,Jo,Jp,Jq,Jr,Js,Jt,Ju,Jv,Jw,envA,lensOf,Jx,Jy,Jz,JA,JB,JC,JD,JE,JF,JG,JH,JI,JJ,JK,JL,JM,JN,JO,JP,JQ,JR,JS,JT,JU,JV,JW,↓reduceIte,if_true,reduceCtorEq,Nat.reduceEqDiff,JX,JY,JZ,J0,J1,J2,J3,J4,J5,J6,J7,Ya,Yb,Yc,Yd,Ye,Yf,Int.cast_ofNat_Int,Yg,Yh,Int.reduceLT,Int.reduceLE,Int.reduceEq,Int.reduceAdd,Int.reduceMul,Int.reduceSub,Int.reduceNeg,Yi,Yj,Yk,Yl,Ym,Yn,Yo,Yp,Yq,Yr,Ys,Yt,Yu,Yv,Yw,Yx,Yy,Yz,YA,YB,YC,YD,YE,YF,YG,YH,YI,YJ,YK,YL,YM,YN,YO,YP,YQ,YR,YS,YT, hv, hz, hm1, hm2, hr1, hr2]))
          rw [hc]
          (repeat (first | simp (disch := omega) only [wrap64, wrapU32, wrapU64, wrapU8] | simp only [Ja,Jb,Jc,Jd,Je,Jf,Jg,Jh,Ji,Jj,Jk,Jl,Jm,Jn,Jo,Jp,Jq,Jr,Js,Jt,Ju,Jv,Jw,envA,lensOf,Jx,Jy,Jz,JA,JB,JC,JD,JE,JF,JG,JH,JI,JJ,JK,JL,JM,JN,JO,JP,JQ,JR,JS,JT,JU,JV,JW,↓reduceIte,if_true,reduceCtorEq,Nat.reduceEqDiff,JX,JY,JZ,J0,J1,J2,J3,J4,J5,J6,J7,Ya,Yb,Yc,Yd,Ye,Yf,Int.cast_ofNat_Int,Yg,Yh,Int.reduceLT,Int.reduceLE,Int.reduceEq,Int.reduceAdd,Int.reduceMul,Int.reduceSub,Int.reduceNeg,Yi,Yj,Yk,Yl,Ym,Yn,Yo,Yp,Yq,Yr,Ys,Yt,Yu,Yv,Yw,Yx,Yy,Yz,YA,YB,YC,YD,YE,YF,YG,YH,YI,YJ,YK,YL,YM,YN,YO,YP,YQ,YR,YS,YT, hm2, hz]))
          exact hfin
        · have hr1 : ¬ -((m % 10 : Nat) : Int) < 0 := by omega
          have hr2 : -((m % 10 : Nat) : Int) = ((m % 10 : Nat) : Int) := by omega
          (repeat (first | simp (disch := omega) only [wrap64, wrapU32, wrapU64, wrapU8] | simp only [Ja,Jb,Jc,Jd,Je,Jf,Jg,Jh,Ji,Jj,Jk,Jl,Jm,Jn,Jo,Jp,Jq,Jr,Js,Jt,Ju,Jv,Jw,envA,lensOf,Jx,Jy,Jz,JA,JB,JC,JD,JE,JF,JG,JH,JI,JJ,JK,JL,JM,JN,JO,JP,JQ,JR,JS,JT,JU,JV,JW,↓reduceIte,if_true,reduceCtorEq,Nat.reduceEqDiff,JX,JY,JZ,J0,J1,J2,J3,J4,J5,J6,J7,Ya,Yb,Yc,Yd,Ye,Yf,Int.cast_ofNat_Int,Yg,Yh,Int.reduceLT,Int.reduceLE,Int.reduceEq,Int.reduceAdd,Int.reduceMul,Int.reduceSub,Int.reduceNeg,Yi,Yj,Yk,Yl,Ym,Yn,Yo,Yp,Yq,Yr,Ys,Yt,Yu,Yv,Yw,Yx,Yy,Yz,YA,YB,YC,YD,YE,YF,YG,YH,YI,YJ,YK,YL,YM,YN,YO,YP,YQ,YR,YS,YT, hv, hz, hm1, hm2, hr1]))
          rw [hr2, hc]
          (repeat (first | simp (disch := omega) only [wrap64, wrapU32, wrapU64, wrapU8] | simp only [Ja,Jb,Jc,Jd,Je,Jf,Jg,Jh,Ji,Jj,Jk,Jl,Jm,Jn,Jo,Jp,Jq,Jr,Js,Jt,Ju,Jv,Jw,envA,lensOf,Jx,Jy,Jz,JA,JB,JC,JD,JE,JF,JG,JH,JI,JJ,JK,JL,JM,JN,JO,JP,JQ,JR,JS,JT,JU,JV,JW,↓reduceIte,if_true,reduceCtorEq,Nat.reduceEqDiff,JX,JY,JZ,J0,J1,J2,J3,J4,J5,J6,J7,Ya,Yb,Yc,Yd,Ye,Yf,Int.cast_ofNat_Int,Yg,Yh,Int.reduceLT,Int.reduceLE,Int.reduceEq,Int.reduceAdd,Int.reduceMul,Int.reduceSub,Int.reduceNeg,Yi,Yj,Yk,Yl,Ym,Yn,Yo,Yp,Yq,Yr,Ys,Yt,Yu,Yv,Yw,Yx,Yy,Yz,YA,YB,YC,YD,YE,YF,YG,YH,YI,YJ,YK,YL,YM,YN,YO,YP,YQ,YR,YS,YT, hm2, hz]))
          exact hfin
      · obtain ⟨m, rfl⟩ : ∃ m : Nat, v = m := ⟨v.toNat, by omega⟩
        rw [Int.natAbs_natCast] at hst hxs hlen
        have hm1 : (m : Int).tmod 10 = ((m % 10 : Nat) : Int) := rfl
        have hm2 : (m : Int).tdiv 10 = ((m / 10 : Nat) : Int) := rfl
        have hc := capp (d := 48 + m % 10) (xs := xs) (by omega)
        rw [show ((48 + m % 10 : Nat) : Int) = 48 + ((m % 10 : Nat) : Int) by omega] at hc
        have hfin : ∃ a' : Int × List Nat, (dd a'.fst.natAbs ++ a'.snd = dd n.natAbs ∧ -9223372036854775808 ≤ a'.fst ∧ a'.fst ≤ 9223372036854775807) ∧ a'.fst.natAbs < (m : Int).natAbs ∧ [D.i ((m / 10 : Nat) : Int), LN ((48 + m % 10) :: xs)] = [D.i a'.fst, LN a'.snd] := by
          refine ⟨(((m / 10 : Nat) : Int), (48 + m % 10) :: xs), ⟨?_, by simp only; omega, by simp only; omega⟩, by simp only; omega, rfl⟩
          simp only
          rw [Int.natAbs_natCast, ← hxs, hst, List.append_assoc]
          rfl
        (repeat (first | simp (disch := omega) only [wrap64, wrapU32, wrapU64, wrapU8] | simp only [Ja,Jb,Jc,Jd,Je,Jf,Jg,Jh,Ji,Jj,Jk,Jl,Jm,Jn,Jo,Jp,Jq,Jr,Js,Jt,Ju,Jv,Jw,envA,lensOf,Jx,Jy,Jz,JA,JB,JC,JD,JE,JF,JG,JH,JI,JJ,JK,JL,JM,JN,JO,JP,JQ,JR,JS,JT,JU,JV,JW,↓reduceIte,if_true,reduceCtorEq,Nat.reduceEqDiff,JX,JY,JZ,J0,J1,J2,J3,J4,J5,J6,J7,Ya,Yb,Yc,Yd,Ye,Yf,Int.cast_ofNat_Int,Yg,Yh,Int.reduceLT,Int.reduceLE,Int.reduceEq,Int.reduceAdd,Int.reduceMul,Int.reduceSub,Int.reduceNeg,Yi,Yj,Yk,Yl,Ym,Yn,Yo,Yp,Yq,Yr,Ys,Yt,Yu,Yv,Yw,Yx,Yy,Yz,YA,YB,YC,YD,YE,YF,YG,YH,YI,YJ,YK,YL,YM,YN,YO,YP,YQ,YR,YS,YT, hv, hz, hm1, hm2]))
        rw [hc]
        (repeat (first | simp (disch := omega) only [wrap64, wrapU32, wrapU64, wrapU8] | simp only [Ja,Jb,Jc,Jd,Je,Jf,Jg,Jh,Ji,Jj,Jk,Jl,Jm,Jn,Jo,Jp,Jq,Jr,Js,Jt,Ju,Jv,Jw,envA,lensOf,Jx,Jy,Jz,JA,JB,JC,JD,JE,JF,JG,JH,JI,JJ,JK,JL,JM,JN,JO,JP,JQ,JR,JS,JT,JU,JV,JW,↓reduceIte,if_true,reduceCtorEq,Nat.reduceEqDiff,JX,JY,JZ,J0,J1,J2,J3,J4,J5,J6,J7,Ya,Yb,Yc,Yd,Ye,Yf,Int.cast_ofNat_Int,Yg,Yh,Int.reduceLT,Int.reduceLE,Int.reduceEq,Int.reduceAdd,Int.reduceMul,Int.reduceSub,Int.reduceNeg,Yi,Yj,Yk,Yl,Ym,Yn,Yo,Yp,Yq,Yr,Ys,Yt,Yu,Yv,Yw,Yx,Yy,Yz,YA,YB,YC,YD,YE,YF,YG,YH,YI,YJ,YK,YL,YM,YN,YO,YP,YQ,YR,YS,YT, hm2, hz]))
        exact hfin
end Go.Proofs.YtdjfhggmcigahaaDoor.EBack

/- Numbers as bytes, as the reference makes them. -/
set_option linter.unusedVariables false
set_option linter.unusedSimpArgs false
namespace Go.Proofs.YtdjfhggmcigahaaDoor.EBack
open Go.BH
set_option maxRecDepth 100000
/-- The bytes of a number. -/
def nb (n : Nat) : List Nat := if n < 128 then [n] else if n < 16384 then [128 + n % 128, n / 128] else [128 + n % 128, 128 + n / 128 % 128, n / 16384]
theorem nb_lt {n : Nat} (h : n ≤ 65535) : ∀ x ∈ nb n, x < 256 := by
  intro x hx
  unfold nb at hx
  split at hx
  · simp at hx; omega
  · split at hx
    · simp at hx; omega
    · simp at hx; omega
end Go.Proofs.YtdjfhggmcigahaaDoor.EBack

/- within. -/
set_option linter.unusedVariables false
set_option linter.unusedSimpArgs false
namespace Go.Proofs.YtdjfhggmcigahaaDoor.EBack
open Go.BH
set_option maxRecDepth 100000
theorem f11 (x a b : Int) : EvF fes 11 [.i x, .i a, .i b] [.b (decide (a ≤ x) && decide (x ≤ b))] := by
  refine EvF.w (fe := e11) (t := t11) rfl rfl ?_
  simp only [Ja,Jb,Jc,Jd,Je,Jf,Jg,Jh,Ji,Jj,Jk,Jl,Jm,Jn,Jo,Jp,Jq,Jr,Js,Jt,Ju,Jv,Jw,envA,lensOf,Jx,Jy,Jz,JA,JB,JC,JD,JE,JF,JG,JH,JI,JJ,JK,JL,JM,JN,JO,JP,JQ,JR,JS,JT,JU,JV,JW,↓reduceIte,if_true,reduceCtorEq,Nat.reduceEqDiff,JX,JY,JZ,J0,J1,J2,J3,J4,J5,J6,J7,Ya,Yb,Yc,Yd,Ye,Yf,Int.cast_ofNat_Int,Yg,Yh,Int.reduceLT,Int.reduceLE,Int.reduceEq,Int.reduceAdd,Int.reduceMul,Int.reduceSub,Int.reduceNeg,Yi,Yj,Yk,Yl,Ym,Yn,Yo,Yp,Yq,Yr,Ys,Yt,Yu,Yv,Yw,Yx,Yy,Yz,YA,YB,YC,YD,YE,YF,YG,YH,YI,YJ,YK,YL,YM,YN,YO,YP,YQ,YR,YS,YT, t11, e11, l_dec]
  by_cases h : a ≤ x <;> simp [h]
end Go.Proofs.YtdjfhggmcigahaaDoor.EBack

/- Events: when they are valid, and their bytes: what both sides reckon. -/
set_option linter.unusedVariables false
set_option linter.unusedSimpArgs false
namespace Go.Proofs.YtdjfhggmcigahaaDoor.EBack
open Go.BH
set_option maxRecDepth 100000
def inTake (v : Int) : Bool := decide (0 ≤ v) && decide (v ≤ 256)
def inGive (v : Int) : Bool := decide (-1 ≤ v) && decide (v ≤ 4095)
/-- A request is valid. -/
def reqOk (k : Int) (vs : List Int) : Bool := decide (vs.length = 8) && (if k = 1 then vs.all inTake else if k = 2 then vs.all inGive else false)
theorem f5 (k : Int) (vs : List Int) (hl : vs.length < 9223372036854775808) : EvF fes 5 [.i k, LI vs] [.b (reqOk k vs)] := by
  refine EvF.w (fe := e5) (t := t5) rfl rfl ?_
  unfold reqOk
  by_cases h8 : vs.length = 8
  rotate_left
  · have h8' : ¬ (vs.length : Int) = 8 := by omega
    simp only [Ja,Jb,Jc,Jd,Je,Jf,Jg,Jh,Ji,Jj,Jk,Jl,Jm,Jn,Jo,Jp,Jq,Jr,Js,Jt,Ju,Jv,Jw,envA,lensOf,Jx,Jy,Jz,JA,JB,JC,JD,JE,JF,JG,JH,JI,JJ,JK,JL,JM,JN,JO,JP,JQ,JR,JS,JT,JU,JV,JW,↓reduceIte,if_true,reduceCtorEq,Nat.reduceEqDiff,JX,JY,JZ,J0,J1,J2,J3,J4,J5,J6,J7,Ya,Yb,Yc,Yd,Ye,Yf,Int.cast_ofNat_Int,Yg,Yh,Int.reduceLT,Int.reduceLE,Int.reduceEq,Int.reduceAdd,Int.reduceMul,Int.reduceSub,Int.reduceNeg,Yi,Yj,Yk,Yl,Ym,Yn,Yo,Yp,Yq,Yr,Ys,Yt,Yu,Yv,Yw,Yx,Yy,Yz,YA,YB,YC,YD,YE,YF,YG,YH,YI,YJ,YK,YL,YM,YN,YO,YP,YQ,YR,YS,YT, t5, e5, h8', h8]
  have h8' : (vs.length : Int) = 8 := by omega
  rw [decide_eq_true h8]
  by_cases k1 : k = 1
  · subst k1
    simp only [Ja,Jb,Jc,Jd,Je,Jf,Jg,Jh,Ji,Jj,Jk,Jl,Jm,Jn,Jo,Jp,Jq,Jr,Js,Jt,Ju,Jv,Jw,envA,lensOf,Jx,Jy,Jz,JA,JB,JC,JD,JE,JF,JG,JH,JI,JJ,JK,JL,JM,JN,JO,JP,JQ,JR,JS,JT,JU,JV,JW,↓reduceIte,if_true,reduceCtorEq,Nat.reduceEqDiff,JX,JY,JZ,J0,J1,J2,J3,J4,J5,J6,J7,Ya,Yb,Yc,Yd,Ye,Yf,Int.cast_ofNat_Int,Yg,Yh,Int.reduceLT,Int.reduceLE,Int.reduceEq,Int.reduceAdd,Int.reduceMul,Int.reduceSub,Int.reduceNeg,Yi,Yj,Yk,Yl,Ym,Yn,Yo,Yp,Yq,Yr,Ys,Yt,Yu,Yv,Yw,Yx,Yy,Yz,YA,YB,YC,YD,YE,YF,YG,YH,YI,YJ,YK,YL,YM,YN,YO,YP,YQ,YR,YS,YT, t5, e5, h8']
    have hle := good_le (q := inTake) (xs := vs)
    refine LW.cnt (good inTake vs) (fun j => [.i j]) (fun j hj => ?_) ?_ (by simp)
    · have hlj : j < vs.length := by omega
      have h2 : (j : Int) < 8 := by omega
      have hq := good_lt hj hlj
      have a1 : ¬ vs[j] < 0 := by unfold inTake at hq; simp at hq; omega
      have a2 : ¬ 256 < vs[j] := by unfold inTake at hq; simp at hq; omega
      (repeat (first | simp (disch := omega) only [wrap64, wrapU32, wrapU64, wrapU8] | simp only [Ja,Jb,Jc,Jd,Je,Jf,Jg,Jh,Ji,Jj,Jk,Jl,Jm,Jn,Jo,Jp,Jq,Jr,Js,Jt,Ju,Jv,Jw,envA,lensOf,Jx,Jy,Jz,JA,JB,JC,JD,JE,JF,JG,JH,JI,JJ,JK,JL,JM,JN,JO,JP,JQ,JR,JS,JT,JU,JV,JW,↓reduceIte,if_true,reduceCtorEq,Nat.reduceEqDiff,JX,JY,JZ,J0,J1,J2,J3,J4,J5,J6,J7,Ya,Yb,Yc,Yd,Ye,Yf,Int.cast_ofNat_Int,Yg,Yh,Int.reduceLT,Int.reduceLE,Int.reduceEq,Int.reduceAdd,Int.reduceMul,Int.reduceSub,Int.reduceNeg,Yi,Yj,Yk,Yl,Ym,Yn,Yo,Yp,Yq,Yr,Ys,Yt,Yu,Yv,Yw,Yx,Yy,Yz,YA,YB,YC,YD,YE,YF,YG,YH,YI,YJ,YK,YL,YM,YN,YO,YP,YQ,YR,YS,YT, h8', h2, get_LI hlj, a1, a2]))
      rfl
    · rw [good_all]
      by_cases hg : good inTake vs = vs.length
      · have h2 : ¬ ((good inTake vs : Nat) : Int) < 8 := by omega
        (repeat (first | simp (disch := omega) only [wrap64, wrapU32, wrapU64, wrapU8] | simp only [Ja,Jb,Jc,Jd,Je,Jf,Jg,Jh,Ji,Jj,Jk,Jl,Jm,Jn,Jo,Jp,Jq,Jr,Js,Jt,Ju,Jv,Jw,envA,lensOf,Jx,Jy,Jz,JA,JB,JC,JD,JE,JF,JG,JH,JI,JJ,JK,JL,JM,JN,JO,JP,JQ,JR,JS,JT,JU,JV,JW,↓reduceIte,if_true,reduceCtorEq,Nat.reduceEqDiff,JX,JY,JZ,J0,J1,J2,J3,J4,J5,J6,J7,Ya,Yb,Yc,Yd,Ye,Yf,Int.cast_ofNat_Int,Yg,Yh,Int.reduceLT,Int.reduceLE,Int.reduceEq,Int.reduceAdd,Int.reduceMul,Int.reduceSub,Int.reduceNeg,Yi,Yj,Yk,Yl,Ym,Yn,Yo,Yp,Yq,Yr,Ys,Yt,Yu,Yv,Yw,Yx,Yy,Yz,YA,YB,YC,YD,YE,YF,YG,YH,YI,YJ,YK,YL,YM,YN,YO,YP,YQ,YR,YS,YT, h8', h2, hg]))
      · have hlj : good inTake vs < vs.length := by omega
        have h2 : ((good inTake vs : Nat) : Int) < 8 := by omega
        have hq := good_at hlj
        (repeat (first | simp (disch := omega) only [wrap64, wrapU32, wrapU64, wrapU8] | simp only [Ja,Jb,Jc,Jd,Je,Jf,Jg,Jh,Ji,Jj,Jk,Jl,Jm,Jn,Jo,Jp,Jq,Jr,Js,Jt,Ju,Jv,Jw,envA,lensOf,Jx,Jy,Jz,JA,JB,JC,JD,JE,JF,JG,JH,JI,JJ,JK,JL,JM,JN,JO,JP,JQ,JR,JS,JT,JU,JV,JW,↓reduceIte,if_true,reduceCtorEq,Nat.reduceEqDiff,JX,JY,JZ,J0,J1,J2,J3,J4,J5,J6,J7,Ya,Yb,Yc,Yd,Ye,Yf,Int.cast_ofNat_Int,Yg,Yh,Int.reduceLT,Int.reduceLE,Int.reduceEq,Int.reduceAdd,Int.reduceMul,Int.reduceSub,Int.reduceNeg,Yi,Yj,Yk,Yl,Ym,Yn,Yo,Yp,Yq,Yr,Ys,Yt,Yu,Yv,Yw,Yx,Yy,Yz,YA,YB,YC,YD,YE,YF,YG,YH,YI,YJ,YK,YL,YM,YN,YO,YP,YQ,YR,YS,YT, h8', h2, get_LI hlj, hg]))
        by_cases a1 : vs[good inTake vs] < 0
        · (repeat (first | simp (disch := omega) only [wrap64, wrapU32, wrapU64, wrapU8] | simp only [Ja,Jb,Jc,Jd,Je,Jf,Jg,Jh,Ji,Jj,Jk,Jl,Jm,Jn,Jo,Jp,Jq,Jr,Js,Jt,Ju,Jv,Jw,envA,lensOf,Jx,Jy,Jz,JA,JB,JC,JD,JE,JF,JG,JH,JI,JJ,JK,JL,JM,JN,JO,JP,JQ,JR,JS,JT,JU,JV,JW,↓reduceIte,if_true,reduceCtorEq,Nat.reduceEqDiff,JX,JY,JZ,J0,J1,J2,J3,J4,J5,J6,J7,Ya,Yb,Yc,Yd,Ye,Yf,Int.cast_ofNat_Int,Yg,Yh,Int.reduceLT,Int.reduceLE,Int.reduceEq,Int.reduceAdd,Int.reduceMul,Int.reduceSub,Int.reduceNeg,Yi,Yj,Yk,Yl,Ym,Yn,Yo,Yp,Yq,Yr,Ys,Yt,Yu,Yv,Yw,Yx,Yy,Yz,YA,YB,YC,YD,YE,YF,YG,YH,YI,YJ,YK,YL,YM,YN,YO,YP,YQ,YR,YS,YT, a1]))
        · have a2 : 256 < vs[good inTake vs] := by
            generalize vs[good inTake vs] = v at hq a1
            unfold inTake at hq
            simp at hq
            omega
          (repeat (first | simp (disch := omega) only [wrap64, wrapU32, wrapU64, wrapU8] | simp only [Ja,Jb,Jc,Jd,Je,Jf,Jg,Jh,Ji,Jj,Jk,Jl,Jm,Jn,Jo,Jp,Jq,Jr,Js,Jt,Ju,Jv,Jw,envA,lensOf,Jx,Jy,Jz,JA,JB,JC,JD,JE,JF,JG,JH,JI,JJ,JK,JL,JM,JN,JO,JP,JQ,JR,JS,JT,JU,JV,JW,↓reduceIte,if_true,reduceCtorEq,Nat.reduceEqDiff,JX,JY,JZ,J0,J1,J2,J3,J4,J5,J6,J7,Ya,Yb,Yc,Yd,Ye,Yf,Int.cast_ofNat_Int,Yg,Yh,Int.reduceLT,Int.reduceLE,Int.reduceEq,Int.reduceAdd,Int.reduceMul,Int.reduceSub,Int.reduceNeg,Yi,Yj,Yk,Yl,Ym,Yn,Yo,Yp,Yq,Yr,Ys,Yt,Yu,Yv,Yw,Yx,Yy,Yz,YA,YB,YC,YD,YE,YF,YG,YH,YI,YJ,YK,YL,YM,YN,YO,YP,YQ,YR,YS,YT, a1, a2]))
  by_cases k2 : k = 2
  · subst k2
    simp only [Ja,Jb,Jc,Jd,Je,Jf,Jg,Jh,Ji,Jj,Jk,Jl,Jm,Jn,Jo,Jp,Jq,Jr,Js,Jt,Ju,Jv,Jw,envA,lensOf,Jx,Jy,Jz,JA,JB,JC,JD,JE,JF,JG,JH,JI,JJ,JK,JL,JM,JN,JO,JP,JQ,JR,JS,JT,JU,JV,JW,↓reduceIte,if_true,reduceCtorEq,Nat.reduceEqDiff,JX,JY,JZ,J0,J1,J2,J3,J4,J5,J6,J7,Ya,Yb,Yc,Yd,Ye,Yf,Int.cast_ofNat_Int,Yg,Yh,Int.reduceLT,Int.reduceLE,Int.reduceEq,Int.reduceAdd,Int.reduceMul,Int.reduceSub,Int.reduceNeg,Yi,Yj,Yk,Yl,Ym,Yn,Yo,Yp,Yq,Yr,Ys,Yt,Yu,Yv,Yw,Yx,Yy,Yz,YA,YB,YC,YD,YE,YF,YG,YH,YI,YJ,YK,YL,YM,YN,YO,YP,YQ,YR,YS,YT, t5, e5, h8']
    have hle := good_le (q := inGive) (xs := vs)
    refine LW.cnt (good inGive vs) (fun j => [.i j]) (fun j hj => ?_) ?_ (by simp)
    · have hlj : j < vs.length := by omega
      have h2 : (j : Int) < 8 := by omega
      have hq := good_lt hj hlj
      have a1 : ¬ vs[j] < -1 := by unfold inGive at hq; simp at hq; omega
      have a2 : ¬ 4095 < vs[j] := by unfold inGive at hq; simp at hq; omega
      (repeat (first | simp (disch := omega) only [wrap64, wrapU32, wrapU64, wrapU8] | simp only [Ja,Jb,Jc,Jd,Je,Jf,Jg,Jh,Ji,Jj,Jk,Jl,Jm,Jn,Jo,Jp,Jq,Jr,Js,Jt,Ju,Jv,Jw,envA,lensOf,Jx,Jy,Jz,JA,JB,JC,JD,JE,JF,JG,JH,JI,JJ,JK,JL,JM,JN,JO,JP,JQ,JR,JS,JT,JU,JV,JW,↓reduceIte,if_true,reduceCtorEq,Nat.reduceEqDiff,JX,JY,JZ,J0,J1,J2,J3,J4,J5,J6,J7,Ya,Yb,Yc,Yd,Ye,Yf,Int.cast_ofNat_Int,Yg,Yh,Int.reduceLT,Int.reduceLE,Int.reduceEq,Int.reduceAdd,Int.reduceMul,Int.reduceSub,Int.reduceNeg,Yi,Yj,Yk,Yl,Ym,Yn,Yo,Yp,Yq,Yr,Ys,Yt,Yu,Yv,Yw,Yx,Yy,Yz,YA,YB,YC,YD,YE,YF,YG,YH,YI,YJ,YK,YL,YM,YN,YO,YP,YQ,YR,YS,YT, h8', h2, get_LI hlj, a1, a2]))
      rfl
    · rw [good_all]
      by_cases hg : good inGive vs = vs.length
      · have h2 : ¬ ((good inGive vs : Nat) : Int) < 8 := by omega
        (repeat (first | simp (disch := omega) only [wrap64, wrapU32, wrapU64, wrapU8] | simp only [Ja,Jb,Jc,Jd,Je,Jf,Jg,Jh,Ji,Jj,Jk,Jl,Jm,Jn,Jo,Jp,Jq,Jr,Js,Jt,Ju,Jv,Jw,envA,lensOf,Jx,Jy,Jz,JA,JB,JC,JD,JE,JF,JG,JH,JI,JJ,JK,JL,JM,JN,JO,JP,JQ,JR,JS,JT,JU,JV,JW,↓reduceIte,if_true,reduceCtorEq,Nat.reduceEqDiff,JX,JY,JZ,J0,J1,J2,J3,J4,J5,J6,J7,Ya,Yb,Yc,Yd,Ye,Yf,Int.cast_ofNat_Int,Yg,Yh,Int.reduceLT,Int.reduceLE,Int.reduceEq,Int.reduceAdd,Int.reduceMul,Int.reduceSub,Int.reduceNeg,Yi,Yj,Yk,Yl,Ym,Yn,Yo,Yp,Yq,Yr,Ys,Yt,Yu,Yv,Yw,Yx,Yy,Yz,YA,YB,YC,YD,YE,YF,YG,YH,YI,YJ,YK,YL,YM,YN,YO,YP,YQ,YR,YS,YT, h8', h2, hg]))
      · have hlj : good inGive vs < vs.length := by omega
        have h2 : ((good inGive vs : Nat) : Int) < 8 := by omega
        have hq := good_at hlj
        (repeat (first | simp (disch := omega) only [wrap64, wrapU32, wrapU64, wrapU8] | simp only [Ja,Jb,Jc,Jd,Je,Jf,Jg,Jh,Ji,Jj,Jk,Jl,Jm,Jn,Jo,Jp,Jq,Jr,Js,Jt,Ju,Jv,Jw,envA,lensOf,Jx,Jy,Jz,JA,JB,JC,JD,JE,JF,JG,JH,JI,JJ,JK,JL,JM,JN,JO,JP,JQ,JR,JS,JT,JU,JV,JW,↓reduceIte,if_true,reduceCtorEq,Nat.reduceEqDiff,JX,JY,JZ,J0,J1,J2,J3,J4,J5,J6,J7,Ya,Yb,Yc,Yd,Ye,Yf,Int.cast_ofNat_Int,Yg,Yh,Int.reduceLT,Int.reduceLE,Int.reduceEq,Int.reduceAdd,Int.reduceMul,Int.reduceSub,Int.reduceNeg,Yi,Yj,Yk,Yl,Ym,Yn,Yo,Yp,Yq,Yr,Ys,Yt,Yu,Yv,Yw,Yx,Yy,Yz,YA,YB,YC,YD,YE,YF,YG,YH,YI,YJ,YK,YL,YM,YN,YO,YP,YQ,YR,YS,YT, h8', h2, get_LI hlj, hg]))
        by_cases a1 : vs[good inGive vs] < -1
        · (repeat (first | simp (disch := omega) only [wrap64, wrapU32, wrapU64, wrapU8] | simp only [Ja,Jb,Jc,Jd,Je,Jf,Jg,Jh,Ji,Jj,Jk,Jl,Jm,Jn,Jo,Jp,Jq,Jr,Js,Jt,Ju,Jv,Jw,envA,lensOf,Jx,Jy,Jz,JA,JB,JC,JD,JE,JF,JG,JH,JI,JJ,JK,JL,JM,JN,JO,JP,JQ,JR,JS,JT,JU,JV,JW,↓reduceIte,if_true,reduceCtorEq,Nat.reduceEqDiff,JX,JY,JZ,J0,J1,J2,J3,J4,J5,J6,J7,Ya,Yb,Yc,Yd,Ye,Yf,Int.cast_ofNat_Int,Yg,Yh,Int.reduceLT,Int.reduceLE,Int.reduceEq,Int.reduceAdd,Int.reduceMul,Int.reduceSub,Int.reduceNeg,Yi,Yj,Yk,Yl,Ym,Yn,Yo,Yp,Yq,Yr,Ys,Yt,Yu,Yv,Yw,Yx,Yy,Yz,YA,YB,YC,YD,YE,YF,YG,YH,YI,YJ,YK,YL,YM,YN,YO,YP,YQ,YR,YS,YT, a1]))
        · have a2 : 4095 < vs[good inGive vs] := by
            generalize vs[good inGive vs] = v at hq a1
            unfold inGive at hq
            simp at hq
            omega
          (repeat (first | simp (disch := omega) only [wrap64, wrapU32, wrapU64, wrapU8] | simp only [Ja,Jb,Jc,Jd,Je,Jf,Jg,Jh,Ji,Jj,Jk,Jl,Jm,Jn,Jo,Jp,Jq,Jr,Js,Jt,Ju,Jv,Jw,envA,lensOf,Jx,Jy,Jz,JA,JB,JC,JD,JE,JF,JG,JH,JI,JJ,JK,JL,JM,JN,JO,JP,JQ,JR,JS,JT,JU,JV,JW,↓reduceIte,if_true,reduceCtorEq,Nat.reduceEqDiff,JX,JY,JZ,J0,J1,J2,J3,J4,J5,J6,J7,Ya,Yb,Yc,Yd,Ye,Yf,Int.cast_ofNat_Int,Yg,Yh,Int.reduceLT,Int.reduceLE,Int.reduceEq,Int.reduceAdd,Int.reduceMul,Int.reduceSub,Int.reduceNeg,Yi,Yj,Yk,Yl,Ym,Yn,Yo,Yp,Yq,Yr,Ys,Yt,Yu,Yv,Yw,Yx,Yy,Yz,YA,YB,YC,YD,YE,YF,YG,YH,YI,YJ,YK,YL,YM,YN,YO,YP,YQ,YR,YS,YT, a1, a2]))
  · simp only [Ja,Jb,Jc,Jd,Je,Jf,Jg,Jh,Ji,Jj,Jk,Jl,Jm,Jn,Jo,Jp,Jq,Jr,Js,Jt,Ju,Jv,Jw,envA,lensOf,Jx,Jy,Jz,JA,JB,JC,JD,JE,JF,JG,JH,JI,JJ,JK,JL,JM,JN,JO,JP,JQ,JR,JS,JT,JU,JV,JW,↓reduceIte,if_true,reduceCtorEq,Nat.reduceEqDiff,JX,JY,JZ,J0,J1,J2,J3,J4,J5,J6,J7,Ya,Yb,Yc,Yd,Ye,Yf,Int.cast_ofNat_Int,Yg,Yh,Int.reduceLT,Int.reduceLE,Int.reduceEq,Int.reduceAdd,Int.reduceMul,Int.reduceSub,Int.reduceNeg,Yi,Yj,Yk,Yl,Ym,Yn,Yo,Yp,Yq,Yr,Ys,Yt,Yu,Yv,Yw,Yx,Yy,Yz,YA,YB,YC,YD,YE,YF,YG,YH,YI,YJ,YK,YL,YM,YN,YO,YP,YQ,YR,YS,YT, t5, e5, h8', k1, k2]
theorem f12 (z : Int) : EvF fes 12 [.i z] [.b (!inTake z)] := by
  refine EvF.w (fe := e12) (t := t12) rfl rfl ?_
  simp only [Ja,Jb,Jc,Jd,Je,Jf,Jg,Jh,Ji,Jj,Jk,Jl,Jm,Jn,Jo,Jp,Jq,Jr,Js,Jt,Ju,Jv,Jw,envA,lensOf,Jx,Jy,Jz,JA,JB,JC,JD,JE,JF,JG,JH,JI,JJ,JK,JL,JM,JN,JO,JP,JQ,JR,JS,JT,JU,JV,JW,↓reduceIte,if_true,reduceCtorEq,Nat.reduceEqDiff,JX,JY,JZ,J0,J1,J2,J3,J4,J5,J6,J7,Ya,Yb,Yc,Yd,Ye,Yf,Int.cast_ofNat_Int,Yg,Yh,Int.reduceLT,Int.reduceLE,Int.reduceEq,Int.reduceAdd,Int.reduceMul,Int.reduceSub,Int.reduceNeg,Yi,Yj,Yk,Yl,Ym,Yn,Yo,Yp,Yq,Yr,Ys,Yt,Yu,Yv,Yw,Yx,Yy,Yz,YA,YB,YC,YD,YE,YF,YG,YH,YI,YJ,YK,YL,YM,YN,YO,YP,YQ,YR,YS,YT, t12, e12]
  refine WC.mk (f11 z 0 256) ?_
  simp only [Ja,Jb,Jc,Jd,Je,Jf,Jg,Jh,Ji,Jj,Jk,Jl,Jm,Jn,Jo,Jp,Jq,Jr,Js,Jt,Ju,Jv,Jw,envA,lensOf,Jx,Jy,Jz,JA,JB,JC,JD,JE,JF,JG,JH,JI,JJ,JK,JL,JM,JN,JO,JP,JQ,JR,JS,JT,JU,JV,JW,↓reduceIte,if_true,reduceCtorEq,Nat.reduceEqDiff,JX,JY,JZ,J0,J1,J2,J3,J4,J5,J6,J7,Ya,Yb,Yc,Yd,Ye,Yf,Int.cast_ofNat_Int,Yg,Yh,Int.reduceLT,Int.reduceLE,Int.reduceEq,Int.reduceAdd,Int.reduceMul,Int.reduceSub,Int.reduceNeg,Yi,Yj,Yk,Yl,Ym,Yn,Yo,Yp,Yq,Yr,Ys,Yt,Yu,Yv,Yw,Yx,Yy,Yz,YA,YB,YC,YD,YE,YF,YG,YH,YI,YJ,YK,YL,YM,YN,YO,YP,YQ,YR,YS,YT, inTake]
theorem f13 (z : Int) : EvF fes 13 [.i z] [.b (!inGive z)] := by
  refine EvF.w (fe := e13) (t := t13) rfl rfl ?_
  simp only [Ja,Jb,Jc,Jd,Je,Jf,Jg,Jh,Ji,Jj,Jk,Jl,Jm,Jn,Jo,Jp,Jq,Jr,Js,Jt,Ju,Jv,Jw,envA,lensOf,Jx,Jy,Jz,JA,JB,JC,JD,JE,JF,JG,JH,JI,JJ,JK,JL,JM,JN,JO,JP,JQ,JR,JS,JT,JU,JV,JW,↓reduceIte,if_true,reduceCtorEq,Nat.reduceEqDiff,JX,JY,JZ,J0,J1,J2,J3,J4,J5,J6,J7,Ya,Yb,Yc,Yd,Ye,Yf,Int.cast_ofNat_Int,Yg,Yh,Int.reduceLT,Int.reduceLE,Int.reduceEq,Int.reduceAdd,Int.reduceMul,Int.reduceSub,Int.reduceNeg,Yi,Yj,Yk,Yl,Ym,Yn,Yo,Yp,Yq,Yr,Ys,Yt,Yu,Yv,Yw,Yx,Yy,Yz,YA,YB,YC,YD,YE,YF,YG,YH,YI,YJ,YK,YL,YM,YN,YO,YP,YQ,YR,YS,YT, t13, e13]
  refine WC.mk (f11 z (-1) 4095) ?_
  simp only [Ja,Jb,Jc,Jd,Je,Jf,Jg,Jh,Ji,Jj,Jk,Jl,Jm,Jn,Jo,Jp,Jq,Jr,Js,Jt,Ju,Jv,Jw,envA,lensOf,Jx,Jy,Jz,JA,JB,JC,JD,JE,JF,JG,JH,JI,JJ,JK,JL,JM,JN,JO,JP,JQ,JR,JS,JT,JU,JV,JW,↓reduceIte,if_true,reduceCtorEq,Nat.reduceEqDiff,JX,JY,JZ,J0,J1,J2,J3,J4,J5,J6,J7,Ya,Yb,Yc,Yd,Ye,Yf,Int.cast_ofNat_Int,Yg,Yh,Int.reduceLT,Int.reduceLE,Int.reduceEq,Int.reduceAdd,Int.reduceMul,Int.reduceSub,Int.reduceNeg,Yi,Yj,Yk,Yl,Ym,Yn,Yo,Yp,Yq,Yr,Ys,Yt,Yu,Yv,Yw,Yx,Yy,Yz,YA,YB,YC,YD,YE,YF,YG,YH,YI,YJ,YK,YL,YM,YN,YO,YP,YQ,YR,YS,YT, inGive]
theorem f16 (vs : List Int) (hl : vs.length < 9223372036854775808) : EvF fes 16 [LI vs] [.b (vs.any fun z => !inTake z)] :=
  cont_ok (f := 14) rfl rfl rfl vs (idx_ok (f := 12) rfl rfl rfl vs hl (fun z _ => f12 z))
theorem f17 (vs : List Int) (hl : vs.length < 9223372036854775808) : EvF fes 17 [LI vs] [.b (vs.any fun z => !inGive z)] :=
  cont_ok (f := 15) rfl rfl rfl vs (idx_ok (f := 13) rfl rfl rfl vs hl (fun z _ => f13 z))
theorem any_not {q : Int → Bool} {vs : List Int} : (!(vs.any fun z => !q z)) = vs.all q := by
  induction vs with
  | nil => rfl
  | cons x r ih =>
    rw [List.any_cons, List.all_cons, ← ih]
    cases q x <;> simp
theorem f18 (k : Int) (vs : List Int) (hl : vs.length < 9223372036854775808) : EvF fes 18 [.i k, LI vs] [.b (reqOk k vs)] := by
  refine EvF.w (fe := e18) (t := t18) rfl rfl ?_
  unfold reqOk
  by_cases h8 : vs.length = 8
  rotate_left
  · have h8' : ¬ (vs.length : Int) = 8 := by omega
    simp only [Ja,Jb,Jc,Jd,Je,Jf,Jg,Jh,Ji,Jj,Jk,Jl,Jm,Jn,Jo,Jp,Jq,Jr,Js,Jt,Ju,Jv,Jw,envA,lensOf,Jx,Jy,Jz,JA,JB,JC,JD,JE,JF,JG,JH,JI,JJ,JK,JL,JM,JN,JO,JP,JQ,JR,JS,JT,JU,JV,JW,↓reduceIte,if_true,reduceCtorEq,Nat.reduceEqDiff,JX,JY,JZ,J0,J1,J2,J3,J4,J5,J6,J7,Ya,Yb,Yc,Yd,Ye,Yf,Int.cast_ofNat_Int,Yg,Yh,Int.reduceLT,Int.reduceLE,Int.reduceEq,Int.reduceAdd,Int.reduceMul,Int.reduceSub,Int.reduceNeg,Yi,Yj,Yk,Yl,Ym,Yn,Yo,Yp,Yq,Yr,Ys,Yt,Yu,Yv,Yw,Yx,Yy,Yz,YA,YB,YC,YD,YE,YF,YG,YH,YI,YJ,YK,YL,YM,YN,YO,YP,YQ,YR,YS,YT, t18, e18, h8', h8]
  have h8' : (vs.length : Int) = 8 := by omega
  rw [decide_eq_true h8]
  by_cases k1 : k = 1
  · subst k1
    simp only [Ja,Jb,Jc,Jd,Je,Jf,Jg,Jh,Ji,Jj,Jk,Jl,Jm,Jn,Jo,Jp,Jq,Jr,Js,Jt,Ju,Jv,Jw,envA,lensOf,Jx,Jy,Jz,JA,JB,JC,JD,JE,JF,JG,JH,JI,JJ,JK,JL,JM,JN,JO,JP,JQ,JR,JS,JT,JU,JV,JW,↓reduceIte,if_true,reduceCtorEq,Nat.reduceEqDiff,JX,JY,JZ,J0,J1,J2,J3,J4,J5,J6,J7,Ya,Yb,Yc,Yd,Ye,Yf,Int.cast_ofNat_Int,Yg,Yh,Int.reduceLT,Int.reduceLE,Int.reduceEq,Int.reduceAdd,Int.reduceMul,Int.reduceSub,Int.reduceNeg,Yi,Yj,Yk,Yl,Ym,Yn,Yo,Yp,Yq,Yr,Ys,Yt,Yu,Yv,Yw,Yx,Yy,Yz,YA,YB,YC,YD,YE,YF,YG,YH,YI,YJ,YK,YL,YM,YN,YO,YP,YQ,YR,YS,YT, t18, e18, h8']
    refine WC.mk (f16 vs hl) ?_
    simp only [Ja,Jb,Jc,Jd,Je,Jf,Jg,Jh,Ji,Jj,Jk,Jl,Jm,Jn,Jo,Jp,Jq,Jr,Js,Jt,Ju,Jv,Jw,envA,lensOf,Jx,Jy,Jz,JA,JB,JC,JD,JE,JF,JG,JH,JI,JJ,JK,JL,JM,JN,JO,JP,JQ,JR,JS,JT,JU,JV,JW,↓reduceIte,if_true,reduceCtorEq,Nat.reduceEqDiff,JX,JY,JZ,J0,J1,J2,J3,J4,J5,J6,J7,Ya,Yb,Yc,Yd,Ye,Yf,Int.cast_ofNat_Int,Yg,Yh,Int.reduceLT,Int.reduceLE,Int.reduceEq,Int.reduceAdd,Int.reduceMul,Int.reduceSub,Int.reduceNeg,Yi,Yj,Yk,Yl,Ym,Yn,Yo,Yp,Yq,Yr,Ys,Yt,Yu,Yv,Yw,Yx,Yy,Yz,YA,YB,YC,YD,YE,YF,YG,YH,YI,YJ,YK,YL,YM,YN,YO,YP,YQ,YR,YS,YT, any_not]
  by_cases k2 : k = 2
  · subst k2
    simp only [Ja,Jb,Jc,Jd,Je,Jf,Jg,Jh,Ji,Jj,Jk,Jl,Jm,Jn,Jo,Jp,Jq,Jr,Js,Jt,Ju,Jv,Jw,envA,lensOf,Jx,Jy,Jz,JA,JB,JC,JD,JE,JF,JG,JH,JI,JJ,JK,JL,JM,JN,JO,JP,JQ,JR,JS,JT,JU,JV,JW,↓reduceIte,if_true,reduceCtorEq,Nat.reduceEqDiff,JX,JY,JZ,J0,J1,J2,J3,J4,J5,J6,J7,Ya,Yb,Yc,Yd,Ye,Yf,Int.cast_ofNat_Int,Yg,Yh,Int.reduceLT,Int.reduceLE,Int.reduceEq,Int.reduceAdd,Int.reduceMul,Int.reduceSub,Int.reduceNeg,Yi,Yj,Yk,Yl,Ym,Yn,Yo,Yp,Yq,Yr,Ys,Yt,Yu,Yv,Yw,Yx,Yy,Yz,YA,YB,YC,YD,YE,YF,YG,YH,YI,YJ,YK,YL,YM,YN,YO,YP,YQ,YR,YS,YT, t18, e18, h8']
    refine WC.mk (f17 vs hl) ?_
    simp only [Ja,Jb,Jc,Jd,Je,Jf,Jg,Jh,Ji,Jj,Jk,Jl,Jm,Jn,Jo,Jp,Jq,Jr,Js,Jt,Ju,Jv,Jw,envA,lensOf,Jx,Jy,Jz,JA,JB,JC,JD,JE,JF,JG,JH,JI,JJ,JK,JL,JM,JN,JO,JP,JQ,JR,JS,JT,JU,JV,JW,↓reduceIte,if_true,reduceCtorEq,Nat.reduceEqDiff,JX,JY,JZ,J0,J1,J2,J3,J4,J5,J6,J7,Ya,Yb,Yc,Yd,Ye,Yf,Int.cast_ofNat_Int,Yg,Yh,Int.reduceLT,Int.reduceLE,Int.reduceEq,Int.reduceAdd,Int.reduceMul,Int.reduceSub,Int.reduceNeg,Yi,Yj,Yk,Yl,Ym,Yn,Yo,Yp,Yq,Yr,Ys,Yt,Yu,Yv,Yw,Yx,Yy,Yz,YA,YB,YC,YD,YE,YF,YG,YH,YI,YJ,YK,YL,YM,YN,YO,YP,YQ,YR,YS,YT, any_not]
  · simp only [Ja,Jb,Jc,Jd,Je,Jf,Jg,Jh,Ji,Jj,Jk,Jl,Jm,Jn,Jo,Jp,Jq,Jr,Js,Jt,Ju,Jv,Jw,envA,lensOf,Jx,Jy,Jz,JA,JB,JC,JD,JE,JF,JG,JH,JI,JJ,JK,JL,JM,JN,JO,JP,JQ,JR,JS,JT,JU,JV,JW,↓reduceIte,if_true,reduceCtorEq,Nat.reduceEqDiff,JX,JY,JZ,J0,J1,J2,J3,J4,J5,J6,J7,Ya,Yb,Yc,Yd,Ye,Yf,Int.cast_ofNat_Int,Yg,Yh,Int.reduceLT,Int.reduceLE,Int.reduceEq,Int.reduceAdd,Int.reduceMul,Int.reduceSub,Int.reduceNeg,Yi,Yj,Yk,Yl,Ym,Yn,Yo,Yp,Yq,Yr,Ys,Yt,Yu,Yv,Yw,Yx,Yy,Yz,YA,YB,YC,YD,YE,YF,YG,YH,YI,YJ,YK,YL,YM,YN,YO,YP,YQ,YR,YS,YT, t18, e18, h8', k1, k2]
/-- An event is valid. -/
def evOk (k w n rk : Int) (vs : List Int) : Bool :=
  if k = 1 then decide (0 ≤ w) && decide (w < 4) && decide (n = 0) && reqOk rk vs
  else if k = 2 then decide (0 ≤ w) && decide (w < 4) && decide (n = 0) && (decide (rk = 0) && decide (vs = []))
  else if k = 3 then decide (w = 0) && decide (1 ≤ n) && decide (n ≤ 16) && (decide (rk = 0) && decide (vs = []))
  else false
theorem len0 {vs : List Int} : ((vs.length : Int) = 0) = (vs = []) := by
  apply propext
  constructor
  · intro h
    exact List.eq_nil_of_length_eq_zero (by omega)
  · intro h
    subst h
    rfl
theorem f26 (k w n rk : Int) (vs : List Int) (hl : vs.length < 9223372036854775808) : EvF fes 26 [.i k, .i w, .i n, .i rk, LI vs] [.b (evOk k w n rk vs)] := by
  refine EvF.w (fe := e26) (t := t26) rfl rfl ?_
  simp only [Ja,Jb,Jc,Jd,Je,Jf,Jg,Jh,Ji,Jj,Jk,Jl,Jm,Jn,Jo,Jp,Jq,Jr,Js,Jt,Ju,Jv,Jw,envA,lensOf,Jx,Jy,Jz,JA,JB,JC,JD,JE,JF,JG,JH,JI,JJ,JK,JL,JM,JN,JO,JP,JQ,JR,JS,JT,JU,JV,JW,↓reduceIte,if_true,reduceCtorEq,Nat.reduceEqDiff,JX,JY,JZ,J0,J1,J2,J3,J4,J5,J6,J7,Ya,Yb,Yc,Yd,Ye,Yf,Int.cast_ofNat_Int,Yg,Yh,Int.reduceLT,Int.reduceLE,Int.reduceEq,Int.reduceAdd,Int.reduceMul,Int.reduceSub,Int.reduceNeg,Yi,Yj,Yk,Yl,Ym,Yn,Yo,Yp,Yq,Yr,Ys,Yt,Yu,Yv,Yw,Yx,Yy,Yz,YA,YB,YC,YD,YE,YF,YG,YH,YI,YJ,YK,YL,YM,YN,YO,YP,YQ,YR,YS,YT, t26, e26, len0, l_bool, decide_eq_true_eq, Bool.and_eq_true, WC.eq (f5 rk vs hl)]
  unfold evOk
  repeat' split
  all_goals simp_all
theorem f19 (k w n rk : Int) (vs : List Int) (hl : vs.length < 9223372036854775808) : EvF fes 19 [.i k, .i w, .i n, .i rk, LI vs] [.b (evOk k w n rk vs)] := by
  refine EvF.w (fe := e19) (t := t19) rfl rfl ?_
  simp only [Ja,Jb,Jc,Jd,Je,Jf,Jg,Jh,Ji,Jj,Jk,Jl,Jm,Jn,Jo,Jp,Jq,Jr,Js,Jt,Ju,Jv,Jw,envA,lensOf,Jx,Jy,Jz,JA,JB,JC,JD,JE,JF,JG,JH,JI,JJ,JK,JL,JM,JN,JO,JP,JQ,JR,JS,JT,JU,JV,JW,↓reduceIte,if_true,reduceCtorEq,Nat.reduceEqDiff,JX,JY,JZ,J0,J1,J2,J3,J4,J5,J6,J7,Ya,Yb,Yc,Yd,Ye,Yf,Int.cast_ofNat_Int,Yg,Yh,Int.reduceLT,Int.reduceLE,Int.reduceEq,Int.reduceAdd,Int.reduceMul,Int.reduceSub,Int.reduceNeg,Yi,Yj,Yk,Yl,Ym,Yn,Yo,Yp,Yq,Yr,Ys,Yt,Yu,Yv,Yw,Yx,Yy,Yz,YA,YB,YC,YD,YE,YF,YG,YH,YI,YJ,YK,YL,YM,YN,YO,YP,YQ,YR,YS,YT, t19, e19, len0, l_bool, decide_eq_true_eq, Bool.and_eq_true, WC.eq (f18 rk vs hl), WC.eq (f11 w 0 3), WC.eq (f11 n 1 16)]
  unfold evOk
  have e4 : (w ≤ 3) = (w < 4) := propext (by omega)
  simp only [e4]
  repeat' split
  all_goals simp_all
/-! ### bytes -/
theorem f20 (out : List Nat) (n : Nat) (h : n ≤ 65535) (ho : out.length < 1000000) : EvF fes 20 [LN out, .i n] [LN (out ++ nb n)] := by
  refine EvF.w (fe := e20) (t := t20) rfl rfl ?_
  have a127 : ∀ x : Nat, x ≤ 65535 → (Pr.bin .and .i64).eval [.i (x : Int), .i 127] = some (.i ((x % 128 : Nat) : Int)) := fun x hx => by
    have := band64 (x := x) (y := 127) (by omega) (by omega)
    rw [and127] at this
    exact this
  have o128 : ∀ x : Nat, x < 128 → (Pr.bin .or .i64).eval [.i (x : Int), .i 128] = some (.i ((128 + x : Nat) : Int)) := fun x hx => by
    have := bor64 (x := x) (y := 1 * 2 ^ 7) (by omega) (by omega)
    rw [or_shift (j := 7) hx, Nat.add_comm] at this
    exact this
  have r7 : ∀ x : Nat, (Pr.sh .shr .i64 .u64).eval [.i (x : Int), .i 7] = some (.i ((x / 128 : Nat) : Int)) := fun x => by
    rw [ev_shr, if_neg (by omega), show min (7 : Int).toNat IntKind.i64.bits = 7 from rfl]
    rw [Int.fdiv_eq_ediv_of_nonneg _ (by decide)]
    rfl
  rw [show envA e20.sig [LN out, .i (n : Int)] = [LN out, .i (n : Int), .i out.length] by simp [e20, envA, lensOf, LN]]
  simp only [Ja,Jb,Jc,Jd,Je,Jf,Jg,Jh,Ji,Jj,Jk,Jl,Jm,Jn,Jo,Jp,Jq,Jr,Js,Jt,Ju,Jv,Jw,envA,lensOf,Jx,Jy,Jz,JA,JB,JC,JD,JE,JF,JG,JH,JI,JJ,JK,JL,JM,JN,JO,JP,JQ,JR,JS,JT,JU,JV,JW,↓reduceIte,if_true,reduceCtorEq,Nat.reduceEqDiff,JX,JY,JZ,J0,J1,J2,J3,J4,J5,J6,J7,Ya,Yb,Yc,Yd,Ye,Yf,Int.cast_ofNat_Int,Yg,Yh,Int.reduceLT,Int.reduceLE,Int.reduceEq,Int.reduceAdd,Int.reduceMul,Int.reduceSub,Int.reduceNeg,Yi,Yj,Yk,Yl,Ym,Yn,Yo,Yp,Yq,Yr,Ys,Yt,Yu,Yv,Yw,Yx,Yy,Yz,YA,YB,YC,YD,YE,YF,YG,YH,YI,YJ,YK,YL,YM,YN,YO,YP,YQ,YR,YS,YT, t20]
  refine LW.rd ?_
  by_cases c1 : n < 128
  · have g1 : ¬ (127 : Int) < n := by omega
    (repeat (first | simp (disch := omega) only [wrap64, wrapU32, wrapU64, wrapU8] | simp only [Ja,Jb,Jc,Jd,Je,Jf,Jg,Jh,Ji,Jj,Jk,Jl,Jm,Jn,Jo,Jp,Jq,Jr,Js,Jt,Ju,Jv,Jw,envA,lensOf,Jx,Jy,Jz,JA,JB,JC,JD,JE,JF,JG,JH,JI,JJ,JK,JL,JM,JN,JO,JP,JQ,JR,JS,JT,JU,JV,JW,↓reduceIte,if_true,reduceCtorEq,Nat.reduceEqDiff,JX,JY,JZ,J0,J1,J2,J3,J4,J5,J6,J7,Ya,Yb,Yc,Yd,Ye,Yf,Int.cast_ofNat_Int,Yg,Yh,Int.reduceLT,Int.reduceLE,Int.reduceEq,Int.reduceAdd,Int.reduceMul,Int.reduceSub,Int.reduceNeg,Yi,Yj,Yk,Yl,Ym,Yn,Yo,Yp,Yq,Yr,Ys,Yt,Yu,Yv,Yw,Yx,Yy,Yz,YA,YB,YC,YD,YE,YF,YG,YH,YI,YJ,YK,YL,YM,YN,YO,YP,YQ,YR,YS,YT, g1]))
    rw [app_LN1 (by omega) (by omega)]
    (repeat (first | simp (disch := omega) only [wrap64, wrapU32, wrapU64, wrapU8] | simp only [Ja,Jb,Jc,Jd,Je,Jf,Jg,Jh,Ji,Jj,Jk,Jl,Jm,Jn,Jo,Jp,Jq,Jr,Js,Jt,Ju,Jv,Jw,envA,lensOf,Jx,Jy,Jz,JA,JB,JC,JD,JE,JF,JG,JH,JI,JJ,JK,JL,JM,JN,JO,JP,JQ,JR,JS,JT,JU,JV,JW,↓reduceIte,if_true,reduceCtorEq,Nat.reduceEqDiff,JX,JY,JZ,J0,J1,J2,J3,J4,J5,J6,J7,Ya,Yb,Yc,Yd,Ye,Yf,Int.cast_ofNat_Int,Yg,Yh,Int.reduceLT,Int.reduceLE,Int.reduceEq,Int.reduceAdd,Int.reduceMul,Int.reduceSub,Int.reduceNeg,Yi,Yj,Yk,Yl,Ym,Yn,Yo,Yp,Yq,Yr,Ys,Yt,Yu,Yv,Yw,Yx,Yy,Yz,YA,YB,YC,YD,YE,YF,YG,YH,YI,YJ,YK,YL,YM,YN,YO,YP,YQ,YR,YS,YT, nb, if_pos c1]))
  · have g1 : (127 : Int) < n := by omega
    (repeat (first | simp (disch := omega) only [wrap64, wrapU32, wrapU64, wrapU8] | simp only [Ja,Jb,Jc,Jd,Je,Jf,Jg,Jh,Ji,Jj,Jk,Jl,Jm,Jn,Jo,Jp,Jq,Jr,Js,Jt,Ju,Jv,Jw,envA,lensOf,Jx,Jy,Jz,JA,JB,JC,JD,JE,JF,JG,JH,JI,JJ,JK,JL,JM,JN,JO,JP,JQ,JR,JS,JT,JU,JV,JW,↓reduceIte,if_true,reduceCtorEq,Nat.reduceEqDiff,JX,JY,JZ,J0,J1,J2,J3,J4,J5,J6,J7,Ya,Yb,Yc,Yd,Ye,Yf,Int.cast_ofNat_Int,Yg,Yh,Int.reduceLT,Int.reduceLE,Int.reduceEq,Int.reduceAdd,Int.reduceMul,Int.reduceSub,Int.reduceNeg,Yi,Yj,Yk,Yl,Ym,Yn,Yo,Yp,Yq,Yr,Ys,Yt,Yu,Yv,Yw,Yx,Yy,Yz,YA,YB,YC,YD,YE,YF,YG,YH,YI,YJ,YK,YL,YM,YN,YO,YP,YQ,YR,YS,YT, g1]))
    rw [a127 _ h]
    (repeat (first | simp (disch := omega) only [wrap64, wrapU32, wrapU64, wrapU8] | simp only [Ja,Jb,Jc,Jd,Je,Jf,Jg,Jh,Ji,Jj,Jk,Jl,Jm,Jn,Jo,Jp,Jq,Jr,Js,Jt,Ju,Jv,Jw,envA,lensOf,Jx,Jy,Jz,JA,JB,JC,JD,JE,JF,JG,JH,JI,JJ,JK,JL,JM,JN,JO,JP,JQ,JR,JS,JT,JU,JV,JW,↓reduceIte,if_true,reduceCtorEq,Nat.reduceEqDiff,JX,JY,JZ,J0,J1,J2,J3,J4,J5,J6,J7,Ya,Yb,Yc,Yd,Ye,Yf,Int.cast_ofNat_Int,Yg,Yh,Int.reduceLT,Int.reduceLE,Int.reduceEq,Int.reduceAdd,Int.reduceMul,Int.reduceSub,Int.reduceNeg,Yi,Yj,Yk,Yl,Ym,Yn,Yo,Yp,Yq,Yr,Ys,Yt,Yu,Yv,Yw,Yx,Yy,Yz,YA,YB,YC,YD,YE,YF,YG,YH,YI,YJ,YK,YL,YM,YN,YO,YP,YQ,YR,YS,YT]))
    rw [o128 _ (by omega)]
    (repeat (first | simp (disch := omega) only [wrap64, wrapU32, wrapU64, wrapU8] | simp only [Ja,Jb,Jc,Jd,Je,Jf,Jg,Jh,Ji,Jj,Jk,Jl,Jm,Jn,Jo,Jp,Jq,Jr,Js,Jt,Ju,Jv,Jw,envA,lensOf,Jx,Jy,Jz,JA,JB,JC,JD,JE,JF,JG,JH,JI,JJ,JK,JL,JM,JN,JO,JP,JQ,JR,JS,JT,JU,JV,JW,↓reduceIte,if_true,reduceCtorEq,Nat.reduceEqDiff,JX,JY,JZ,J0,J1,J2,J3,J4,J5,J6,J7,Ya,Yb,Yc,Yd,Ye,Yf,Int.cast_ofNat_Int,Yg,Yh,Int.reduceLT,Int.reduceLE,Int.reduceEq,Int.reduceAdd,Int.reduceMul,Int.reduceSub,Int.reduceNeg,Yi,Yj,Yk,Yl,Ym,Yn,Yo,Yp,Yq,Yr,Ys,Yt,Yu,Yv,Yw,Yx,Yy,Yz,YA,YB,YC,YD,YE,YF,YG,YH,YI,YJ,YK,YL,YM,YN,YO,YP,YQ,YR,YS,YT]))
    rw [app_LN1 (by omega) (by omega)]
    (repeat (first | simp (disch := omega) only [wrap64, wrapU32, wrapU64, wrapU8] | simp only [Ja,Jb,Jc,Jd,Je,Jf,Jg,Jh,Ji,Jj,Jk,Jl,Jm,Jn,Jo,Jp,Jq,Jr,Js,Jt,Ju,Jv,Jw,envA,lensOf,Jx,Jy,Jz,JA,JB,JC,JD,JE,JF,JG,JH,JI,JJ,JK,JL,JM,JN,JO,JP,JQ,JR,JS,JT,JU,JV,JW,↓reduceIte,if_true,reduceCtorEq,Nat.reduceEqDiff,JX,JY,JZ,J0,J1,J2,J3,J4,J5,J6,J7,Ya,Yb,Yc,Yd,Ye,Yf,Int.cast_ofNat_Int,Yg,Yh,Int.reduceLT,Int.reduceLE,Int.reduceEq,Int.reduceAdd,Int.reduceMul,Int.reduceSub,Int.reduceNeg,Yi,Yj,Yk,Yl,Ym,Yn,Yo,Yp,Yq,Yr,Ys,Yt,Yu,Yv,Yw,Yx,Yy,Yz,YA,YB,YC,YD,YE,YF,YG,YH,YI,YJ,YK,YL,YM,YN,YO,YP,YQ,YR,YS,YT]))
    rw [r7]
    (repeat (first | simp (disch := omega) only [wrap64, wrapU32, wrapU64, wrapU8] | simp only [Ja,Jb,Jc,Jd,Je,Jf,Jg,Jh,Ji,Jj,Jk,Jl,Jm,Jn,Jo,Jp,Jq,Jr,Js,Jt,Ju,Jv,Jw,envA,lensOf,Jx,Jy,Jz,JA,JB,JC,JD,JE,JF,JG,JH,JI,JJ,JK,JL,JM,JN,JO,JP,JQ,JR,JS,JT,JU,JV,JW,↓reduceIte,if_true,reduceCtorEq,Nat.reduceEqDiff,JX,JY,JZ,J0,J1,J2,J3,J4,J5,J6,J7,Ya,Yb,Yc,Yd,Ye,Yf,Int.cast_ofNat_Int,Yg,Yh,Int.reduceLT,Int.reduceLE,Int.reduceEq,Int.reduceAdd,Int.reduceMul,Int.reduceSub,Int.reduceNeg,Yi,Yj,Yk,Yl,Ym,Yn,Yo,Yp,Yq,Yr,Ys,Yt,Yu,Yv,Yw,Yx,Yy,Yz,YA,YB,YC,YD,YE,YF,YG,YH,YI,YJ,YK,YL,YM,YN,YO,YP,YQ,YR,YS,YT]))
    refine LW.rd ?_
    by_cases c2 : n < 16384
    · have g2 : ¬ (127 : Int) < ((n / 128 : Nat) : Int) := by omega
      (repeat (first | simp (disch := omega) only [wrap64, wrapU32, wrapU64, wrapU8] | simp only [Ja,Jb,Jc,Jd,Je,Jf,Jg,Jh,Ji,Jj,Jk,Jl,Jm,Jn,Jo,Jp,Jq,Jr,Js,Jt,Ju,Jv,Jw,envA,lensOf,Jx,Jy,Jz,JA,JB,JC,JD,JE,JF,JG,JH,JI,JJ,JK,JL,JM,JN,JO,JP,JQ,JR,JS,JT,JU,JV,JW,↓reduceIte,if_true,reduceCtorEq,Nat.reduceEqDiff,JX,JY,JZ,J0,J1,J2,J3,J4,J5,J6,J7,Ya,Yb,Yc,Yd,Ye,Yf,Int.cast_ofNat_Int,Yg,Yh,Int.reduceLT,Int.reduceLE,Int.reduceEq,Int.reduceAdd,Int.reduceMul,Int.reduceSub,Int.reduceNeg,Yi,Yj,Yk,Yl,Ym,Yn,Yo,Yp,Yq,Yr,Ys,Yt,Yu,Yv,Yw,Yx,Yy,Yz,YA,YB,YC,YD,YE,YF,YG,YH,YI,YJ,YK,YL,YM,YN,YO,YP,YQ,YR,YS,YT, g2]))
      rw [app_LN1 (by omega) (by simp; omega)]
      (repeat (first | simp (disch := omega) only [wrap64, wrapU32, wrapU64, wrapU8] | simp only [Ja,Jb,Jc,Jd,Je,Jf,Jg,Jh,Ji,Jj,Jk,Jl,Jm,Jn,Jo,Jp,Jq,Jr,Js,Jt,Ju,Jv,Jw,envA,lensOf,Jx,Jy,Jz,JA,JB,JC,JD,JE,JF,JG,JH,JI,JJ,JK,JL,JM,JN,JO,JP,JQ,JR,JS,JT,JU,JV,JW,↓reduceIte,if_true,reduceCtorEq,Nat.reduceEqDiff,JX,JY,JZ,J0,J1,J2,J3,J4,J5,J6,J7,Ya,Yb,Yc,Yd,Ye,Yf,Int.cast_ofNat_Int,Yg,Yh,Int.reduceLT,Int.reduceLE,Int.reduceEq,Int.reduceAdd,Int.reduceMul,Int.reduceSub,Int.reduceNeg,Yi,Yj,Yk,Yl,Ym,Yn,Yo,Yp,Yq,Yr,Ys,Yt,Yu,Yv,Yw,Yx,Yy,Yz,YA,YB,YC,YD,YE,YF,YG,YH,YI,YJ,YK,YL,YM,YN,YO,YP,YQ,YR,YS,YT, nb, if_neg c1, if_pos c2, List.append_assoc]))
    · have g2 : (127 : Int) < ((n / 128 : Nat) : Int) := by omega
      (repeat (first | simp (disch := omega) only [wrap64, wrapU32, wrapU64, wrapU8] | simp only [Ja,Jb,Jc,Jd,Je,Jf,Jg,Jh,Ji,Jj,Jk,Jl,Jm,Jn,Jo,Jp,Jq,Jr,Js,Jt,Ju,Jv,Jw,envA,lensOf,Jx,Jy,Jz,JA,JB,JC,JD,JE,JF,JG,JH,JI,JJ,JK,JL,JM,JN,JO,JP,JQ,JR,JS,JT,JU,JV,JW,↓reduceIte,if_true,reduceCtorEq,Nat.reduceEqDiff,JX,JY,JZ,J0,J1,J2,J3,J4,J5,J6,J7,Ya,Yb,Yc,Yd,Ye,Yf,Int.cast_ofNat_Int,Yg,Yh,Int.reduceLT,Int.reduceLE,Int.reduceEq,Int.reduceAdd,Int.reduceMul,Int.reduceSub,Int.reduceNeg,Yi,Yj,Yk,Yl,Ym,Yn,Yo,Yp,Yq,Yr,Ys,Yt,Yu,Yv,Yw,Yx,Yy,Yz,YA,YB,YC,YD,YE,YF,YG,YH,YI,YJ,YK,YL,YM,YN,YO,YP,YQ,YR,YS,YT, g2]))
      rw [a127 _ (by omega)]
      (repeat (first | simp (disch := omega) only [wrap64, wrapU32, wrapU64, wrapU8] | simp only [Ja,Jb,Jc,Jd,Je,Jf,Jg,Jh,Ji,Jj,Jk,Jl,Jm,Jn,Jo,Jp,Jq,Jr,Js,Jt,Ju,Jv,Jw,envA,lensOf,Jx,Jy,Jz,JA,JB,JC,JD,JE,JF,JG,JH,JI,JJ,JK,JL,JM,JN,JO,JP,JQ,JR,JS,JT,JU,JV,JW,↓reduceIte,if_true,reduceCtorEq,Nat.reduceEqDiff,JX,JY,JZ,J0,J1,J2,J3,J4,J5,J6,J7,Ya,Yb,Yc,Yd,Ye,Yf,Int.cast_ofNat_Int,Yg,Yh,Int.reduceLT,Int.reduceLE,Int.reduceEq,Int.reduceAdd,Int.reduceMul,Int.reduceSub,Int.reduceNeg,Yi,Yj,Yk,Yl,Ym,Yn,Yo,Yp,Yq,Yr,Ys,Yt,Yu,Yv,Yw,Yx,Yy,Yz,YA,YB,YC,YD,YE,YF,YG,YH,YI,YJ,YK,YL,YM,YN,YO,YP,YQ,YR,YS,YT]))
      rw [o128 _ (by omega)]
      (repeat (first | simp (disch := omega) only [wrap64, wrapU32, wrapU64, wrapU8] | simp only [Ja,Jb,Jc,Jd,Je,Jf,Jg,Jh,Ji,Jj,Jk,Jl,Jm,Jn,Jo,Jp,Jq,Jr,Js,Jt,Ju,Jv,Jw,envA,lensOf,Jx,Jy,Jz,JA,JB,JC,JD,JE,JF,JG,JH,JI,JJ,JK,JL,JM,JN,JO,JP,JQ,JR,JS,JT,JU,JV,JW,↓reduceIte,if_true,reduceCtorEq,Nat.reduceEqDiff,JX,JY,JZ,J0,J1,J2,J3,J4,J5,J6,J7,Ya,Yb,Yc,Yd,Ye,Yf,Int.cast_ofNat_Int,Yg,Yh,Int.reduceLT,Int.reduceLE,Int.reduceEq,Int.reduceAdd,Int.reduceMul,Int.reduceSub,Int.reduceNeg,Yi,Yj,Yk,Yl,Ym,Yn,Yo,Yp,Yq,Yr,Ys,Yt,Yu,Yv,Yw,Yx,Yy,Yz,YA,YB,YC,YD,YE,YF,YG,YH,YI,YJ,YK,YL,YM,YN,YO,YP,YQ,YR,YS,YT]))
      rw [app_LN1 (by omega) (by simp; omega)]
      (repeat (first | simp (disch := omega) only [wrap64, wrapU32, wrapU64, wrapU8] | simp only [Ja,Jb,Jc,Jd,Je,Jf,Jg,Jh,Ji,Jj,Jk,Jl,Jm,Jn,Jo,Jp,Jq,Jr,Js,Jt,Ju,Jv,Jw,envA,lensOf,Jx,Jy,Jz,JA,JB,JC,JD,JE,JF,JG,JH,JI,JJ,JK,JL,JM,JN,JO,JP,JQ,JR,JS,JT,JU,JV,JW,↓reduceIte,if_true,reduceCtorEq,Nat.reduceEqDiff,JX,JY,JZ,J0,J1,J2,J3,J4,J5,J6,J7,Ya,Yb,Yc,Yd,Ye,Yf,Int.cast_ofNat_Int,Yg,Yh,Int.reduceLT,Int.reduceLE,Int.reduceEq,Int.reduceAdd,Int.reduceMul,Int.reduceSub,Int.reduceNeg,Yi,Yj,Yk,Yl,Ym,Yn,Yo,Yp,Yq,Yr,Ys,Yt,Yu,Yv,Yw,Yx,Yy,Yz,YA,YB,YC,YD,YE,YF,YG,YH,YI,YJ,YK,YL,YM,YN,YO,YP,YQ,YR,YS,YT]))
      rw [r7]
      (repeat (first | simp (disch := omega) only [wrap64, wrapU32, wrapU64, wrapU8] | simp only [Ja,Jb,Jc,Jd,Je,Jf,Jg,Jh,Ji,Jj,Jk,Jl,Jm,Jn,Jo,Jp,Jq,Jr,Js,Jt,Ju,Jv,Jw,envA,lensOf,Jx,Jy,Jz,JA,JB,JC,JD,JE,JF,JG,JH,JI,JJ,JK,JL,JM,JN,JO,JP,JQ,JR,JS,JT,JU,JV,JW,↓reduceIte,if_true,reduceCtorEq,Nat.reduceEqDiff,JX,JY,JZ,J0,J1,J2,J3,J4,J5,J6,J7,Ya,Yb,Yc,Yd,Ye,Yf,Int.cast_ofNat_Int,Yg,Yh,Int.reduceLT,Int.reduceLE,Int.reduceEq,Int.reduceAdd,Int.reduceMul,Int.reduceSub,Int.reduceNeg,Yi,Yj,Yk,Yl,Ym,Yn,Yo,Yp,Yq,Yr,Ys,Yt,Yu,Yv,Yw,Yx,Yy,Yz,YA,YB,YC,YD,YE,YF,YG,YH,YI,YJ,YK,YL,YM,YN,YO,YP,YQ,YR,YS,YT]))
      refine LW.rd ?_
      have g3 : ¬ (127 : Int) < ((n / 128 / 128 : Nat) : Int) := by omega
      (repeat (first | simp (disch := omega) only [wrap64, wrapU32, wrapU64, wrapU8] | simp only [Ja,Jb,Jc,Jd,Je,Jf,Jg,Jh,Ji,Jj,Jk,Jl,Jm,Jn,Jo,Jp,Jq,Jr,Js,Jt,Ju,Jv,Jw,envA,lensOf,Jx,Jy,Jz,JA,JB,JC,JD,JE,JF,JG,JH,JI,JJ,JK,JL,JM,JN,JO,JP,JQ,JR,JS,JT,JU,JV,JW,↓reduceIte,if_true,reduceCtorEq,Nat.reduceEqDiff,JX,JY,JZ,J0,J1,J2,J3,J4,J5,J6,J7,Ya,Yb,Yc,Yd,Ye,Yf,Int.cast_ofNat_Int,Yg,Yh,Int.reduceLT,Int.reduceLE,Int.reduceEq,Int.reduceAdd,Int.reduceMul,Int.reduceSub,Int.reduceNeg,Yi,Yj,Yk,Yl,Ym,Yn,Yo,Yp,Yq,Yr,Ys,Yt,Yu,Yv,Yw,Yx,Yy,Yz,YA,YB,YC,YD,YE,YF,YG,YH,YI,YJ,YK,YL,YM,YN,YO,YP,YQ,YR,YS,YT, g3]))
      rw [app_LN1 (by omega) (by simp; omega)]
      (repeat (first | simp (disch := omega) only [wrap64, wrapU32, wrapU64, wrapU8] | simp only [Ja,Jb,Jc,Jd,Je,Jf,Jg,Jh,Ji,Jj,Jk,Jl,Jm,Jn,Jo,Jp,Jq,Jr,Js,Jt,Ju,Jv,Jw,envA,lensOf,Jx,Jy,Jz,JA,JB,JC,JD,JE,JF,JG,JH,JI,JJ,JK,JL,JM,JN,JO,JP,JQ,JR,JS,JT,JU,JV,JW,↓reduceIte,if_true,reduceCtorEq,Nat.reduceEqDiff,JX,JY,JZ,J0,J1,J2,J3,J4,J5,J6,J7,Ya,Yb,Yc,Yd,Ye,Yf,Int.cast_ofNat_Int,Yg,Yh,Int.reduceLT,Int.reduceLE,Int.reduceEq,Int.reduceAdd,Int.reduceMul,Int.reduceSub,Int.reduceNeg,Yi,Yj,Yk,Yl,Ym,Yn,Yo,Yp,Yq,Yr,Ys,Yt,Yu,Yv,Yw,Yx,Yy,Yz,YA,YB,YC,YD,YE,YF,YG,YH,YI,YJ,YK,YL,YM,YN,YO,YP,YQ,YR,YS,YT, nb, if_neg c1, if_neg c2, List.append_assoc, Nat.div_div_eq_div_mul]))
/-- The bytes of a valid event. -/
def vb (vs : List Int) : List Nat := vs.flatMap fun v => nb (v + 1).toNat
def eb (k w n rk : Int) (vs : List Int) : List Nat := [k.toNat] ++ (if k = 1 then nb w.toNat ++ [rk.toNat] ++ vb vs else if k = 2 then nb w.toNat else nb n.toNat)
theorem nb_len (n : Nat) : (nb n).length ≤ 3 := by
  unfold nb
  split
  · simp
  · split <;> simp
theorem vb_take {vs : List Int} {i : Nat} (h : i < vs.length) : vb (vs.take (i + 1)) = vb (vs.take i) ++ nb (vs[i] + 1).toNat := by
  unfold vb
  rw [List.take_add_one, List.getElem?_eq_getElem h, List.flatMap_append]
  simp only [Option.toList_some, List.flatMap_cons, List.flatMap_nil, List.append_nil]
theorem vb_len : ∀ (vs : List Int), (vb vs).length ≤ 3 * vs.length
  | [] => by simp [vb]
  | v :: r => by
    have := vb_len r
    have h := nb_len (v + 1).toNat
    simp only [vb, List.flatMap_cons, List.length_append, List.length_cons] at this ⊢
    omega
theorem reqOk_spec {k : Int} {vs : List Int} (h : reqOk k vs = true) : vs.length = 8 ∧ (k = 1 ∨ k = 2) ∧ ∀ v ∈ vs, -1 ≤ v ∧ v ≤ 4095 := by
  unfold reqOk at h
  simp only [Bool.and_eq_true, decide_eq_true_eq] at h
  obtain ⟨h8, h⟩ := h
  refine ⟨h8, ?_⟩
  by_cases k1 : k = 1
  · rw [if_pos k1, List.all_eq_true] at h
    refine ⟨.inl k1, fun v hv => ?_⟩
    have := h v hv
    unfold inTake at this
    simp at this
    omega
  · rw [if_neg k1] at h
    by_cases k2 : k = 2
    · rw [if_pos k2, List.all_eq_true] at h
      refine ⟨.inr k2, fun v hv => ?_⟩
      have := h v hv
      unfold inGive at this
      simp at this
      omega
    · rw [if_neg k2] at h
      cases h
theorem evOk_spec {k w n rk : Int} {vs : List Int} (h : evOk k w n rk vs = true) : (k = 1 ∧ 0 ≤ w ∧ w < 4 ∧ reqOk rk vs = true) ∨ (k = 2 ∧ 0 ≤ w ∧ w < 4 ∧ vs = []) ∨ (k = 3 ∧ w = 0 ∧ 1 ≤ n ∧ n ≤ 16 ∧ vs = []) := by
  unfold evOk at h
  split at h
  · simp at h
    exact .inl ⟨by assumption, h.1.1.1, h.1.1.2, h.2⟩
  · split at h
    · simp at h
      exact .inr (.inl ⟨by assumption, h.1.1.1, h.1.1.2, h.2.2⟩)
    · split at h
      · simp at h
        exact .inr (.inr ⟨by assumption, h.1.1.1, h.1.1.2, h.1.2, h.2.2⟩)
      · cases h
theorem nat_of {w : Int} (h : 0 ≤ w) : ∃ m : Nat, w = m := ⟨w.toNat, by omega⟩
theorem f21 (k w n rk : Int) (vs : List Int) (ho : evOk k w n rk vs = true) : EvF fes 21 [.i k, .i w, .i n, .i rk, LI vs] [LN (eb k w n rk vs)] := by
  refine EvF.w (fe := e21) (t := t21) rfl rfl ?_
  rcases evOk_spec ho with ⟨rfl, w0, w4, hr⟩ | ⟨rfl, w0, w4, rfl⟩ | ⟨rfl, rfl, n1, n2, rfl⟩
  · obtain ⟨h8, hk, hv⟩ := reqOk_spec hr
    obtain ⟨m, rfl⟩ := nat_of w0
    obtain ⟨q, rfl⟩ : ∃ q : Nat, rk = q := ⟨rk.toNat, by omega⟩
    have hl8 : (vs.length : Int) = 8 := by omega
    have hm := nb_len m
    (repeat (first | simp (disch := omega) only [wrap64, wrapU32, wrapU64, wrapU8] | simp only [Ja,Jb,Jc,Jd,Je,Jf,Jg,Jh,Ji,Jj,Jk,Jl,Jm,Jn,Jo,Jp,Jq,Jr,Js,Jt,Ju,Jv,Jw,envA,lensOf,Jx,Jy,Jz,JA,JB,JC,JD,JE,JF,JG,JH,JI,JJ,JK,JL,JM,JN,JO,JP,JQ,JR,JS,JT,JU,JV,JW,↓reduceIte,if_true,reduceCtorEq,Nat.reduceEqDiff,JX,JY,JZ,J0,J1,J2,J3,J4,J5,J6,J7,Ya,Yb,Yc,Yd,Ye,Yf,Int.cast_ofNat_Int,Yg,Yh,Int.reduceLT,Int.reduceLE,Int.reduceEq,Int.reduceAdd,Int.reduceMul,Int.reduceSub,Int.reduceNeg,Yi,Yj,Yk,Yl,Ym,Yn,Yo,Yp,Yq,Yr,Ys,Yt,Yu,Yv,Yw,Yx,Yy,Yz,YA,YB,YC,YD,YE,YF,YG,YH,YI,YJ,YK,YL,YM,YN,YO,YP,YQ,YR,YS,YT, t21, e21]))
    rw [show D.l [D.i 1] = LN [1] from rfl]
    refine WC.mk (f20 [1] m (by omega) (by simp)) ?_
    (repeat (first | simp (disch := omega) only [wrap64, wrapU32, wrapU64, wrapU8] | simp only [Ja,Jb,Jc,Jd,Je,Jf,Jg,Jh,Ji,Jj,Jk,Jl,Jm,Jn,Jo,Jp,Jq,Jr,Js,Jt,Ju,Jv,Jw,envA,lensOf,Jx,Jy,Jz,JA,JB,JC,JD,JE,JF,JG,JH,JI,JJ,JK,JL,JM,JN,JO,JP,JQ,JR,JS,JT,JU,JV,JW,↓reduceIte,if_true,reduceCtorEq,Nat.reduceEqDiff,JX,JY,JZ,J0,J1,J2,J3,J4,J5,J6,J7,Ya,Yb,Yc,Yd,Ye,Yf,Int.cast_ofNat_Int,Yg,Yh,Int.reduceLT,Int.reduceLE,Int.reduceEq,Int.reduceAdd,Int.reduceMul,Int.reduceSub,Int.reduceNeg,Yi,Yj,Yk,Yl,Ym,Yn,Yo,Yp,Yq,Yr,Ys,Yt,Yu,Yv,Yw,Yx,Yy,Yz,YA,YB,YC,YD,YE,YF,YG,YH,YI,YJ,YK,YL,YM,YN,YO,YP,YQ,YR,YS,YT]))
    rw [app_LN1 (by omega) (by simp; omega)]
    (repeat (first | simp (disch := omega) only [wrap64, wrapU32, wrapU64, wrapU8] | simp only [Ja,Jb,Jc,Jd,Je,Jf,Jg,Jh,Ji,Jj,Jk,Jl,Jm,Jn,Jo,Jp,Jq,Jr,Js,Jt,Ju,Jv,Jw,envA,lensOf,Jx,Jy,Jz,JA,JB,JC,JD,JE,JF,JG,JH,JI,JJ,JK,JL,JM,JN,JO,JP,JQ,JR,JS,JT,JU,JV,JW,↓reduceIte,if_true,reduceCtorEq,Nat.reduceEqDiff,JX,JY,JZ,J0,J1,J2,J3,J4,J5,J6,J7,Ya,Yb,Yc,Yd,Ye,Yf,Int.cast_ofNat_Int,Yg,Yh,Int.reduceLT,Int.reduceLE,Int.reduceEq,Int.reduceAdd,Int.reduceMul,Int.reduceSub,Int.reduceNeg,Yi,Yj,Yk,Yl,Ym,Yn,Yo,Yp,Yq,Yr,Ys,Yt,Yu,Yv,Yw,Yx,Yy,Yz,YA,YB,YC,YD,YE,YF,YG,YH,YI,YJ,YK,YL,YM,YN,YO,YP,YQ,YR,YS,YT]))
    refine LW.cnt 8 (fun i => [.i i, LN ([1] ++ nb m ++ [q] ++ vb (vs.take i))]) (fun i hi => ?_) ?_ (by simp [vb])
    · have hi' : i < vs.length := by omega
      have hvi := hv _ (List.getElem_mem hi')
      have h2' : (i : Int) < vs.length := by omega
      obtain ⟨z, hz⟩ : ∃ z : Nat, vs[i] + 1 = z := ⟨(vs[i] + 1).toNat, by omega⟩
      have hb := vb_len (vs.take i)
      rw [List.length_take] at hb
      have hz3 := nb_len z
      (repeat (first | simp (disch := omega) only [wrap64, wrapU32, wrapU64, wrapU8] | simp only [Ja,Jb,Jc,Jd,Je,Jf,Jg,Jh,Ji,Jj,Jk,Jl,Jm,Jn,Jo,Jp,Jq,Jr,Js,Jt,Ju,Jv,Jw,envA,lensOf,Jx,Jy,Jz,JA,JB,JC,JD,JE,JF,JG,JH,JI,JJ,JK,JL,JM,JN,JO,JP,JQ,JR,JS,JT,JU,JV,JW,↓reduceIte,if_true,reduceCtorEq,Nat.reduceEqDiff,JX,JY,JZ,J0,J1,J2,J3,J4,J5,J6,J7,Ya,Yb,Yc,Yd,Ye,Yf,Int.cast_ofNat_Int,Yg,Yh,Int.reduceLT,Int.reduceLE,Int.reduceEq,Int.reduceAdd,Int.reduceMul,Int.reduceSub,Int.reduceNeg,Yi,Yj,Yk,Yl,Ym,Yn,Yo,Yp,Yq,Yr,Ys,Yt,Yu,Yv,Yw,Yx,Yy,Yz,YA,YB,YC,YD,YE,YF,YG,YH,YI,YJ,YK,YL,YM,YN,YO,YP,YQ,YR,YS,YT, h2', get_LI hi', hz]))
      refine WC.mk (f20 _ z (by omega) (by simp; omega)) ?_
      (repeat (first | simp (disch := omega) only [wrap64, wrapU32, wrapU64, wrapU8] | simp only [Ja,Jb,Jc,Jd,Je,Jf,Jg,Jh,Ji,Jj,Jk,Jl,Jm,Jn,Jo,Jp,Jq,Jr,Js,Jt,Ju,Jv,Jw,envA,lensOf,Jx,Jy,Jz,JA,JB,JC,JD,JE,JF,JG,JH,JI,JJ,JK,JL,JM,JN,JO,JP,JQ,JR,JS,JT,JU,JV,JW,↓reduceIte,if_true,reduceCtorEq,Nat.reduceEqDiff,JX,JY,JZ,J0,J1,J2,J3,J4,J5,J6,J7,Ya,Yb,Yc,Yd,Ye,Yf,Int.cast_ofNat_Int,Yg,Yh,Int.reduceLT,Int.reduceLE,Int.reduceEq,Int.reduceAdd,Int.reduceMul,Int.reduceSub,Int.reduceNeg,Yi,Yj,Yk,Yl,Ym,Yn,Yo,Yp,Yq,Yr,Ys,Yt,Yu,Yv,Yw,Yx,Yy,Yz,YA,YB,YC,YD,YE,YF,YG,YH,YI,YJ,YK,YL,YM,YN,YO,YP,YQ,YR,YS,YT]))
      rw [vb_take hi', hz]
      simp
    · have h2 : ¬ (8 : Int) < vs.length := by omega
      (repeat (first | simp (disch := omega) only [wrap64, wrapU32, wrapU64, wrapU8] | simp only [Ja,Jb,Jc,Jd,Je,Jf,Jg,Jh,Ji,Jj,Jk,Jl,Jm,Jn,Jo,Jp,Jq,Jr,Js,Jt,Ju,Jv,Jw,envA,lensOf,Jx,Jy,Jz,JA,JB,JC,JD,JE,JF,JG,JH,JI,JJ,JK,JL,JM,JN,JO,JP,JQ,JR,JS,JT,JU,JV,JW,↓reduceIte,if_true,reduceCtorEq,Nat.reduceEqDiff,JX,JY,JZ,J0,J1,J2,J3,J4,J5,J6,J7,Ya,Yb,Yc,Yd,Ye,Yf,Int.cast_ofNat_Int,Yg,Yh,Int.reduceLT,Int.reduceLE,Int.reduceEq,Int.reduceAdd,Int.reduceMul,Int.reduceSub,Int.reduceNeg,Yi,Yj,Yk,Yl,Ym,Yn,Yo,Yp,Yq,Yr,Ys,Yt,Yu,Yv,Yw,Yx,Yy,Yz,YA,YB,YC,YD,YE,YF,YG,YH,YI,YJ,YK,YL,YM,YN,YO,YP,YQ,YR,YS,YT, h2]))
      rw [eb, if_pos rfl, List.take_of_length_le (by omega)]
      simp
  · obtain ⟨m, rfl⟩ := nat_of w0
    (repeat (first | simp (disch := omega) only [wrap64, wrapU32, wrapU64, wrapU8] | simp only [Ja,Jb,Jc,Jd,Je,Jf,Jg,Jh,Ji,Jj,Jk,Jl,Jm,Jn,Jo,Jp,Jq,Jr,Js,Jt,Ju,Jv,Jw,envA,lensOf,Jx,Jy,Jz,JA,JB,JC,JD,JE,JF,JG,JH,JI,JJ,JK,JL,JM,JN,JO,JP,JQ,JR,JS,JT,JU,JV,JW,↓reduceIte,if_true,reduceCtorEq,Nat.reduceEqDiff,JX,JY,JZ,J0,J1,J2,J3,J4,J5,J6,J7,Ya,Yb,Yc,Yd,Ye,Yf,Int.cast_ofNat_Int,Yg,Yh,Int.reduceLT,Int.reduceLE,Int.reduceEq,Int.reduceAdd,Int.reduceMul,Int.reduceSub,Int.reduceNeg,Yi,Yj,Yk,Yl,Ym,Yn,Yo,Yp,Yq,Yr,Ys,Yt,Yu,Yv,Yw,Yx,Yy,Yz,YA,YB,YC,YD,YE,YF,YG,YH,YI,YJ,YK,YL,YM,YN,YO,YP,YQ,YR,YS,YT, t21, e21]))
    rw [show D.l [D.i 2] = LN [2] from rfl]
    refine WC.mk (f20 [2] m (by omega) (by simp)) ?_
    (repeat (first | simp (disch := omega) only [wrap64, wrapU32, wrapU64, wrapU8] | simp only [Ja,Jb,Jc,Jd,Je,Jf,Jg,Jh,Ji,Jj,Jk,Jl,Jm,Jn,Jo,Jp,Jq,Jr,Js,Jt,Ju,Jv,Jw,envA,lensOf,Jx,Jy,Jz,JA,JB,JC,JD,JE,JF,JG,JH,JI,JJ,JK,JL,JM,JN,JO,JP,JQ,JR,JS,JT,JU,JV,JW,↓reduceIte,if_true,reduceCtorEq,Nat.reduceEqDiff,JX,JY,JZ,J0,J1,J2,J3,J4,J5,J6,J7,Ya,Yb,Yc,Yd,Ye,Yf,Int.cast_ofNat_Int,Yg,Yh,Int.reduceLT,Int.reduceLE,Int.reduceEq,Int.reduceAdd,Int.reduceMul,Int.reduceSub,Int.reduceNeg,Yi,Yj,Yk,Yl,Ym,Yn,Yo,Yp,Yq,Yr,Ys,Yt,Yu,Yv,Yw,Yx,Yy,Yz,YA,YB,YC,YD,YE,YF,YG,YH,YI,YJ,YK,YL,YM,YN,YO,YP,YQ,YR,YS,YT]))
    rw [eb, if_neg (by omega), if_pos rfl]
    simp
  · obtain ⟨m, rfl⟩ := nat_of (show 0 ≤ n by omega)
    (repeat (first | simp (disch := omega) only [wrap64, wrapU32, wrapU64, wrapU8] | simp only [Ja,Jb,Jc,Jd,Je,Jf,Jg,Jh,Ji,Jj,Jk,Jl,Jm,Jn,Jo,Jp,Jq,Jr,Js,Jt,Ju,Jv,Jw,envA,lensOf,Jx,Jy,Jz,JA,JB,JC,JD,JE,JF,JG,JH,JI,JJ,JK,JL,JM,JN,JO,JP,JQ,JR,JS,JT,JU,JV,JW,↓reduceIte,if_true,reduceCtorEq,Nat.reduceEqDiff,JX,JY,JZ,J0,J1,J2,J3,J4,J5,J6,J7,Ya,Yb,Yc,Yd,Ye,Yf,Int.cast_ofNat_Int,Yg,Yh,Int.reduceLT,Int.reduceLE,Int.reduceEq,Int.reduceAdd,Int.reduceMul,Int.reduceSub,Int.reduceNeg,Yi,Yj,Yk,Yl,Ym,Yn,Yo,Yp,Yq,Yr,Ys,Yt,Yu,Yv,Yw,Yx,Yy,Yz,YA,YB,YC,YD,YE,YF,YG,YH,YI,YJ,YK,YL,YM,YN,YO,YP,YQ,YR,YS,YT, t21, e21]))
    rw [show D.l [D.i 3] = LN [3] from rfl]
    refine WC.mk (f20 [3] m (by omega) (by simp)) ?_
    (repeat (first | simp (disch := omega) only [wrap64, wrapU32, wrapU64, wrapU8] | simp only [Ja,Jb,Jc,Jd,Je,Jf,Jg,Jh,Ji,Jj,Jk,Jl,Jm,Jn,Jo,Jp,Jq,Jr,Js,Jt,Ju,Jv,Jw,envA,lensOf,Jx,Jy,Jz,JA,JB,JC,JD,JE,JF,JG,JH,JI,JJ,JK,JL,JM,JN,JO,JP,JQ,JR,JS,JT,JU,JV,JW,↓reduceIte,if_true,reduceCtorEq,Nat.reduceEqDiff,JX,JY,JZ,J0,J1,J2,J3,J4,J5,J6,J7,Ya,Yb,Yc,Yd,Ye,Yf,Int.cast_ofNat_Int,Yg,Yh,Int.reduceLT,Int.reduceLE,Int.reduceEq,Int.reduceAdd,Int.reduceMul,Int.reduceSub,Int.reduceNeg,Yi,Yj,Yk,Yl,Ym,Yn,Yo,Yp,Yq,Yr,Ys,Yt,Yu,Yv,Yw,Yx,Yy,Yz,YA,YB,YC,YD,YE,YF,YG,YH,YI,YJ,YK,YL,YM,YN,YO,YP,YQ,YR,YS,YT]))
    rw [eb, if_neg (by omega), if_neg (by omega)]
    simp
theorem eb_len {k w n rk : Int} {vs : List Int} (ho : evOk k w n rk vs = true) : (eb k w n rk vs).length ≤ 40 := by
  unfold eb
  have h1 := nb_len w.toNat
  have h2 := nb_len n.toNat
  rcases evOk_spec ho with ⟨rfl, w0, w4, hr⟩ | ⟨rfl, w0, w4, rfl⟩ | ⟨rfl, rfl, n1, n2, rfl⟩
  · obtain ⟨h8, hk, hv⟩ := reqOk_spec hr
    have := vb_len vs
    simp
    omega
  · simp
    omega
  · simp
    omega
theorem vb_lt {vs : List Int} (hv : ∀ v ∈ vs, -1 ≤ v ∧ v ≤ 4095) : ∀ x ∈ vb vs, x < 256 := by
  intro x hx
  unfold vb at hx
  obtain ⟨v, h1, h2⟩ := List.mem_flatMap.1 hx
  have := hv v h1
  exact nb_lt (by omega) x h2
theorem eb_lt {k w n rk : Int} {vs : List Int} (ho : evOk k w n rk vs = true) : ∀ x ∈ eb k w n rk vs, x < 256 := by
  intro x hx
  unfold eb at hx
  rcases evOk_spec ho with ⟨rfl, w0, w4, hr⟩ | ⟨rfl, w0, w4, rfl⟩ | ⟨rfl, rfl, n1, n2, rfl⟩
  · obtain ⟨h8, hk, hv⟩ := reqOk_spec hr
    rw [if_pos rfl] at hx
    simp only [List.mem_append, List.mem_singleton] at hx
    rcases hx with rfl | (hx | rfl) | hx
    · decide
    · exact nb_lt (by omega) x hx
    · omega
    · exact vb_lt hv x hx
  · rw [if_neg (by omega), if_pos rfl] at hx
    simp only [List.mem_append, List.mem_singleton] at hx
    rcases hx with rfl | hx
    · decide
    · exact nb_lt (by omega) x hx
  · rw [if_neg (by omega), if_neg (by omega)] at hx
    simp only [List.mem_append, List.mem_singleton] at hx
    rcases hx with rfl | hx
    · decide
    · exact nb_lt (by omega) x hx
end Go.Proofs.YtdjfhggmcigahaaDoor.EBack

/- Events: the laws' own helpers, 1. -/
set_option linter.unusedVariables false
set_option linter.unusedSimpArgs false
namespace Go.Proofs.YtdjfhggmcigahaaDoor.EBack
open Go.BH
set_option maxRecDepth 100000
theorem szV_cases (l : Nat) : (1048576 < l ∧ szV l ((1048576 : Nat) : Int) = -1) ∨ (l ≤ 1048576 ∧ szV l ((1048576 : Nat) : Int) = ((1048576 - l : Nat) : Int)) := by
  unfold szV
  by_cases h : 1048576 < l
  · exact .inl ⟨h, if_pos (by omega)⟩
  · refine .inr ⟨by omega, ?_⟩
    rw [if_neg (by omega)]
    omega
end Go.Proofs.YtdjfhggmcigahaaDoor.EBack

/- Events: the laws' own helpers, 2. -/
set_option linter.unusedVariables false
set_option linter.unusedSimpArgs false
namespace Go.Proofs.YtdjfhggmcigahaaDoor.EBack
open Go.BH
set_option maxRecDepth 100000
end Go.Proofs.YtdjfhggmcigahaaDoor.EBack

/- EventText: both sides write the same. -/
set_option linter.unusedVariables false
set_option linter.unusedSimpArgs false
namespace Go.Proofs.YtdjfhggmcigahaaDoor.EBack
open Go.BH Go.Proofs
set_option maxRecDepth 100000
/-- A text by its bytes. -/
def B (l : List UInt8) : ByteArray := ⟨l.toArray⟩
theorem B_size (l : List UInt8) : (B l).size = l.length := by simp [B, ByteArray.size]
theorem catB {a b : List UInt8} (h : a.length + b.length ≤ 1000000000) : Pr.cat.eval [.s (B a), .s (B b)] = some (.s (B (a ++ b))) := by
  rw [ev_cat, B_size, B_size, if_neg (by omega)]
  congr 2
  all_goals exact bytes_eq (by simp [B])
theorem itB (n : Int) : (⟨(Lib.itoa n).toArray⟩ : ByteArray) = B (Lib.itoa n) := rfl
theorem wordsT_B (l : List UInt8) (ns : List Int) : wordsT (B l) ns = B (l ++ numsT ns) := rfl
/-- An event's text. -/
def etL (k w n rk : Int) (vs : List Int) : List UInt8 :=
  if k = 3 then [103, 114, 111, 119] ++ numsT [n] else if k = 2 then [112, 105, 99, 107] ++ numsT [w] else ((if rk = 1 then [116, 97, 107, 101] else [103, 105, 118, 101]) ++ numsT [w]) ++ numsT vs
theorem oknZ_of {n : Int} (h : Okn n) : oknZ n = true := by
  simp only [oknZ, Bool.and_eq_true, decide_eq_true_eq]
  exact h
theorem ints_D (ns : List Int) : (ns.map D.i).map D.int = ns := by
  rw [List.map_map]
  exact List.map_id' ns
theorem f23 (l : List UInt8) (ns : List Int) (hl : l.length ≤ 1000000) (hn : ns.length ≤ 1000000) (h : ∀ n ∈ ns, Okn n) : EvF fes 23 [.s (B l), LI ns] [.s (B (l ++ numsT ns))] := by
  refine EvF.prim (fe := e23) rfl rfl ?_
  show prim28 [.s (B l), .l (ns.map D.i)] = some [.s (B (l ++ numsT ns))]
  have h1 : Nat.ble (B l).size 1000000 = true := Nat.ble_eq_true_of_le (by rw [B_size]; exact hl)
  have h2 : Nat.ble (ns.map D.i).length 1000000 = true := Nat.ble_eq_true_of_le (by rw [List.length_map]; exact hn)
  have h3 : (ns.map D.i).all oknB = true := by
    rw [List.all_eq_true]
    intro x hx
    obtain ⟨n, hn, rfl⟩ := List.mem_map.1 hx
    exact oknZ_of (h n hn)
  simp only [prim28, h1, h2, h3, Bool.and_true, if_true, ints_D, wordsT_B]
theorem itoa_short {n : Int} (h : Okn n) : (Lib.itoa n).length ≤ 21 := Lib.itoa_length_le n h.1 h.2
theorem nums_one (n : Int) : numsT [n] = 32 :: (Lib.itoa n) := by simp [numsT]
theorem small_ok {n : Int} (h : -1 ≤ n ∧ n ≤ 5000) : Okn n := ⟨by omega, by omega⟩
theorem f24 (k w n rk : Int) (vs : List Int) (ho : evOk k w n rk vs = true) : EvF fes 24 [.i k, .i w, .i n, .i rk, LI vs] [.s (B (etL k w n rk vs))] := by
  refine EvF.w (fe := e24) (t := t24) rfl rfl ?_
  have w4 : (⟨#[112, 105, 99, 107]⟩ : ByteArray) = B [112, 105, 99, 107] := rfl
  have g4 : (⟨#[103, 114, 111, 119]⟩ : ByteArray) = B [103, 114, 111, 119] := rfl
  have t4 : (⟨#[116, 97, 107, 101]⟩ : ByteArray) = B [116, 97, 107, 101] := rfl
  have v4 : (⟨#[103, 105, 118, 101]⟩ : ByteArray) = B [103, 105, 118, 101] := rfl
  rcases evOk_spec ho with ⟨hk, h0, h1, hr⟩ | ⟨hk, h0, h1, hv⟩ | ⟨hk, h0, h1, h2, hv⟩
  · obtain ⟨r1, r2, r3⟩ := reqOk_spec hr
    have k2 : ¬ k = 2 := by omega
    have k3 : ¬ k = 3 := by omega
    have okw := small_ok (n := w) (by omega)
    have iw := itoa_short okw
    have okv : ∀ v ∈ vs, Okn v := fun v hv => small_ok (by have := r3 v hv; omega)
    by_cases hr1 : rk = 1
    · (repeat (first | simp (disch := omega) only [wrap64, wrapU32, wrapU64, wrapU8] | simp only [Ja,Jb,Jc,Jd,Je,Jf,Jg,Jh,Ji,Jj,Jk,Jl,Jm,Jn,Jo,Jp,Jq,Jr,Js,Jt,Ju,Jv,Jw,envA,lensOf,Jx,Jy,Jz,JA,JB,JC,JD,JE,JF,JG,JH,JI,JJ,JK,JL,JM,JN,JO,JP,JQ,JR,JS,JT,JU,JV,JW,↓reduceIte,if_true,reduceCtorEq,Nat.reduceEqDiff,JX,JY,JZ,J0,J1,J2,J3,J4,J5,J6,J7,Ya,Yb,Yc,Yd,Ye,Yf,Int.cast_ofNat_Int,Yg,Yh,Int.reduceLT,Int.reduceLE,Int.reduceEq,Int.reduceAdd,Int.reduceMul,Int.reduceSub,Int.reduceNeg,Yi,Yj,Yk,Yl,Ym,Yn,Yo,Yp,Yq,Yr,Ys,Yt,Yu,Yv,Yw,Yx,Yy,Yz,YA,YB,YC,YD,YE,YF,YG,YH,YI,YJ,YK,YL,YM,YN,YO,YP,YQ,YR,YS,YT, t24, e24, k2, k3, hr1, t4]))
      refine WC.mk (f23 [116, 97, 107, 101] [w] (by simp) (by simp) (by simpa using okw)) ?_
      simp only [Ja,Jb,Jc,Jd,Je,Jf,Jg,Jh,Ji,Jj,Jk,Jl,Jm,Jn,Jo,Jp,Jq,Jr,Js,Jt,Ju,Jv,Jw,envA,lensOf,Jx,Jy,Jz,JA,JB,JC,JD,JE,JF,JG,JH,JI,JJ,JK,JL,JM,JN,JO,JP,JQ,JR,JS,JT,JU,JV,JW,↓reduceIte,if_true,reduceCtorEq,Nat.reduceEqDiff,JX,JY,JZ,J0,J1,J2,J3,J4,J5,J6,J7,Ya,Yb,Yc,Yd,Ye,Yf,Int.cast_ofNat_Int,Yg,Yh,Int.reduceLT,Int.reduceLE,Int.reduceEq,Int.reduceAdd,Int.reduceMul,Int.reduceSub,Int.reduceNeg,Yi,Yj,Yk,Yl,Ym,Yn,Yo,Yp,Yq,Yr,Ys,Yt,Yu,Yv,Yw,Yx,Yy,Yz,YA,YB,YC,YD,YE,YF,YG,YH,YI,YJ,YK,YL,YM,YN,YO,YP,YQ,YR,YS,YT]
      refine WC.mk (f23 _ vs (by rw [nums_one]; simp; omega) (by omega) okv) ?_
      simp only [Ja,Jb,Jc,Jd,Je,Jf,Jg,Jh,Ji,Jj,Jk,Jl,Jm,Jn,Jo,Jp,Jq,Jr,Js,Jt,Ju,Jv,Jw,envA,lensOf,Jx,Jy,Jz,JA,JB,JC,JD,JE,JF,JG,JH,JI,JJ,JK,JL,JM,JN,JO,JP,JQ,JR,JS,JT,JU,JV,JW,↓reduceIte,if_true,reduceCtorEq,Nat.reduceEqDiff,JX,JY,JZ,J0,J1,J2,J3,J4,J5,J6,J7,Ya,Yb,Yc,Yd,Ye,Yf,Int.cast_ofNat_Int,Yg,Yh,Int.reduceLT,Int.reduceLE,Int.reduceEq,Int.reduceAdd,Int.reduceMul,Int.reduceSub,Int.reduceNeg,Yi,Yj,Yk,Yl,Ym,Yn,Yo,Yp,Yq,Yr,Ys,Yt,Yu,Yv,Yw,Yx,Yy,Yz,YA,YB,YC,YD,YE,YF,YG,YH,YI,YJ,YK,YL,YM,YN,YO,YP,YQ,YR,YS,YT, etL, if_neg k2, if_neg k3, if_pos hr1]
    · (repeat (first | simp (disch := omega) only [wrap64, wrapU32, wrapU64, wrapU8] | simp only [Ja,Jb,Jc,Jd,Je,Jf,Jg,Jh,Ji,Jj,Jk,Jl,Jm,Jn,Jo,Jp,Jq,Jr,Js,Jt,Ju,Jv,Jw,envA,lensOf,Jx,Jy,Jz,JA,JB,JC,JD,JE,JF,JG,JH,JI,JJ,JK,JL,JM,JN,JO,JP,JQ,JR,JS,JT,JU,JV,JW,↓reduceIte,if_true,reduceCtorEq,Nat.reduceEqDiff,JX,JY,JZ,J0,J1,J2,J3,J4,J5,J6,J7,Ya,Yb,Yc,Yd,Ye,Yf,Int.cast_ofNat_Int,Yg,Yh,Int.reduceLT,Int.reduceLE,Int.reduceEq,Int.reduceAdd,Int.reduceMul,Int.reduceSub,Int.reduceNeg,Yi,Yj,Yk,Yl,Ym,Yn,Yo,Yp,Yq,Yr,Ys,Yt,Yu,Yv,Yw,Yx,Yy,Yz,YA,YB,YC,YD,YE,YF,YG,YH,YI,YJ,YK,YL,YM,YN,YO,YP,YQ,YR,YS,YT, t24, e24, k2, k3, hr1, v4]))
      refine WC.mk (f23 [103, 105, 118, 101] [w] (by simp) (by simp) (by simpa using okw)) ?_
      simp only [Ja,Jb,Jc,Jd,Je,Jf,Jg,Jh,Ji,Jj,Jk,Jl,Jm,Jn,Jo,Jp,Jq,Jr,Js,Jt,Ju,Jv,Jw,envA,lensOf,Jx,Jy,Jz,JA,JB,JC,JD,JE,JF,JG,JH,JI,JJ,JK,JL,JM,JN,JO,JP,JQ,JR,JS,JT,JU,JV,JW,↓reduceIte,if_true,reduceCtorEq,Nat.reduceEqDiff,JX,JY,JZ,J0,J1,J2,J3,J4,J5,J6,J7,Ya,Yb,Yc,Yd,Ye,Yf,Int.cast_ofNat_Int,Yg,Yh,Int.reduceLT,Int.reduceLE,Int.reduceEq,Int.reduceAdd,Int.reduceMul,Int.reduceSub,Int.reduceNeg,Yi,Yj,Yk,Yl,Ym,Yn,Yo,Yp,Yq,Yr,Ys,Yt,Yu,Yv,Yw,Yx,Yy,Yz,YA,YB,YC,YD,YE,YF,YG,YH,YI,YJ,YK,YL,YM,YN,YO,YP,YQ,YR,YS,YT]
      refine WC.mk (f23 _ vs (by rw [nums_one]; simp; omega) (by omega) okv) ?_
      simp only [Ja,Jb,Jc,Jd,Je,Jf,Jg,Jh,Ji,Jj,Jk,Jl,Jm,Jn,Jo,Jp,Jq,Jr,Js,Jt,Ju,Jv,Jw,envA,lensOf,Jx,Jy,Jz,JA,JB,JC,JD,JE,JF,JG,JH,JI,JJ,JK,JL,JM,JN,JO,JP,JQ,JR,JS,JT,JU,JV,JW,↓reduceIte,if_true,reduceCtorEq,Nat.reduceEqDiff,JX,JY,JZ,J0,J1,J2,J3,J4,J5,J6,J7,Ya,Yb,Yc,Yd,Ye,Yf,Int.cast_ofNat_Int,Yg,Yh,Int.reduceLT,Int.reduceLE,Int.reduceEq,Int.reduceAdd,Int.reduceMul,Int.reduceSub,Int.reduceNeg,Yi,Yj,Yk,Yl,Ym,Yn,Yo,Yp,Yq,Yr,Ys,Yt,Yu,Yv,Yw,Yx,Yy,Yz,YA,YB,YC,YD,YE,YF,YG,YH,YI,YJ,YK,YL,YM,YN,YO,YP,YQ,YR,YS,YT, etL, if_neg k2, if_neg k3, if_neg hr1]
  · have k3 : ¬ k = 3 := by omega
    have okw := small_ok (n := w) (by omega)
    (repeat (first | simp (disch := omega) only [wrap64, wrapU32, wrapU64, wrapU8] | simp only [Ja,Jb,Jc,Jd,Je,Jf,Jg,Jh,Ji,Jj,Jk,Jl,Jm,Jn,Jo,Jp,Jq,Jr,Js,Jt,Ju,Jv,Jw,envA,lensOf,Jx,Jy,Jz,JA,JB,JC,JD,JE,JF,JG,JH,JI,JJ,JK,JL,JM,JN,JO,JP,JQ,JR,JS,JT,JU,JV,JW,↓reduceIte,if_true,reduceCtorEq,Nat.reduceEqDiff,JX,JY,JZ,J0,J1,J2,J3,J4,J5,J6,J7,Ya,Yb,Yc,Yd,Ye,Yf,Int.cast_ofNat_Int,Yg,Yh,Int.reduceLT,Int.reduceLE,Int.reduceEq,Int.reduceAdd,Int.reduceMul,Int.reduceSub,Int.reduceNeg,Yi,Yj,Yk,Yl,Ym,Yn,Yo,Yp,Yq,Yr,Ys,Yt,Yu,Yv,Yw,Yx,Yy,Yz,YA,YB,YC,YD,YE,YF,YG,YH,YI,YJ,YK,YL,YM,YN,YO,YP,YQ,YR,YS,YT, t24, e24, hk, k3, w4]))
    refine WC.mk (f23 [112, 105, 99, 107] [w] (by simp) (by simp) (by simpa using okw)) ?_
    simp only [Ja,Jb,Jc,Jd,Je,Jf,Jg,Jh,Ji,Jj,Jk,Jl,Jm,Jn,Jo,Jp,Jq,Jr,Js,Jt,Ju,Jv,Jw,envA,lensOf,Jx,Jy,Jz,JA,JB,JC,JD,JE,JF,JG,JH,JI,JJ,JK,JL,JM,JN,JO,JP,JQ,JR,JS,JT,JU,JV,JW,↓reduceIte,if_true,reduceCtorEq,Nat.reduceEqDiff,JX,JY,JZ,J0,J1,J2,J3,J4,J5,J6,J7,Ya,Yb,Yc,Yd,Ye,Yf,Int.cast_ofNat_Int,Yg,Yh,Int.reduceLT,Int.reduceLE,Int.reduceEq,Int.reduceAdd,Int.reduceMul,Int.reduceSub,Int.reduceNeg,Yi,Yj,Yk,Yl,Ym,Yn,Yo,Yp,Yq,Yr,Ys,Yt,Yu,Yv,Yw,Yx,Yy,Yz,YA,YB,YC,YD,YE,YF,YG,YH,YI,YJ,YK,YL,YM,YN,YO,YP,YQ,YR,YS,YT, etL, if_neg k3, if_pos hk]
  · have k2 : ¬ k = 2 := by omega
    have okn := small_ok (n := n) (by omega)
    (repeat (first | simp (disch := omega) only [wrap64, wrapU32, wrapU64, wrapU8] | simp only [Ja,Jb,Jc,Jd,Je,Jf,Jg,Jh,Ji,Jj,Jk,Jl,Jm,Jn,Jo,Jp,Jq,Jr,Js,Jt,Ju,Jv,Jw,envA,lensOf,Jx,Jy,Jz,JA,JB,JC,JD,JE,JF,JG,JH,JI,JJ,JK,JL,JM,JN,JO,JP,JQ,JR,JS,JT,JU,JV,JW,↓reduceIte,if_true,reduceCtorEq,Nat.reduceEqDiff,JX,JY,JZ,J0,J1,J2,J3,J4,J5,J6,J7,Ya,Yb,Yc,Yd,Ye,Yf,Int.cast_ofNat_Int,Yg,Yh,Int.reduceLT,Int.reduceLE,Int.reduceEq,Int.reduceAdd,Int.reduceMul,Int.reduceSub,Int.reduceNeg,Yi,Yj,Yk,Yl,Ym,Yn,Yo,Yp,Yq,Yr,Ys,Yt,Yu,Yv,Yw,Yx,Yy,Yz,YA,YB,YC,YD,YE,YF,YG,YH,YI,YJ,YK,YL,YM,YN,YO,YP,YQ,YR,YS,YT, t24, e24, k2, hk, g4]))
    refine WC.mk (f23 [103, 114, 111, 119] [n] (by simp) (by simp) (by simpa using okn)) ?_
    simp only [Ja,Jb,Jc,Jd,Je,Jf,Jg,Jh,Ji,Jj,Jk,Jl,Jm,Jn,Jo,Jp,Jq,Jr,Js,Jt,Ju,Jv,Jw,envA,lensOf,Jx,Jy,Jz,JA,JB,JC,JD,JE,JF,JG,JH,JI,JJ,JK,JL,JM,JN,JO,JP,JQ,JR,JS,JT,JU,JV,JW,↓reduceIte,if_true,reduceCtorEq,Nat.reduceEqDiff,JX,JY,JZ,J0,J1,J2,J3,J4,J5,J6,J7,Ya,Yb,Yc,Yd,Ye,Yf,Int.cast_ofNat_Int,Yg,Yh,Int.reduceLT,Int.reduceLE,Int.reduceEq,Int.reduceAdd,Int.reduceMul,Int.reduceSub,Int.reduceNeg,Yi,Yj,Yk,Yl,Ym,Yn,Yo,Yp,Yq,Yr,Ys,Yt,Yu,Yv,Yw,Yx,Yy,Yz,YA,YB,YC,YD,YE,YF,YG,YH,YI,YJ,YK,YL,YM,YN,YO,YP,YQ,YR,YS,YT, etL, if_pos hk]
theorem f25 (k w n rk : Int) (vs : List Int) (hl : vs.length < 9223372036854775808) : EvF fes 25 [.i k, .i w, .i n, .i rk, LI vs] [.s (if evOk k w n rk vs = true then B (etL k w n rk vs) else ⟨#[]⟩)] := by
  refine EvF.w (fe := e25) (t := t25) rfl rfl ?_
  simp only [Ja,Jb,Jc,Jd,Je,Jf,Jg,Jh,Ji,Jj,Jk,Jl,Jm,Jn,Jo,Jp,Jq,Jr,Js,Jt,Ju,Jv,Jw,envA,lensOf,Jx,Jy,Jz,JA,JB,JC,JD,JE,JF,JG,JH,JI,JJ,JK,JL,JM,JN,JO,JP,JQ,JR,JS,JT,JU,JV,JW,↓reduceIte,if_true,reduceCtorEq,Nat.reduceEqDiff,JX,JY,JZ,J0,J1,J2,J3,J4,J5,J6,J7,Ya,Yb,Yc,Yd,Ye,Yf,Int.cast_ofNat_Int,Yg,Yh,Int.reduceLT,Int.reduceLE,Int.reduceEq,Int.reduceAdd,Int.reduceMul,Int.reduceSub,Int.reduceNeg,Yi,Yj,Yk,Yl,Ym,Yn,Yo,Yp,Yq,Yr,Ys,Yt,Yu,Yv,Yw,Yx,Yy,Yz,YA,YB,YC,YD,YE,YF,YG,YH,YI,YJ,YK,YL,YM,YN,YO,YP,YQ,YR,YS,YT, t25, e25]
  refine WC.mk (f19 k w n rk vs hl) ?_
  cases ho : evOk k w n rk vs with
  | false => simp only [Ja,Jb,Jc,Jd,Je,Jf,Jg,Jh,Ji,Jj,Jk,Jl,Jm,Jn,Jo,Jp,Jq,Jr,Js,Jt,Ju,Jv,Jw,envA,lensOf,Jx,Jy,Jz,JA,JB,JC,JD,JE,JF,JG,JH,JI,JJ,JK,JL,JM,JN,JO,JP,JQ,JR,JS,JT,JU,JV,JW,↓reduceIte,if_true,reduceCtorEq,Nat.reduceEqDiff,JX,JY,JZ,J0,J1,J2,J3,J4,J5,J6,J7,Ya,Yb,Yc,Yd,Ye,Yf,Int.cast_ofNat_Int,Yg,Yh,Int.reduceLT,Int.reduceLE,Int.reduceEq,Int.reduceAdd,Int.reduceMul,Int.reduceSub,Int.reduceNeg,Yi,Yj,Yk,Yl,Ym,Yn,Yo,Yp,Yq,Yr,Ys,Yt,Yu,Yv,Yw,Yx,Yy,Yz,YA,YB,YC,YD,YE,YF,YG,YH,YI,YJ,YK,YL,YM,YN,YO,YP,YQ,YR,YS,YT]
  | true =>
    simp only [Ja,Jb,Jc,Jd,Je,Jf,Jg,Jh,Ji,Jj,Jk,Jl,Jm,Jn,Jo,Jp,Jq,Jr,Js,Jt,Ju,Jv,Jw,envA,lensOf,Jx,Jy,Jz,JA,JB,JC,JD,JE,JF,JG,JH,JI,JJ,JK,JL,JM,JN,JO,JP,JQ,JR,JS,JT,JU,JV,JW,↓reduceIte,if_true,reduceCtorEq,Nat.reduceEqDiff,JX,JY,JZ,J0,J1,J2,J3,J4,J5,J6,J7,Ya,Yb,Yc,Yd,Ye,Yf,Int.cast_ofNat_Int,Yg,Yh,Int.reduceLT,Int.reduceLE,Int.reduceEq,Int.reduceAdd,Int.reduceMul,Int.reduceSub,Int.reduceNeg,Yi,Yj,Yk,Yl,Ym,Yn,Yo,Yp,Yq,Yr,Ys,Yt,Yu,Yv,Yw,Yx,Yy,Yz,YA,YB,YC,YD,YE,YF,YG,YH,YI,YJ,YK,YL,YM,YN,YO,YP,YQ,YR,YS,YT]
    refine WC.mk (f24 k w n rk vs ho) ?_
    simp only [Ja,Jb,Jc,Jd,Je,Jf,Jg,Jh,Ji,Jj,Jk,Jl,Jm,Jn,Jo,Jp,Jq,Jr,Js,Jt,Ju,Jv,Jw,envA,lensOf,Jx,Jy,Jz,JA,JB,JC,JD,JE,JF,JG,JH,JI,JJ,JK,JL,JM,JN,JO,JP,JQ,JR,JS,JT,JU,JV,JW,↓reduceIte,if_true,reduceCtorEq,Nat.reduceEqDiff,JX,JY,JZ,J0,J1,J2,J3,J4,J5,J6,J7,Ya,Yb,Yc,Yd,Ye,Yf,Int.cast_ofNat_Int,Yg,Yh,Int.reduceLT,Int.reduceLE,Int.reduceEq,Int.reduceAdd,Int.reduceMul,Int.reduceSub,Int.reduceNeg,Yi,Yj,Yk,Yl,Ym,Yn,Yo,Yp,Yq,Yr,Ys,Yt,Yu,Yv,Yw,Yx,Yy,Yz,YA,YB,YC,YD,YE,YF,YG,YH,YI,YJ,YK,YL,YM,YN,YO,YP,YQ,YR,YS,YT]
theorem numsT_append (a b : List Int) : numsT (a ++ b) = numsT a ++ numsT b := by
  induction a with
  | nil => simp [numsT]
  | cons x xs ih => simp [numsT, ih]
set_option maxHeartbeats 1000000 in
theorem f37 (k w n rk : Int) (vs : List Int) (hl : vs.length < 9223372036854775808) : EvF fes 37 [.i k, .i w, .i n, .i rk, LI vs] [.s (if evOk k w n rk vs = true then B (etL k w n rk vs) else ⟨#[]⟩)] := by
  refine EvF.w (fe := e37) (t := t37) rfl rfl ?_
  simp only [Ja,Jb,Jc,Jd,Je,Jf,Jg,Jh,Ji,Jj,Jk,Jl,Jm,Jn,Jo,Jp,Jq,Jr,Js,Jt,Ju,Jv,Jw,envA,lensOf,Jx,Jy,Jz,JA,JB,JC,JD,JE,JF,JG,JH,JI,JJ,JK,JL,JM,JN,JO,JP,JQ,JR,JS,JT,JU,JV,JW,↓reduceIte,if_true,reduceCtorEq,Nat.reduceEqDiff,JX,JY,JZ,J0,J1,J2,J3,J4,J5,J6,J7,Ya,Yb,Yc,Yd,Ye,Yf,Int.cast_ofNat_Int,Yg,Yh,Int.reduceLT,Int.reduceLE,Int.reduceEq,Int.reduceAdd,Int.reduceMul,Int.reduceSub,Int.reduceNeg,Yi,Yj,Yk,Yl,Ym,Yn,Yo,Yp,Yq,Yr,Ys,Yt,Yu,Yv,Yw,Yx,Yy,Yz,YA,YB,YC,YD,YE,YF,YG,YH,YI,YJ,YK,YL,YM,YN,YO,YP,YQ,YR,YS,YT, t37, e37]
  refine WC.mk (f26 k w n rk vs hl) ?_
  cases ho : evOk k w n rk vs with
  | false => simp only [Ja,Jb,Jc,Jd,Je,Jf,Jg,Jh,Ji,Jj,Jk,Jl,Jm,Jn,Jo,Jp,Jq,Jr,Js,Jt,Ju,Jv,Jw,envA,lensOf,Jx,Jy,Jz,JA,JB,JC,JD,JE,JF,JG,JH,JI,JJ,JK,JL,JM,JN,JO,JP,JQ,JR,JS,JT,JU,JV,JW,↓reduceIte,if_true,reduceCtorEq,Nat.reduceEqDiff,JX,JY,JZ,J0,J1,J2,J3,J4,J5,J6,J7,Ya,Yb,Yc,Yd,Ye,Yf,Int.cast_ofNat_Int,Yg,Yh,Int.reduceLT,Int.reduceLE,Int.reduceEq,Int.reduceAdd,Int.reduceMul,Int.reduceSub,Int.reduceNeg,Yi,Yj,Yk,Yl,Ym,Yn,Yo,Yp,Yq,Yr,Ys,Yt,Yu,Yv,Yw,Yx,Yy,Yz,YA,YB,YC,YD,YE,YF,YG,YH,YI,YJ,YK,YL,YM,YN,YO,YP,YQ,YR,YS,YT]
  | true =>
    have w5 : (⟨#[112, 105, 99, 107, 32]⟩ : ByteArray) = B [112, 105, 99, 107, 32] := rfl
    have g5 : (⟨#[103, 114, 111, 119, 32]⟩ : ByteArray) = B [103, 114, 111, 119, 32] := rfl
    have t5 : (⟨#[116, 97, 107, 101, 32]⟩ : ByteArray) = B [116, 97, 107, 101, 32] := rfl
    have v5 : (⟨#[103, 105, 118, 101, 32]⟩ : ByteArray) = B [103, 105, 118, 101, 32] := rfl
    have s1 : (⟨#[32]⟩ : ByteArray) = B [32] := rfl
    rcases evOk_spec ho with ⟨hk, h0, h1, hr⟩ | ⟨hk, h0, h1, hv⟩ | ⟨hk, h0, h1, h2, hv⟩
    · obtain ⟨r1, r2, r3⟩ := reqOk_spec hr
      have k2 : ¬ k = 2 := by omega
      have k3 : ¬ k = 3 := by omega
      have okw := small_ok (n := w) (by omega)
      have iw := itoa_short okw
      have okv : ∀ v ∈ vs, Okn v := fun v hv => small_ok (by have := r3 v hv; omega)
      have hg : (Pr.get [ks] 0).eval [D.l (rowsOf [ks] 2 [D.s (B [116, 97, 107, 101, 32]), D.s (B [103, 105, 118, 101, 32])]), .i (rk - 1)] = some (.s (B ((if rk = 1 then [116, 97, 107, 101] else [103, 105, 118, 101]) ++ [32]))) := by
        rcases r2 with rfl | rfl <;> rfl
      have hpl : (if rk = 1 then [116, 97, 107, 101] else [103, 105, 118, 101] : List UInt8).length = 4 := by split <;> rfl
      have hpe : etL k w n rk vs = (if rk = 1 then [116, 97, 107, 101] else [103, 105, 118, 101] : List UInt8) ++ numsT [w] ++ numsT vs := by
        unfold etL
        rw [if_neg k3, if_neg k2]
      generalize (if rk = 1 then [116, 97, 107, 101] else [103, 105, 118, 101] : List UInt8) = pre at hg hpl hpe
      (repeat (first | simp (disch := omega) only [wrap64, wrapU32, wrapU64, wrapU8] | simp only [Ja,Jb,Jc,Jd,Je,Jf,Jg,Jh,Ji,Jj,Jk,Jl,Jm,Jn,Jo,Jp,Jq,Jr,Js,Jt,Ju,Jv,Jw,envA,lensOf,Jx,Jy,Jz,JA,JB,JC,JD,JE,JF,JG,JH,JI,JJ,JK,JL,JM,JN,JO,JP,JQ,JR,JS,JT,JU,JV,JW,↓reduceIte,if_true,reduceCtorEq,Nat.reduceEqDiff,JX,JY,JZ,J0,J1,J2,J3,J4,J5,J6,J7,Ya,Yb,Yc,Yd,Ye,Yf,Int.cast_ofNat_Int,Yg,Yh,Int.reduceLT,Int.reduceLE,Int.reduceEq,Int.reduceAdd,Int.reduceMul,Int.reduceSub,Int.reduceNeg,Yi,Yj,Yk,Yl,Ym,Yn,Yo,Yp,Yq,Yr,Ys,Yt,Yu,Yv,Yw,Yx,Yy,Yz,YA,YB,YC,YD,YE,YF,YG,YH,YI,YJ,YK,YL,YM,YN,YO,YP,YQ,YR,YS,YT, k2, k3, t5, v5, s1, -YR]))
      rw [if_pos ⟨by omega, by omega⟩]
      simp only [Ja,Jb,Jc,Jd,Je,Jf,Jg,Jh,Ji,Jj,Jk,Jl,Jm,Jn,Jo,Jp,Jq,Jr,Js,Jt,Ju,Jv,Jw,envA,lensOf,Jx,Jy,Jz,JA,JB,JC,JD,JE,JF,JG,JH,JI,JJ,JK,JL,JM,JN,JO,JP,JQ,JR,JS,JT,JU,JV,JW,↓reduceIte,if_true,reduceCtorEq,Nat.reduceEqDiff,JX,JY,JZ,J0,J1,J2,J3,J4,J5,J6,J7,Ya,Yb,Yc,Yd,Ye,Yf,Int.cast_ofNat_Int,Yg,Yh,Int.reduceLT,Int.reduceLE,Int.reduceEq,Int.reduceAdd,Int.reduceMul,Int.reduceSub,Int.reduceNeg,Yi,Yj,Yk,Yl,Ym,Yn,Yo,Yp,Yq,Yr,Ys,Yt,Yu,Yv,Yw,Yx,Yy,Yz,YA,YB,YC,YD,YE,YF,YG,YH,YI,YJ,YK,YL,YM,YN,YO,YP,YQ,YR,YS,YT, -YE, -YR]
      rw [hg]
      simp only [Ja,Jb,Jc,Jd,Je,Jf,Jg,Jh,Ji,Jj,Jk,Jl,Jm,Jn,Jo,Jp,Jq,Jr,Js,Jt,Ju,Jv,Jw,envA,lensOf,Jx,Jy,Jz,JA,JB,JC,JD,JE,JF,JG,JH,JI,JJ,JK,JL,JM,JN,JO,JP,JQ,JR,JS,JT,JU,JV,JW,↓reduceIte,if_true,reduceCtorEq,Nat.reduceEqDiff,JX,JY,JZ,J0,J1,J2,J3,J4,J5,J6,J7,Ya,Yb,Yc,Yd,Ye,Yf,Int.cast_ofNat_Int,Yg,Yh,Int.reduceLT,Int.reduceLE,Int.reduceEq,Int.reduceAdd,Int.reduceMul,Int.reduceSub,Int.reduceNeg,Yi,Yj,Yk,Yl,Ym,Yn,Yo,Yp,Yq,Yr,Ys,Yt,Yu,Yv,Yw,Yx,Yy,Yz,YA,YB,YC,YD,YE,YF,YG,YH,YI,YJ,YK,YL,YM,YN,YO,YP,YQ,YR,YS,YT, -YR]
      refine WC.mk (f36 w okw) ?_
      rw [itB]
      simp only [Ja,Jb,Jc,Jd,Je,Jf,Jg,Jh,Ji,Jj,Jk,Jl,Jm,Jn,Jo,Jp,Jq,Jr,Js,Jt,Ju,Jv,Jw,envA,lensOf,Jx,Jy,Jz,JA,JB,JC,JD,JE,JF,JG,JH,JI,JJ,JK,JL,JM,JN,JO,JP,JQ,JR,JS,JT,JU,JV,JW,↓reduceIte,if_true,reduceCtorEq,Nat.reduceEqDiff,JX,JY,JZ,J0,J1,J2,J3,J4,J5,J6,J7,Ya,Yb,Yc,Yd,Ye,Yf,Int.cast_ofNat_Int,Yg,Yh,Int.reduceLT,Int.reduceLE,Int.reduceEq,Int.reduceAdd,Int.reduceMul,Int.reduceSub,Int.reduceNeg,Yi,Yj,Yk,Yl,Ym,Yn,Yo,Yp,Yq,Yr,Ys,Yt,Yu,Yv,Yw,Yx,Yy,Yz,YA,YB,YC,YD,YE,YF,YG,YH,YI,YJ,YK,YL,YM,YN,YO,YP,YQ,YR,YS,YT, -YR]
      rw [catB (by simp; omega)]
      simp only [Ja,Jb,Jc,Jd,Je,Jf,Jg,Jh,Ji,Jj,Jk,Jl,Jm,Jn,Jo,Jp,Jq,Jr,Js,Jt,Ju,Jv,Jw,envA,lensOf,Jx,Jy,Jz,JA,JB,JC,JD,JE,JF,JG,JH,JI,JJ,JK,JL,JM,JN,JO,JP,JQ,JR,JS,JT,JU,JV,JW,↓reduceIte,if_true,reduceCtorEq,Nat.reduceEqDiff,JX,JY,JZ,J0,J1,J2,J3,J4,J5,J6,J7,Ya,Yb,Yc,Yd,Ye,Yf,Int.cast_ofNat_Int,Yg,Yh,Int.reduceLT,Int.reduceLE,Int.reduceEq,Int.reduceAdd,Int.reduceMul,Int.reduceSub,Int.reduceNeg,Yi,Yj,Yk,Yl,Ym,Yn,Yo,Yp,Yq,Yr,Ys,Yt,Yu,Yv,Yw,Yx,Yy,Yz,YA,YB,YC,YD,YE,YF,YG,YH,YI,YJ,YK,YL,YM,YN,YO,YP,YQ,YR,YS,YT, -YR]
      have e0 : pre ++ [32] ++ Lib.itoa w = pre ++ numsT [w] ++ numsT (vs.take 0) := by
        rw [nums_one, List.take_zero]
        simp [numsT]
      rw [e0]
      have hnl : ∀ i, (numsT (vs.take i)).length ≤ 176 := fun i => by
        have := numsT_length (vs.take i) (fun n hn => okv n (List.mem_of_mem_take hn))
        have : (vs.take i).length ≤ 8 := by simp; omega
        omega
      have hpw : (pre ++ numsT [w]).length ≤ 30 := by
        rw [nums_one]
        simp
        omega
      refine LW.inv (fun i : Nat => i ≤ vs.length) (fun i => [.s (B (pre ++ numsT [w] ++ numsT (vs.take i))), .i i]) (fun i => vs.length - i) (fun i hi => ?_) (a := 0) (Nat.zero_le _) rfl
      by_cases hil : i < vs.length
      · have h3 : (i : Int) < vs.length := by omega
        have h4 : (0 : Int) ≤ i := by omega
        have h5 : ¬ (i : Int) < 0 := by omega
        have okx := okv _ (List.getElem_mem hil)
        have ix := itoa_short okx
        have hn := hnl i
        have hgx : (Pr.get [ki64] 0).eval [LI vs, .i (i : Int)] = some (.i vs[i]) := by
          rw [LI, ev_get, if_neg h5, Int.toNat_natCast, List.getElem?_map, List.getElem?_eq_getElem hil]
          rfl
        (repeat (first | simp (disch := omega) only [wrap64, wrapU32, wrapU64, wrapU8] | simp only [Ja,Jb,Jc,Jd,Je,Jf,Jg,Jh,Ji,Jj,Jk,Jl,Jm,Jn,Jo,Jp,Jq,Jr,Js,Jt,Ju,Jv,Jw,envA,lensOf,Jx,Jy,Jz,JA,JB,JC,JD,JE,JF,JG,JH,JI,JJ,JK,JL,JM,JN,JO,JP,JQ,JR,JS,JT,JU,JV,JW,↓reduceIte,if_true,reduceCtorEq,Nat.reduceEqDiff,JX,JY,JZ,J0,J1,J2,J3,J4,J5,J6,J7,Ya,Yb,Yc,Yd,Ye,Yf,Int.cast_ofNat_Int,Yg,Yh,Int.reduceLT,Int.reduceLE,Int.reduceEq,Int.reduceAdd,Int.reduceMul,Int.reduceSub,Int.reduceNeg,Yi,Yj,Yk,Yl,Ym,Yn,Yo,Yp,Yq,Yr,Ys,Yt,Yu,Yv,Yw,Yx,Yy,Yz,YA,YB,YC,YD,YE,YF,YG,YH,YI,YJ,YK,YL,YM,YN,YO,YP,YQ,YR,YS,YT, h3, h4, s1, len_LI, -YR, -YE]))
        rw [catB (by simp only [List.length_append, List.length_cons, List.length_nil] at hpw ⊢; omega)]
        (repeat (first | simp (disch := omega) only [wrap64, wrapU32, wrapU64, wrapU8] | simp only [Ja,Jb,Jc,Jd,Je,Jf,Jg,Jh,Ji,Jj,Jk,Jl,Jm,Jn,Jo,Jp,Jq,Jr,Js,Jt,Ju,Jv,Jw,envA,lensOf,Jx,Jy,Jz,JA,JB,JC,JD,JE,JF,JG,JH,JI,JJ,JK,JL,JM,JN,JO,JP,JQ,JR,JS,JT,JU,JV,JW,↓reduceIte,if_true,reduceCtorEq,Nat.reduceEqDiff,JX,JY,JZ,J0,J1,J2,J3,J4,J5,J6,J7,Ya,Yb,Yc,Yd,Ye,Yf,Int.cast_ofNat_Int,Yg,Yh,Int.reduceLT,Int.reduceLE,Int.reduceEq,Int.reduceAdd,Int.reduceMul,Int.reduceSub,Int.reduceNeg,Yi,Yj,Yk,Yl,Ym,Yn,Yo,Yp,Yq,Yr,Ys,Yt,Yu,Yv,Yw,Yx,Yy,Yz,YA,YB,YC,YD,YE,YF,YG,YH,YI,YJ,YK,YL,YM,YN,YO,YP,YQ,YR,YS,YT, h3, h4, len_LI, -YR, -YE]))
        rw [hgx]
        simp only [Ja,Jb,Jc,Jd,Je,Jf,Jg,Jh,Ji,Jj,Jk,Jl,Jm,Jn,Jo,Jp,Jq,Jr,Js,Jt,Ju,Jv,Jw,envA,lensOf,Jx,Jy,Jz,JA,JB,JC,JD,JE,JF,JG,JH,JI,JJ,JK,JL,JM,JN,JO,JP,JQ,JR,JS,JT,JU,JV,JW,↓reduceIte,if_true,reduceCtorEq,Nat.reduceEqDiff,JX,JY,JZ,J0,J1,J2,J3,J4,J5,J6,J7,Ya,Yb,Yc,Yd,Ye,Yf,Int.cast_ofNat_Int,Yg,Yh,Int.reduceLT,Int.reduceLE,Int.reduceEq,Int.reduceAdd,Int.reduceMul,Int.reduceSub,Int.reduceNeg,Yi,Yj,Yk,Yl,Ym,Yn,Yo,Yp,Yq,Yr,Ys,Yt,Yu,Yv,Yw,Yx,Yy,Yz,YA,YB,YC,YD,YE,YF,YG,YH,YI,YJ,YK,YL,YM,YN,YO,YP,YQ,YR,YS,YT, -YR]
        refine WC.mk (f36 _ okx) ?_
        rw [itB]
        simp only [Ja,Jb,Jc,Jd,Je,Jf,Jg,Jh,Ji,Jj,Jk,Jl,Jm,Jn,Jo,Jp,Jq,Jr,Js,Jt,Ju,Jv,Jw,envA,lensOf,Jx,Jy,Jz,JA,JB,JC,JD,JE,JF,JG,JH,JI,JJ,JK,JL,JM,JN,JO,JP,JQ,JR,JS,JT,JU,JV,JW,↓reduceIte,if_true,reduceCtorEq,Nat.reduceEqDiff,JX,JY,JZ,J0,J1,J2,J3,J4,J5,J6,J7,Ya,Yb,Yc,Yd,Ye,Yf,Int.cast_ofNat_Int,Yg,Yh,Int.reduceLT,Int.reduceLE,Int.reduceEq,Int.reduceAdd,Int.reduceMul,Int.reduceSub,Int.reduceNeg,Yi,Yj,Yk,Yl,Ym,Yn,Yo,Yp,Yq,Yr,Ys,Yt,Yu,Yv,Yw,Yx,Yy,Yz,YA,YB,YC,YD,YE,YF,YG,YH,YI,YJ,YK,YL,YM,YN,YO,YP,YQ,YR,YS,YT, -YR]
        rw [catB (by simp only [List.length_append, List.length_cons, List.length_nil] at hpw ⊢; omega)]
        (repeat (first | simp (disch := omega) only [wrap64, wrapU32, wrapU64, wrapU8] | simp only [Ja,Jb,Jc,Jd,Je,Jf,Jg,Jh,Ji,Jj,Jk,Jl,Jm,Jn,Jo,Jp,Jq,Jr,Js,Jt,Ju,Jv,Jw,envA,lensOf,Jx,Jy,Jz,JA,JB,JC,JD,JE,JF,JG,JH,JI,JJ,JK,JL,JM,JN,JO,JP,JQ,JR,JS,JT,JU,JV,JW,↓reduceIte,if_true,reduceCtorEq,Nat.reduceEqDiff,JX,JY,JZ,J0,J1,J2,J3,J4,J5,J6,J7,Ya,Yb,Yc,Yd,Ye,Yf,Int.cast_ofNat_Int,Yg,Yh,Int.reduceLT,Int.reduceLE,Int.reduceEq,Int.reduceAdd,Int.reduceMul,Int.reduceSub,Int.reduceNeg,Yi,Yj,Yk,Yl,Ym,Yn,Yo,Yp,Yq,Yr,Ys,Yt,Yu,Yv,Yw,Yx,Yy,Yz,YA,YB,YC,YD,YE,YF,YG,YH,YI,YJ,YK,YL,YM,YN,YO,YP,YQ,YR,YS,YT, h3]))
        refine ⟨i + 1, by omega, by omega, ?_⟩
        rw [List.take_add_one, List.getElem?_eq_getElem hil, Option.toList_some, numsT_snoc]
        simp
      · have h3 : ¬ (i : Int) < vs.length := by omega
        have hie : i = vs.length := by omega
        subst hie
        (repeat (first | simp (disch := omega) only [wrap64, wrapU32, wrapU64, wrapU8] | simp only [Ja,Jb,Jc,Jd,Je,Jf,Jg,Jh,Ji,Jj,Jk,Jl,Jm,Jn,Jo,Jp,Jq,Jr,Js,Jt,Ju,Jv,Jw,envA,lensOf,Jx,Jy,Jz,JA,JB,JC,JD,JE,JF,JG,JH,JI,JJ,JK,JL,JM,JN,JO,JP,JQ,JR,JS,JT,JU,JV,JW,↓reduceIte,if_true,reduceCtorEq,Nat.reduceEqDiff,JX,JY,JZ,J0,J1,J2,J3,J4,J5,J6,J7,Ya,Yb,Yc,Yd,Ye,Yf,Int.cast_ofNat_Int,Yg,Yh,Int.reduceLT,Int.reduceLE,Int.reduceEq,Int.reduceAdd,Int.reduceMul,Int.reduceSub,Int.reduceNeg,Yi,Yj,Yk,Yl,Ym,Yn,Yo,Yp,Yq,Yr,Ys,Yt,Yu,Yv,Yw,Yx,Yy,Yz,YA,YB,YC,YD,YE,YF,YG,YH,YI,YJ,YK,YL,YM,YN,YO,YP,YQ,YR,YS,YT, h3, len_LI, List.take_length, hpe]))
    · have k3 : ¬ k = 3 := by omega
      have okw := small_ok (n := w) (by omega)
      have iw := itoa_short okw
      (repeat (first | simp (disch := omega) only [wrap64, wrapU32, wrapU64, wrapU8] | simp only [Ja,Jb,Jc,Jd,Je,Jf,Jg,Jh,Ji,Jj,Jk,Jl,Jm,Jn,Jo,Jp,Jq,Jr,Js,Jt,Ju,Jv,Jw,envA,lensOf,Jx,Jy,Jz,JA,JB,JC,JD,JE,JF,JG,JH,JI,JJ,JK,JL,JM,JN,JO,JP,JQ,JR,JS,JT,JU,JV,JW,↓reduceIte,if_true,reduceCtorEq,Nat.reduceEqDiff,JX,JY,JZ,J0,J1,J2,J3,J4,J5,J6,J7,Ya,Yb,Yc,Yd,Ye,Yf,Int.cast_ofNat_Int,Yg,Yh,Int.reduceLT,Int.reduceLE,Int.reduceEq,Int.reduceAdd,Int.reduceMul,Int.reduceSub,Int.reduceNeg,Yi,Yj,Yk,Yl,Ym,Yn,Yo,Yp,Yq,Yr,Ys,Yt,Yu,Yv,Yw,Yx,Yy,Yz,YA,YB,YC,YD,YE,YF,YG,YH,YI,YJ,YK,YL,YM,YN,YO,YP,YQ,YR,YS,YT, hk, k3, w5, -YR]))
      refine WC.mk (f36 w okw) ?_
      rw [itB]
      simp only [Ja,Jb,Jc,Jd,Je,Jf,Jg,Jh,Ji,Jj,Jk,Jl,Jm,Jn,Jo,Jp,Jq,Jr,Js,Jt,Ju,Jv,Jw,envA,lensOf,Jx,Jy,Jz,JA,JB,JC,JD,JE,JF,JG,JH,JI,JJ,JK,JL,JM,JN,JO,JP,JQ,JR,JS,JT,JU,JV,JW,↓reduceIte,if_true,reduceCtorEq,Nat.reduceEqDiff,JX,JY,JZ,J0,J1,J2,J3,J4,J5,J6,J7,Ya,Yb,Yc,Yd,Ye,Yf,Int.cast_ofNat_Int,Yg,Yh,Int.reduceLT,Int.reduceLE,Int.reduceEq,Int.reduceAdd,Int.reduceMul,Int.reduceSub,Int.reduceNeg,Yi,Yj,Yk,Yl,Ym,Yn,Yo,Yp,Yq,Yr,Ys,Yt,Yu,Yv,Yw,Yx,Yy,Yz,YA,YB,YC,YD,YE,YF,YG,YH,YI,YJ,YK,YL,YM,YN,YO,YP,YQ,YR,YS,YT, -YR]
      rw [catB (by simp; omega)]
      simp only [Ja,Jb,Jc,Jd,Je,Jf,Jg,Jh,Ji,Jj,Jk,Jl,Jm,Jn,Jo,Jp,Jq,Jr,Js,Jt,Ju,Jv,Jw,envA,lensOf,Jx,Jy,Jz,JA,JB,JC,JD,JE,JF,JG,JH,JI,JJ,JK,JL,JM,JN,JO,JP,JQ,JR,JS,JT,JU,JV,JW,↓reduceIte,if_true,reduceCtorEq,Nat.reduceEqDiff,JX,JY,JZ,J0,J1,J2,J3,J4,J5,J6,J7,Ya,Yb,Yc,Yd,Ye,Yf,Int.cast_ofNat_Int,Yg,Yh,Int.reduceLT,Int.reduceLE,Int.reduceEq,Int.reduceAdd,Int.reduceMul,Int.reduceSub,Int.reduceNeg,Yi,Yj,Yk,Yl,Ym,Yn,Yo,Yp,Yq,Yr,Ys,Yt,Yu,Yv,Yw,Yx,Yy,Yz,YA,YB,YC,YD,YE,YF,YG,YH,YI,YJ,YK,YL,YM,YN,YO,YP,YQ,YR,YS,YT, etL, if_neg k3, if_pos hk, nums_one]
    · have k2 : ¬ k = 2 := by omega
      have okn := small_ok (n := n) (by omega)
      have iw := itoa_short okn
      (repeat (first | simp (disch := omega) only [wrap64, wrapU32, wrapU64, wrapU8] | simp only [Ja,Jb,Jc,Jd,Je,Jf,Jg,Jh,Ji,Jj,Jk,Jl,Jm,Jn,Jo,Jp,Jq,Jr,Js,Jt,Ju,Jv,Jw,envA,lensOf,Jx,Jy,Jz,JA,JB,JC,JD,JE,JF,JG,JH,JI,JJ,JK,JL,JM,JN,JO,JP,JQ,JR,JS,JT,JU,JV,JW,↓reduceIte,if_true,reduceCtorEq,Nat.reduceEqDiff,JX,JY,JZ,J0,J1,J2,J3,J4,J5,J6,J7,Ya,Yb,Yc,Yd,Ye,Yf,Int.cast_ofNat_Int,Yg,Yh,Int.reduceLT,Int.reduceLE,Int.reduceEq,Int.reduceAdd,Int.reduceMul,Int.reduceSub,Int.reduceNeg,Yi,Yj,Yk,Yl,Ym,Yn,Yo,Yp,Yq,Yr,Ys,Yt,Yu,Yv,Yw,Yx,Yy,Yz,YA,YB,YC,YD,YE,YF,YG,YH,YI,YJ,YK,YL,YM,YN,YO,YP,YQ,YR,YS,YT, k2, hk, g5, -YR]))
      refine WC.mk (f36 n okn) ?_
      rw [itB]
      simp only [Ja,Jb,Jc,Jd,Je,Jf,Jg,Jh,Ji,Jj,Jk,Jl,Jm,Jn,Jo,Jp,Jq,Jr,Js,Jt,Ju,Jv,Jw,envA,lensOf,Jx,Jy,Jz,JA,JB,JC,JD,JE,JF,JG,JH,JI,JJ,JK,JL,JM,JN,JO,JP,JQ,JR,JS,JT,JU,JV,JW,↓reduceIte,if_true,reduceCtorEq,Nat.reduceEqDiff,JX,JY,JZ,J0,J1,J2,J3,J4,J5,J6,J7,Ya,Yb,Yc,Yd,Ye,Yf,Int.cast_ofNat_Int,Yg,Yh,Int.reduceLT,Int.reduceLE,Int.reduceEq,Int.reduceAdd,Int.reduceMul,Int.reduceSub,Int.reduceNeg,Yi,Yj,Yk,Yl,Ym,Yn,Yo,Yp,Yq,Yr,Ys,Yt,Yu,Yv,Yw,Yx,Yy,Yz,YA,YB,YC,YD,YE,YF,YG,YH,YI,YJ,YK,YL,YM,YN,YO,YP,YQ,YR,YS,YT, -YR]
      rw [catB (by simp; omega)]
      simp only [Ja,Jb,Jc,Jd,Je,Jf,Jg,Jh,Ji,Jj,Jk,Jl,Jm,Jn,Jo,Jp,Jq,Jr,Js,Jt,Ju,Jv,Jw,envA,lensOf,Jx,Jy,Jz,JA,JB,JC,JD,JE,JF,JG,JH,JI,JJ,JK,JL,JM,JN,JO,JP,JQ,JR,JS,JT,JU,JV,JW,↓reduceIte,if_true,reduceCtorEq,Nat.reduceEqDiff,JX,JY,JZ,J0,J1,J2,J3,J4,J5,J6,J7,Ya,Yb,Yc,Yd,Ye,Yf,Int.cast_ofNat_Int,Yg,Yh,Int.reduceLT,Int.reduceLE,Int.reduceEq,Int.reduceAdd,Int.reduceMul,Int.reduceSub,Int.reduceNeg,Yi,Yj,Yk,Yl,Ym,Yn,Yo,Yp,Yq,Yr,Ys,Yt,Yu,Yv,Yw,Yx,Yy,Yz,YA,YB,YC,YD,YE,YF,YG,YH,YI,YJ,YK,YL,YM,YN,YO,YP,YQ,YR,YS,YT, etL, if_pos hk, nums_one]
end Go.Proofs.YtdjfhggmcigahaaDoor.EBack
