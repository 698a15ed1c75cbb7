/- Lists of whole numbers: what the laws' own helpers reckon, for every table. -/
import Derived.Test.YtponfomfcmlfmaaB34
set_option linter.unusedVariables false
set_option linter.unusedSimpArgs false
namespace Go.BH
open Go.RowKit
def LI (zs : List Int) : D := .l (zs.map .i)
def LN (xs : List Nat) : D := .l (xs.map fun (n : Nat) => D.i (n : Int))
theorem LN_LI (xs : List Nat) : LN xs = LI (xs.map fun (n : Nat) => (n : Int)) := by simp [LN, LI]
theorem copy_step {ys : List D} {i n : Nat} {z y : D} {f : D → D} (hn : ys.length = n) (hi : i < n) (hy : ys[i]? = some y) (hf : f z = y) : (ys.take i ++ List.replicate (n - i) z).modify i f = ys.take (i + 1) ++ List.replicate (n - (i + 1)) z := by
  have ht : (ys.take i).length = i := by simp; omega
  have e1 : List.replicate (n - i) z = z :: List.replicate (n - (i + 1)) z := by
    rw [show n - i = (n - (i + 1)) + 1 by omega, List.replicate_succ]
  have e2 : ys.take (i + 1) = ys.take i ++ [y] := by
    rw [List.take_add_one, hy]
    rfl
  rw [e1, e2, List.append_assoc]
  have : ∀ (a b : List D), a.length = i → (a ++ z :: b).modify i f = a ++ f z :: b := by
    intro a b ha
    subst ha
    clear hi hy ht e1 e2
    induction a with
    | nil => rfl
    | cons x a ih => simp [ih]
  rw [this _ _ ht, hf]
  rfl
def szK : IntKind → Nat
  | .i8 => 1 | .u8 => 1 | .i16 => 2 | .u16 => 2 | .i32 => 4 | .u32 => 4 | .i64 => 8 | .u64 => 8
/-- toXS: a list of its own. -/
def copyT (k : IntKind) : Tr :=
(.nd (.pr (.len [.int k]) [(.v 0)])
(.nd (.pr (.mkz [.int k] .i64 (szK k) [(.i 0)]) [(.v 1)])
(.nd (.pr (.len [.int k]) [(.v 2)])
(.blk 2 [(.sl [.int k])]
 (.loop [.int .i64, (.sl [.int k])] [(.k (.i 0)), (.v 2)]
  (.nd (.pr (.len [.int k]) [(.v 5)])
  (.nd (.pr (.len [.int k]) [(.v 0)])
  (.nd (.pr (.cmp .lss .i64) [(.v 4), (.v 7)])
  (.ite (.v 8)
   (.blk 3 [(.sl [.int k])]
    (.nd (.pr (.len [.int k]) [(.v 0)])
    (.nd (.pr (.ixc .i64) [(.v 4), (.v 9)])
    (.nd (.pr (.get [.int k] 0) [(.v 0), (.v 10)])
    (.nd (.pr (.ixc .i64) [(.v 4), (.v 6)])
    (.nd (.pr (.set [.int k] 0) [(.v 5), (.v 12), (.v 11)])
    (.out 0 [(.v 13)]))))))
   (.nd (.pr (.len [.int k]) [(.v 9)])
   (.nd (.pr (.bin .add .i64) [(.v 4), (.k (.i 1))])
   (.out 0 [(.v 11), (.v 9)]))))
   (.out 2 [(.v 5)]))))))
(.nd (.pr (.len [.int k]) [(.v 4)])
(.out 1 [(.v 4)]))))))
section
variable {fes : List Fe} {f : Nat} {fe : Fe} {k : IntKind}
theorem copy_ok (h1 : fes[f]? = some fe) (h2 : fe.tr = some (copyT k)) (h3 : fe.sig.H = []) (zs : List Int) (h : zs.length < 281474976710656 / 8) : EvF fes f [LI zs] [LI zs] := by
  refine EvF.w h1 h2 ?_
  rw [show envA fe.sig [LI zs] = [LI zs] by rw [envA, h3]; rfl]
  have hk : szK k ≤ 8 := by cases k <;> decide
  have hb : szK k * zs.length ≤ 281474976710656 := by
    have := Nat.mul_le_mul_right zs.length hk
    omega
  have hb2 : (zs.length : Int) < 9223372036854775808 := by omega
  simp [copyT, LI, hb, hb2]
  refine LW.cnt zs.length (fun i => [.i i, .l ((zs.map D.i).take i ++ List.replicate (zs.length - i) (.i 0))]) (fun i hl => ?_) ?_ (by simp)
  · have h1 : ¬ ((i : Int) < 0) := by omega
    have h2 : (i : Int) < zs.length := by omega
    simp [hl, h1, h2]
    refine ⟨by omega, ?_, ?_⟩
    · rw [wrap64 (by omega)]
    · have := copy_step (ys := zs.map D.i) (i := i) (n := zs.length) (z := .i 0) (y := .i zs[i]) (f := setRow [.int k] 0 (.i zs[i])) (by simp) hl (by simp [hl]) (by simp)
      simpa using this
  · simp
    exact List.take_of_length_le (by simp)
end
/-- eqXS. -/
def eqT (k : IntKind) : Tr :=
(.nd (.pr (.len [.int k]) [(.v 0)])
(.nd (.pr (.len [.int k]) [(.v 1)])
(.nd (.pr (.cmp .neq .i64) [(.v 2), (.v 3)])
(.ite (.v 4)
 (.out 1 [(.k (.b false))])
 (.blk 2 []
  (.loop [.int .i64] [(.k (.i 0))]
   (.nd (.pr (.len [.int k]) [(.v 0)])
   (.nd (.pr (.cmp .lss .i64) [(.v 5), (.v 6)])
   (.ite (.v 7)
    (.blk 3 []
     (.nd (.pr (.len [.int k]) [(.v 0)])
     (.nd (.pr (.ixc .i64) [(.v 5), (.v 8)])
     (.nd (.pr (.get [.int k] 0) [(.v 0), (.v 9)])
     (.nd (.pr (.len [.int k]) [(.v 1)])
     (.nd (.pr (.ixc .i64) [(.v 5), (.v 11)])
     (.nd (.pr (.get [.int k] 0) [(.v 1), (.v 12)])
     (.nd (.pr (.cmp .neq k) [(.v 10), (.v 13)])
     (.ite (.v 14)
      (.out 1 [(.k (.b false))])
      (.out 0 [])))))))))
    (.nd (.pr (.bin .add .i64) [(.v 5), (.k (.i 1))])
    (.out 0 [(.v 8)])))
    (.out 2 [])))))
 (.out 1 [(.k (.b true))]))))))
section
variable {fes : List Fe} {f : Nat} {fe : Fe} {k : IntKind}
theorem eq_ok (h1 : fes[f]? = some fe) (h2 : fe.tr = some (eqT k)) (h3 : fe.sig.H = []) (xs ys : List Int) (hx : xs.length < 9223372036854775808) (hy : ys.length < 9223372036854775808) : EvF fes f [LI xs, LI ys] [.b (decide (xs = ys))] := by
  refine EvF.w h1 h2 ?_
  rw [show envA fe.sig [LI xs, LI ys] = [LI xs, LI ys] by rw [envA, h3]; rfl]
  simp only [eqT]
  simp [LI]
  by_cases hlen : xs.length = ys.length
  · simp [hlen]
    refine LW.inv (fun i : Nat => i ≤ xs.length ∧ xs.take i = ys.take i) (fun i => [.i i]) (fun i => xs.length - i) (fun i ⟨hi, hp⟩ => ?_) (a := 0) (by simp) rfl
    by_cases hl : i < xs.length
    · have hl' : i < ys.length := by omega
      have h1 : ¬ ((i : Int) < 0) := by omega
      have h2 : (i : Int) < xs.length := by omega
      have h2' : (i : Int) < ys.length := by omega
      simp [hl, hl', h1, h2, h2']
      by_cases he : xs[i] = ys[i]
      · simp [he]
        refine ⟨i + 1, ⟨by omega, ?_⟩, by omega, ?_⟩
        · rw [List.take_add_one, List.take_add_one, hp, List.getElem?_eq_getElem hl, List.getElem?_eq_getElem hl', he]
        · rw [wrap64 (by omega)]
          simp
      · simp [he]
        intro g
        subst g
        exact he rfl
    · have h2 : ¬ (i : Int) < xs.length := by omega
      obtain rfl : i = xs.length := by omega
      simp [h2]
      rw [List.take_length, hlen, List.take_length] at hp
      exact hp
  · have : ¬ (xs.length : Int) = ys.length := by omega
    simp [this]
    intro g
    exact hlen (by rw [g])
end
def mkL (f : Int → Int) (n : Nat) : List Int := (List.range n).map fun (j : Nat) => f ((j : Int) + 1)
theorem mkL_len (f : Int → Int) (n : Nat) : (mkL f n).length = n := by simp [mkL]
theorem mkL_succ (f : Int → Int) (n : Nat) : mkL f (n + 1) = mkL f n ++ [f (n + 1)] := by simp [mkL, List.range_succ]
theorem mkL_get {f : Int → Int} {n i : Nat} (h : i < n) : (mkL f n)[i]? = some (f (i + 1)) := by simp [mkL, h]
/-- The first i are marked. -/
def mixL (f : Int → Int) (zs : List Int) (i : Nat) : List Int := mkL f i ++ zs.drop i
theorem mixL_len {f : Int → Int} {zs : List Int} {i : Nat} (h : i ≤ zs.length) : (mixL f zs i).length = zs.length := by
  simp [mixL, mkL_len]
  omega
theorem mixL_zero {f : Int → Int} {zs : List Int} : mixL f zs 0 = zs := by simp [mixL, mkL]
theorem mixL_all {f : Int → Int} {zs : List Int} : mixL f zs zs.length = mkL f zs.length := by simp [mixL]
theorem mark_step {zs : List Int} {f : Int → Int} {i : Nat} (hi : i < zs.length) {g : D → D} (hg : ∀ z : Int, g (.i z) = .i (f (i + 1))) : ((mixL f zs i).map D.i).modify i g = (mixL f zs (i + 1)).map D.i := by
  unfold mixL
  rw [List.drop_eq_getElem_cons hi, mkL_succ, List.map_append, List.map_cons, List.append_assoc, List.map_append]
  have : ∀ (a b : List D) (z : D), a.length = i → (a ++ z :: b).modify i g = a ++ g z :: b := by
    intro a b z ha
    subst ha
    clear hi hg
    induction a with
    | nil => rfl
    | cons x a ih => simp [ih]
  rw [this _ _ _ (by simp [mkL_len]), hg]
  simp
/-- markXS, for kinds that are not i64. -/
def markT (k : IntKind) : Tr :=
(.blk 2 [.int .i64, (.sl [.int k])]
 (.loop [.int .i64, .int .i64, (.sl [.int k])] [(.v 1), (.k (.i 0)), (.v 0)]
  (.nd (.pr (.len [.int k]) [(.v 5)])
  (.nd (.pr (.cmp .lss .i64) [(.v 4), (.v 6)])
  (.ite (.v 7)
   (.blk 3 [.int .i64, (.sl [.int k])]
    (.nd (.pr (.conv .i64 k) [(.v 3)])
    (.nd (.pr (.ixc .i64) [(.v 4), (.v 6)])
    (.nd (.pr (.set [.int k] 0) [(.v 5), (.v 9), (.v 8)])
    (.nd (.pr (.bin .add .i64) [(.v 3), (.k (.i 1))])
    (.out 0 [(.v 11), (.v 10)])))))
   (.nd (.pr (.len [.int k]) [(.v 9)])
   (.nd (.pr (.bin .add .i64) [(.v 4), (.k (.i 1))])
   (.out 0 [(.v 8), (.v 11), (.v 9)]))))
   (.out 2 [(.v 3), (.v 5)])))))
(.nd (.pr (.len [.int k]) [(.v 4)])
(.out 1 [(.v 3), (.v 4)])))
/-- markIntS. -/
def markT64 : Tr :=
(.blk 2 [.int .i64, (.sl [.int .i64])]
 (.loop [.int .i64, .int .i64, (.sl [.int .i64])] [(.v 1), (.k (.i 0)), (.v 0)]
  (.nd (.pr (.len [.int .i64]) [(.v 5)])
  (.nd (.pr (.cmp .lss .i64) [(.v 4), (.v 6)])
  (.ite (.v 7)
   (.blk 3 [.int .i64, (.sl [.int .i64])]
    (.nd (.pr (.ixc .i64) [(.v 4), (.v 6)])
    (.nd (.pr (.set [.int .i64] 0) [(.v 5), (.v 8), (.v 3)])
    (.nd (.pr (.bin .add .i64) [(.v 3), (.k (.i 1))])
    (.out 0 [(.v 10), (.v 9)]))))
   (.nd (.pr (.len [.int .i64]) [(.v 9)])
   (.nd (.pr (.bin .add .i64) [(.v 4), (.k (.i 1))])
   (.out 0 [(.v 8), (.v 11), (.v 9)]))))
   (.out 2 [(.v 3), (.v 5)])))))
(.nd (.pr (.len [.int .i64]) [(.v 4)])
(.out 1 [(.v 3), (.v 4)])))
/-- heldXS, for kinds that are not i64. -/
def heldT (k : IntKind) : Tr :=
(.blk 2 [.int .i64]
 (.loop [.int .i64, .int .i64] [(.v 1), (.k (.i 0))]
  (.nd (.pr (.len [.int k]) [(.v 0)])
  (.nd (.pr (.cmp .lss .i64) [(.v 3), (.v 4)])
  (.ite (.v 5)
   (.blk 3 [.int .i64]
    (.nd (.pr (.len [.int k]) [(.v 0)])
    (.nd (.pr (.ixc .i64) [(.v 3), (.v 6)])
    (.nd (.pr (.get [.int k] 0) [(.v 0), (.v 7)])
    (.nd (.pr (.conv .i64 k) [(.v 2)])
    (.nd (.pr (.cmp .neq k) [(.v 8), (.v 9)])
    (.ite (.v 10)
     (.out 1 [(.k (.i (-1)))])
     (.nd (.pr (.bin .add .i64) [(.v 2), (.k (.i 1))])
     (.out 0 [(.v 11)]))))))))
   (.nd (.pr (.bin .add .i64) [(.v 3), (.k (.i 1))])
   (.out 0 [(.v 6), (.v 7)])))
   (.out 2 [(.v 2)])))))
(.out 1 [(.v 2)]))
def heldT64 : Tr :=
(.blk 2 [.int .i64]
 (.loop [.int .i64, .int .i64] [(.v 1), (.k (.i 0))]
  (.nd (.pr (.len [.int .i64]) [(.v 0)])
  (.nd (.pr (.cmp .lss .i64) [(.v 3), (.v 4)])
  (.ite (.v 5)
   (.blk 3 [.int .i64]
    (.nd (.pr (.len [.int .i64]) [(.v 0)])
    (.nd (.pr (.ixc .i64) [(.v 3), (.v 6)])
    (.nd (.pr (.get [.int .i64] 0) [(.v 0), (.v 7)])
    (.nd (.pr (.cmp .neq .i64) [(.v 8), (.v 2)])
    (.ite (.v 9)
     (.out 1 [(.k (.i (-1)))])
     (.nd (.pr (.bin .add .i64) [(.v 2), (.k (.i 1))])
     (.out 0 [(.v 10)])))))))
   (.nd (.pr (.bin .add .i64) [(.v 3), (.k (.i 1))])
   (.out 0 [(.v 6), (.v 7)])))
   (.out 2 [(.v 2)])))))
(.out 1 [(.v 2)]))
section
variable {fes : List Fe} {f : Nat} {fe : Fe} {k : IntKind}
theorem mark_ok (h1 : fes[f]? = some fe) (h2 : fe.tr = some (markT k)) (h3 : ∀ a b, envA fe.sig [.l a, b] = [.l a, b, .i a.length]) (zs : List Int) (hz : zs.length < 4611686018427387904) : EvF fes f [LI zs, .i 1] [.i (zs.length + 1), LI (mkL k.wrap zs.length)] := by
  refine EvF.w h1 h2 ?_
  rw [LI, h3]
  simp only [markT]
  simp [LI]
  refine LW.cnt zs.length (fun i => [.i (i + 1), .i i, .l ((mixL k.wrap zs i).map D.i)]) (fun i hl => ?_) ?_ (by simp [mixL_zero])
  · have hlen := mixL_len (f := k.wrap) (Nat.le_of_lt hl)
    have h2 : (i : Int) < zs.length := by omega
    have hs := mark_step (zs := zs) (f := k.wrap) (g := setRow [.int k] 0 (.i (k.wrap (i + 1)))) hl (fun z => by simp)
    generalize mixL k.wrap zs i = L at hlen hs
    simp [hlen, h2, hs]
    refine ⟨?_, ?_⟩ <;> rw [wrap64 (by omega)]
  · simp [mixL_all, mkL_len]
theorem mark64_ok (h1 : fes[f]? = some fe) (h2 : fe.tr = some markT64) (h3 : ∀ a b, envA fe.sig [.l a, b] = [.l a, b, .i a.length]) (zs : List Int) (hz : zs.length < 4611686018427387904) : EvF fes f [LI zs, .i 1] [.i (zs.length + 1), LI (mkL id zs.length)] := by
  refine EvF.w h1 h2 ?_
  rw [LI, h3]
  simp only [markT64]
  simp [LI]
  refine LW.cnt zs.length (fun i => [.i (i + 1), .i i, .l ((mixL id zs i).map D.i)]) (fun i hl => ?_) ?_ (by simp [mixL_zero])
  · have hlen := mixL_len (f := id) (Nat.le_of_lt hl)
    have h2 : (i : Int) < zs.length := by omega
    have hs := mark_step (zs := zs) (f := id) (g := setRow [.int .i64] 0 (.i (i + 1))) hl (fun z => by simp)
    generalize mixL id zs i = L at hlen hs
    simp [hlen, h2, hs]
    refine ⟨?_, ?_⟩ <;> rw [wrap64 (by omega)]
  · simp [mixL_all, mkL_len]
theorem held_ok (h1 : fes[f]? = some fe) (h2 : fe.tr = some (heldT k)) (h3 : fe.sig.H = []) (n : Nat) (hz : n < 4611686018427387904) : EvF fes f [LI (mkL k.wrap n), .i 1] [.i (n + 1)] := by
  refine EvF.w h1 h2 ?_
  rw [show envA fe.sig [LI (mkL k.wrap n), .i 1] = [LI (mkL k.wrap n), .i 1] by rw [envA, h3]; rfl]
  simp only [heldT]
  simp [LI]
  refine LW.cnt n (fun i => [.i (i + 1), .i i]) (fun i hl => ?_) ?_ (by simp)
  · have h1 : ¬ ((i : Int) < 0) := by omega
    have h2 : (i : Int) < n := by omega
    simp [mkL_len, h1, h2, mkL_get hl]
    refine ⟨?_, ?_⟩ <;> rw [wrap64 (by omega)]
  · simp [mkL_len]
theorem held64_ok (h1 : fes[f]? = some fe) (h2 : fe.tr = some heldT64) (h3 : fe.sig.H = []) (n : Nat) (hz : n < 4611686018427387904) : EvF fes f [LI (mkL id n), .i 1] [.i (n + 1)] := by
  refine EvF.w h1 h2 ?_
  rw [show envA fe.sig [LI (mkL id n), .i 1] = [LI (mkL id n), .i 1] by rw [envA, h3]; rfl]
  simp only [heldT64]
  simp [LI]
  refine LW.cnt n (fun i => [.i (i + 1), .i i]) (fun i hl => ?_) ?_ (by simp)
  · have h1 : ¬ ((i : Int) < 0) := by omega
    have h2 : (i : Int) < n := by omega
    simp [mkL_len, h1, h2, mkL_get hl]
    refine ⟨?_, ?_⟩ <;> rw [wrap64 (by omega)]
  · simp [mkL_len]
end
/-! ### operations on lists of whole numbers -/
theorem natLt0 (n : Nat) : ((n : Int) < 0) = False := propext ⟨fun h => by omega, fun h => h.elim⟩
theorem len_LN {e : List CK} {xs : List Nat} : (Pr.len e).eval [LN xs] = some (.i xs.length) := by simp [LN]
theorem len_LI {e : List CK} {xs : List Int} : (Pr.len e).eval [LI xs] = some (.i xs.length) := by simp [LI]
theorem get_LN {k : IntKind} {xs : List Nat} {i : Nat} (h : i < xs.length) : (Pr.get [.int k] 0).eval [LN xs, .i (i : Int)] = some (.i (xs[i] : Int)) := by simp [LN, h]
theorem get_LI {k : IntKind} {xs : List Int} {i : Nat} (h : i < xs.length) : (Pr.get [.int k] 0).eval [LI xs, .i (i : Int)] = some (.i xs[i]) := by simp [LI, h]
theorem ixc_N {k : IntKind} {i n : Nat} (h : i < n) : (Pr.ixc k).eval [.i (i : Int), .i (n : Int)] = some (.i (i : Int)) := by
  rw [ev_ixc, if_pos (by omega)]
theorem app_LN {k : IntKind} {b : Nat} {xs ys : List Nat} (hb : b ≤ 8) (h : xs.length + ys.length < 17592186044416) : (Pr.app [.int k] b).eval [LN xs, LN ys] = some (LN (xs ++ ys)) := by
  have := Nat.mul_le_mul_left (xs.length + ys.length) hb
  rw [LN, LN, ev_app, if_pos (by simp only [List.length_map]; omega)]
  simp [LN]
theorem app_LI {k : IntKind} {b : Nat} {xs ys : List Int} (hb : b ≤ 8) (h : xs.length + ys.length < 17592186044416) : (Pr.app [.int k] b).eval [LI xs, LI ys] = some (LI (xs ++ ys)) := by
  have := Nat.mul_le_mul_left (xs.length + ys.length) hb
  rw [LI, LI, ev_app, if_pos (by simp only [List.length_map]; omega)]
  simp [LI]
theorem app_LN1 {k : IntKind} {b : Nat} {xs : List Nat} {n : Nat} (hb : b ≤ 8) (h : xs.length < 17592186044415) : (Pr.app [.int k] b).eval [LN xs, .l [.i (n : Int)]] = some (LN (xs ++ [n])) := app_LN (ys := [n]) hb (by simp; omega)
theorem app_LI1 {k : IntKind} {b : Nat} {xs : List Int} {n : Int} (hb : b ≤ 8) (h : xs.length < 17592186044415) : (Pr.app [.int k] b).eval [LI xs, .l [.i n]] = some (LI (xs ++ [n])) := app_LI (ys := [n]) hb (by simp; omega)
theorem mk_LN {k : IntKind} {n : Nat} : (Pr.mk [.int k] 1).eval [.i (n : Int)] = some (LN [n]) := rfl
theorem mk_LI {k : IntKind} {n : Int} : (Pr.mk [.int k] 1).eval [.i n] = some (LI [n]) := rfl
theorem cut_LN {k : IntKind} {k1 k2 : IntKind} {xs : List Nat} {i j : Nat} (h1 : i ≤ j) (h2 : j ≤ xs.length) : (Pr.cut [.int k] k1 k2).eval [LN xs, .i (i : Int), .i (j : Int)] = some (LN ((xs.drop i).take (j - i))) := by
  rw [LN, ev_cut, if_pos (by simp only [List.length_map]; omega)]
  simp [LN]
theorem cut_LI {k : IntKind} {k1 k2 : IntKind} {xs : List Int} {i j : Nat} (h1 : i ≤ j) (h2 : j ≤ xs.length) : (Pr.cut [.int k] k1 k2).eval [LI xs, .i (i : Int), .i (j : Int)] = some (LI ((xs.drop i).take (j - i))) := by
  rw [LI, ev_cut, if_pos (by simp only [List.length_map]; omega)]
  simp [LI]
theorem LI_nil : D.l [] = LI [] := rfl
theorem LN_nil : D.l [] = LN [] := rfl
/-! ### bytes as text -/
def txt (xs : List Nat) : ByteArray := bytesOf (xs.map fun (n : Nat) => D.i (n : Int))
theorem bstr_LN {xs : List Nat} : Pr.bstr.eval [LN xs] = some (.s (txt xs)) := rfl
theorem bytesOf_toList (xs : List D) : (bytesOf xs).data.toList = xs.map fun d => UInt8.ofNat d.nat := by
  have key : ∀ (xs : List D) (a : ByteArray), (xs.foldl (fun r d => r.push (UInt8.ofNat d.nat)) a).data.toList = a.data.toList ++ xs.map fun d => UInt8.ofNat d.nat := by
    intro xs
    induction xs with
    | nil => intro a; simp
    | cons x r ih =>
      intro a
      rw [List.foldl_cons, ih]
      simp
  rw [bytesOf, key]
  rfl
theorem txt_inj {xs ys : List Nat} (hx : ∀ n ∈ xs, n < 256) (hy : ∀ n ∈ ys, n < 256) (h : txt xs = txt ys) : xs = ys := by
  have h := congrArg (fun b : ByteArray => b.data.toList) h
  simp only [txt, bytesOf_toList, List.map_map] at h
  have key : ∀ (xs ys : List Nat), (∀ n ∈ xs, n < 256) → (∀ n ∈ ys, n < 256) → List.map ((fun d => UInt8.ofNat d.nat) ∘ fun (n : Nat) => D.i ↑n) xs = List.map ((fun d => UInt8.ofNat d.nat) ∘ fun (n : Nat) => D.i ↑n) ys → xs = ys := by
    intro xs
    induction xs with
    | nil =>
      intro ys _ _ h
      cases ys with
      | nil => rfl
      | cons y s => simp at h
    | cons x r ih =>
      intro ys hx hy h
      cases ys with
      | nil => simp at h
      | cons y s =>
        simp only [List.map_cons, List.cons.injEq, Function.comp] at h
        have h1 := congrArg UInt8.toNat h.1
        have hx1 := hx x List.mem_cons_self
        have hy1 := hy y List.mem_cons_self
        simp [D.nat, D.int] at h1
        rw [Nat.mod_eq_of_lt hx1, Nat.mod_eq_of_lt hy1] at h1
        rw [h1, ih s (fun n hn => hx n (List.mem_cons_of_mem _ hn)) (fun n hn => hy n (List.mem_cons_of_mem _ hn)) h.2]
  exact key xs ys hx hy h
theorem toList_eq {a b : ByteArray} : (a.toList == b.toList) = decide (a = b) := by
  by_cases h : a = b
  · subst h; simp
  · have : ¬ a.toList = b.toList := fun g => h (by
      have e : ∀ c : ByteArray, c.toList = c.data.toList := fun c => by
        exact ByteArray.toList_eq c
      rw [e, e] at g
      exact ByteArray.ext (Array.toList_inj.1 g))
    simp [h, this]
theorem neqS {a b : ByteArray} : (Pr.cmpS .neq).eval [.s a, .s b] = some (.b (!decide (a = b))) := by
  rw [ev_cmpS]
  simp only [cmpT, toList_eq]
  rfl
theorem eqlS {a b : ByteArray} : (Pr.cmpS .eql).eval [.s a, .s b] = some (.b (decide (a = b))) := by
  rw [ev_cmpS]
  simp only [cmpT, toList_eq]
  rfl
theorem txt_eq {xs ys : List Nat} (hx : ∀ n ∈ xs, n < 256) (hy : ∀ n ∈ ys, n < 256) : (txt xs = txt ys) = (xs = ys) := propext ⟨txt_inj hx hy, fun h => by rw [h]⟩
/-! ### bits of whole numbers -/
theorem ofInt_nat {w x : Nat} (h : x < 2 ^ w) : (BitVec.ofInt w (x : Int)).toNat = x := by
  rw [BitVec.toNat_ofInt]
  have h0 : (0 : Nat) < 2 ^ w := Nat.two_pow_pos w
  rw [show ((2 ^ w : Nat) : Int) = ((2 ^ w : Nat) : Int) from rfl, ← Int.natCast_emod, Int.toNat_natCast, Nat.mod_eq_of_lt h]
theorem bor64 {x y : Nat} (hx : x < 9223372036854775808) (hy : y < 9223372036854775808) : (Pr.bin .or .i64).eval [.i (x : Int), .i (y : Int)] = some (.i ((x ||| y : Nat) : Int)) := by
  have h := Nat.or_lt_two_pow (n := 63) hx hy
  rw [ev_bor, BitVec.toNat_or, show IntKind.i64.bits = 64 from rfl, ofInt_nat (by omega), ofInt_nat (by omega), wrap64N (by omega)]
theorem bor32 {x y : Nat} (hx : x < 4294967296) (hy : y < 4294967296) : (Pr.bin .or .u32).eval [.i (x : Int), .i (y : Int)] = some (.i ((x ||| y : Nat) : Int)) := by
  have h := Nat.or_lt_two_pow (n := 32) hx hy
  rw [ev_bor, BitVec.toNat_or, show IntKind.u32.bits = 32 from rfl, ofInt_nat (by omega), ofInt_nat (by omega), wrapU32N (by omega)]
theorem band64 {x y : Nat} (hx : x < 9223372036854775808) (hy : y < 9223372036854775808) : (Pr.bin .and .i64).eval [.i (x : Int), .i (y : Int)] = some (.i ((x &&& y : Nat) : Int)) := by
  have h := Nat.and_lt_two_pow x (n := 63) hy
  rw [ev_band, BitVec.toNat_and, show IntKind.i64.bits = 64 from rfl, ofInt_nat (by omega), ofInt_nat (by omega), wrap64N (by omega)]
theorem band32 {x y : Nat} (hx : x < 4294967296) (hy : y < 4294967296) : (Pr.bin .and .u32).eval [.i (x : Int), .i (y : Int)] = some (.i ((x &&& y : Nat) : Int)) := by
  have h := Nat.and_lt_two_pow x (n := 32) hy
  rw [ev_band, BitVec.toNat_and, show IntKind.u32.bits = 32 from rfl, ofInt_nat (by omega), ofInt_nat (by omega), wrapU32N (by omega)]
theorem band8 {x y : Nat} (hx : x < 256) (hy : y < 256) : (Pr.bin .and .u8).eval [.i (x : Int), .i (y : Int)] = some (.i ((x &&& y : Nat) : Int)) := by
  have h := Nat.and_lt_two_pow x (n := 8) hy
  rw [ev_band, BitVec.toNat_and, show IntKind.u8.bits = 8 from rfl, ofInt_nat (by omega), ofInt_nat (by omega), wrapU8 (by omega)]
theorem shl64 {x j : Nat} (hj : j < 64) (h : x * 2 ^ j < 9223372036854775808) : (Pr.sh .shl .i64 .i64).eval [.i (x : Int), .i (j : Int)] = some (.i ((x * 2 ^ j : Nat) : Int)) := by
  rw [ev_shl, if_neg (by omega), Int.toNat_natCast, show IntKind.i64.bits = 64 from rfl, Nat.min_eq_left (by omega)]
  rw [show (x : Int) * 2 ^ j = ((x * 2 ^ j : Nat) : Int) by push_cast; rfl, wrap64N h]
theorem and127 (x : Nat) : x &&& 127 = x % 128 := Nat.and_two_pow_sub_one_eq_mod x 7
theorem or_shift {x y j : Nat} (h : x < 2 ^ j) : x ||| y * 2 ^ j = x + y * 2 ^ j := by
  rw [Nat.or_comm, Nat.mul_comm, ← Nat.two_pow_add_eq_or_of_lt h, Nat.add_comm]
section
variable {fes : List Fe} {f : Nat} {fe : Fe} {k : IntKind}
theorem copyN_ok (h1 : fes[f]? = some fe) (h2 : fe.tr = some (copyT k)) (h3 : fe.sig.H = []) (xs : List Nat) (h : xs.length < 281474976710656 / 8) : EvF fes f [LN xs] [LN xs] := by
  rw [LN_LI]
  exact copy_ok h1 h2 h3 _ (by simpa using h)
theorem natsInj {xs ys : List Nat} : (xs.map fun (n : Nat) => (n : Int)) = ys.map (fun (n : Nat) => (n : Int)) ↔ xs = ys := by
  constructor
  · intro h
    exact List.map_inj_right (fun a b h => by omega) |>.1 h
  · intro h
    rw [h]
theorem eqN_ok (h1 : fes[f]? = some fe) (h2 : fe.tr = some (eqT k)) (h3 : fe.sig.H = []) (xs ys : List Nat) (hx : xs.length < 9223372036854775808) (hy : ys.length < 9223372036854775808) : EvF fes f [LN xs, LN ys] [.b (decide (xs = ys))] := by
  rw [LN_LI, LN_LI]
  have := eq_ok h1 h2 h3 (xs.map fun (n : Nat) => (n : Int)) (ys.map fun (n : Nat) => (n : Int)) (by simpa using hx) (by simpa using hy)
  simp only [natsInj] at this
  exact this
end
/-! ### the first that is not so -/
def good (q : Int → Bool) (xs : List Int) : Nat := (xs.takeWhile q).length
theorem good_le {q : Int → Bool} {xs : List Int} : good q xs ≤ xs.length := by
  unfold good
  induction xs with
  | nil => simp
  | cons x r ih =>
    rw [List.takeWhile_cons]
    split
    · simp; omega
    · simp
theorem good_lt {q : Int → Bool} {xs : List Int} {i : Nat} (h : i < good q xs) (h' : i < xs.length) : q xs[i] = true := by
  unfold good at h
  induction xs generalizing i with
  | nil => simp at h'
  | cons x r ih =>
    rw [List.takeWhile_cons] at h
    split at h
    · rename_i hx
      cases i with
      | zero => exact hx
      | succ i => exact ih (by simpa using h) (by simpa using h')
    · simp at h
theorem good_at {q : Int → Bool} {xs : List Int} (h : good q xs < xs.length) : q xs[good q xs] = false := by
  have key : ∀ (xs : List Int) (i : Nat), i = good q xs → ∀ h : i < xs.length, q xs[i] = false := by
    intro xs
    induction xs with
    | nil => intro i _ h; simp at h
    | cons x r ih =>
      intro i e h
      unfold good at e
      rw [List.takeWhile_cons] at e
      split at e
      · rename_i hx
        subst e
        exact ih _ rfl (by simpa [good] using h)
      · rename_i hx
        subst e
        simpa using hx
  exact key xs _ rfl h
theorem good_all {q : Int → Bool} {xs : List Int} : xs.all q = decide (good q xs = xs.length) := by
  unfold good
  induction xs with
  | nil => simp
  | cons x r ih =>
    rw [List.takeWhile_cons, List.all_cons, ih]
    cases q x <;> simp
/-- slices.IndexFunc, over a list of whole numbers. -/
def idxT (k : IntKind) (f : Nat) : Tr :=
(.nd (.pr (.len [.int k]) [(.v 0)])
(.blk 2 []
 (.loop [.int .i64] [(.k (.i 0))]
  (.nd (.pr (.cmp .lss .i64) [(.v 2), (.v 1)])
  (.ite (.v 3)
   (.blk 3 []
    (.nd (.pr (.len [.int k]) [(.v 0)])
    (.nd (.pr (.ixc .i64) [(.v 2), (.v 4)])
    (.nd (.pr (.get [.int k] 0) [(.v 0), (.v 5)])
    (.nd (.call f [(.v 6)] [.int k] [.bool])
    (.ite (.v 7)
     (.out 1 [(.v 2)])
     (.out 0 []))))))
   (.nd (.pr (.bin .add .i64) [(.v 2), (.k (.i 1))])
   (.out 0 [(.v 4)])))
   (.out 2 []))))
(.out 1 [(.k (.i (-1)))])))
/-- slices.ContainsFunc, over a list of whole numbers. -/
def contT (k : IntKind) (g : Nat) : Tr :=
(.nd (.call g [(.v 0)] [(.sl [.int k])] [.int .i64])
(.nd (.pr (.cmp .geq .i64) [(.v 1), (.k (.i 0))])
(.out 1 [(.v 2)])))
def fstI (p : Int → Bool) (xs : List Int) : Int := if good (fun z => !p z) xs = xs.length then -1 else good (fun z => !p z) xs
section
variable {fes : List Fe} {f i : Nat} {fe : Fe} {k : IntKind}
theorem idx_ok {p : Int → Bool} (h1 : fes[i]? = some fe) (h2 : fe.tr = some (idxT k f)) (h3 : fe.sig.H = []) (zs : List Int) (hz : zs.length < 9223372036854775808) (hp : ∀ z ∈ zs, EvF fes f [.i z] [.b (p z)]) : EvF fes i [LI zs] [.i (fstI p zs)] := by
  refine EvF.w h1 h2 ?_
  rw [show envA fe.sig [LI zs] = [LI zs] by rw [envA, h3]; rfl]
  simp only [idxT]
  simp [LI]
  have hle := good_le (q := fun z => !p z) (xs := zs)
  have hlt := fun j => good_lt (q := fun z => !p z) (xs := zs) (i := j)
  have hat := good_at (q := fun z => !p z) (xs := zs)
  refine LW.cnt (good (fun z => !p z) zs) (fun j => [.i j]) (fun j hj => ?_) ?_ (by simp)
  · have hl : j < zs.length := by omega
    have h1 : ¬ ((j : Int) < 0) := by omega
    have h2 : (j : Int) < zs.length := by omega
    simp [hl, h1, h2]
    refine CW.mk (hp _ (List.getElem_mem hl)) ?_
    have := hlt j hj hl
    simp at this
    simp [this]
    exact wrap64 (by omega)
  · generalize hg : good (fun z => !p z) zs = n at hle hat
    by_cases hl : n < zs.length
    · have h1 : ¬ ((n : Int) < 0) := by omega
      have h2 : (n : Int) < zs.length := by omega
      simp [hl, h1, h2]
      refine CW.mk (hp _ (List.getElem_mem hl)) ?_
      have := hat hl
      simp at this
      simp [this, fstI, hg, show ¬ n = zs.length by omega]
    · have h2 : ¬ (n : Int) < zs.length := by omega
      simp [h2, fstI, hg, show n = zs.length by omega]
theorem fstI_any {p : Int → Bool} {zs : List Int} : decide (0 ≤ fstI p zs) = zs.any p := by
  have h := good_all (q := fun z => !p z) (xs := zs)
  have h2 : zs.any p = !(zs.all fun z => !p z) := by
    clear h
    induction zs with
    | nil => rfl
    | cons x r ih =>
      rw [List.any_cons, List.all_cons, ih]
      cases p x <;> simp
  rw [h2, h]
  unfold fstI
  by_cases e : good (fun z => !p z) zs = zs.length
  · simp [e]
  · simp [e]
theorem cont_ok {p : Int → Bool} (h1 : fes[i]? = some fe) (h2 : fe.tr = some (contT k f)) (h3 : fe.sig.H = []) (zs : List Int) (hp : EvF fes f [LI zs] [.i (fstI p zs)]) : EvF fes i [LI zs] [.b (zs.any p)] := by
  refine EvF.w h1 h2 ?_
  rw [show envA fe.sig [LI zs] = [LI zs] by rw [envA, h3]; rfl]
  simp only [contT]
  simp
  refine CW.mk hp ?_
  simp [fstI_any]
end
/-- szXS. -/
def szT (k : IntKind) : Tr :=
(.nd (.pr (.len [.int k]) [(.v 0)])
(.nd (.pr (.bin .sub .i64) [(.v 1), (.v 2)])
(.nd (.pr (.cmp .lss .i64) [(.v 3), (.k (.i 0))])
(.ite (.v 4)
 (.out 1 [(.k (.i (-1)))])
 (.out 1 [(.v 3)])))))
def szV (l : Nat) (n : Int) : Int := if n - l < 0 then -1 else n - l
section
variable {fes : List Fe} {f : Nat} {fe : Fe} {k : IntKind}
theorem sz_ok (h1 : fes[f]? = some fe) (h2 : fe.tr = some (szT k)) (h3 : fe.sig.H = []) (zs : List Int) (n : Nat) (hn : n ≤ 1048576) (h : zs.length < 9223372036854775808) : EvF fes f [LI zs, .i n] [.i (szV zs.length n)] := by
  refine EvF.w h1 h2 ?_
  rw [show envA fe.sig [LI zs, .i (n : Int)] = [LI zs, .i (n : Int)] by rw [envA, h3]; rfl]
  simp only [szT]
  simp [len_LI, szV]
  rw [wrap64 (by omega)]
  by_cases g : (n : Int) - zs.length < 0
  · simp [g]
    omega
  · simp [g]
    try omega
theorem szN_ok (h1 : fes[f]? = some fe) (h2 : fe.tr = some (szT k)) (h3 : fe.sig.H = []) (zs : List Nat) (n : Nat) (hn : n ≤ 1048576) (h : zs.length < 9223372036854775808) : EvF fes f [LN zs, .i n] [.i (szV zs.length n)] := by
  have := sz_ok h1 h2 h3 (zs.map fun (n : Nat) => (n : Int)) n hn (by simpa using h)
  rw [LN_LI]
  simpa using this
theorem markN_ok (h1 : fes[f]? = some fe) (h2 : fe.tr = some (markT k)) (h3 : ∀ a b, envA fe.sig [.l a, b] = [.l a, b, .i a.length]) (zs : List Nat) (hz : zs.length < 4611686018427387904) : EvF fes f [LN zs, .i 1] [.i (zs.length + 1), LI (mkL k.wrap zs.length)] := by
  have := mark_ok h1 h2 h3 (zs.map fun (n : Nat) => (n : Int)) (by simpa using hz)
  rw [LN_LI]
  simpa using this
end
theorem cut_whole {k k1 k2 : IntKind} {xs : List Int} {n : Int} (h : n = xs.length) : (Pr.cut [.int k] k1 k2).eval [LI xs, .i 0, .i n] = some (LI xs) := by
  subst h
  have := cut_LI (k := k) (k1 := k1) (k2 := k2) (xs := xs) (i := 0) (j := xs.length) (by omega) (by omega)
  simpa using this
theorem plus_0 {n : Nat} : Pr.plus.eval [.i 0, .i (n : Int)] = some (.i (n : Int)) := by
  rw [ev_plus, if_pos (by omega)]
  simp
theorem set_LI {k : IntKind} {xs : List Int} {i : Nat} {v : Int} (h : i < xs.length) : (Pr.set [.int k] 0).eval [LI xs, .i (i : Int), .i v] = some (LI (xs.set i v)) := by
  rw [LI, ev_set, if_pos (by simp only [List.length_map]; omega), Int.toNat_natCast]
  congr 2
  have key : ∀ (l : List Int) (i : Nat), (l.map D.i).modify i (setRow [.int k] 0 (.i v)) = (l.set i v).map D.i := by
    intro l
    induction l with
    | nil => intro i; simp
    | cons a l ih =>
      intro i
      cases i with
      | zero => simp
      | succ i => simpa using ih i
  exact key xs i
theorem rep_LI {n : Nat} {z : Int} : D.l (List.replicate n (D.i z)) = LI (List.replicate n z) := by simp [LI]
end Go.BH
