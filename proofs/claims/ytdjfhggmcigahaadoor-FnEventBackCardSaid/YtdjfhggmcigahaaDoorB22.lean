/- Calls, in letters. -/
import Derived.Test.YtdjfhggmcigahaaDoorB21
set_option linter.unusedVariables false
set_option linter.unusedSimpArgs false
namespace Go.BH
open Go.RowKit
/-- What is known of a function: which it is, what it takes, what it gives. (Letters: those it takes, the lengths of its blocks; then those it gives, the lengths of the blocks behind it.) -/
structure Sig where
  fid : Nat
  ps : List CK
  args : List SV
  H : List (Nat × SB)
  rs : List CK
  res : List SV
  H' : List (Nat × SB)
  nx' : Nat
def lensOf (env : List D) : List (Nat × SB) → List D
  | [] => []
  | (_, .arr e a _) :: r => .i (a.den env).items.length :: lensOf env r
  | (_, .cells _) :: r => lensOf env r
def lenNds : List (Nat × SB) → List Nd
  | [] => []
  | (_, .arr e a _) :: r => .pr (.len e) [a] :: lenNds r
  | (_, .cells _) :: r => lenNds r
def envA (s : Sig) (vs : List D) : List D := vs ++ lensOf vs s.H
def envR (s : Sig) (vs rsv : List D) : List D := (vs ++ rsv) ++ lensOf (vs ++ rsv) s.H'
/-- The program has such a function, with a body. -/
def knownB (P : Program) (f : FuncId) : Bool :=
  match P.funcs[f]? with
  | some fn => fn.name != "runtime.NumGoroutine" && fn.body.isSome
  | none => false
theorem knownB_spec {P : Program} {f : FuncId} (h : knownB P f = true) : ∃ fn cc, P.funcs[f]? = some fn ∧ (fn.name == "runtime.NumGoroutine") = false ∧ fn.body = some cc := by
  unfold knownB at h
  split at h
  · rename_i fn e
    simp only [Bool.and_eq_true, Option.isSome_iff_exists] at h
    obtain ⟨h1, cc, h2⟩ := h
    exact ⟨fn, cc, e, by simpa using h1, h2⟩
  · cases h
/-- The functions do as their signs say. -/
def SigOk (P : Program) (Φ : Fns) (i : Nat) (s : Sig) : Prop := knownB P s.fid = true ∧ ∀ vs rsv, okZ s.ps vs = true → Φ i vs = some rsv → okZ s.rs rsv = true ∧
  FT P s.fid (SV.dens (envA s vs) s.args) (denH (envA s vs) s.H) s.H.length (fun r H' nx => r = oneOf (SV.dens (envR s vs rsv) s.res) ∧ H' = denH (envR s vs rsv) s.H' ∧ nx = s.nx')
/-! ### parts of slices that are handed over -/
mutual
def cutL (σ : SS) : SV → List (Nat × At × At)
  | .sl i lo n _ => if (isZ lo && whole σ i n) = true then [] else [(i, lo, n)]
  | .agg xs => cutLs σ xs
  | .any => []
  | .dat _ _ => []
  | .lz _ _ => []
  | .K _ => []
  | .nilS => []
  | .e0 => []
  | .ifc _ => []
  | .ptr _ _ => []
  | .ptrE _ _ _ _ => []
  | .pfz _ _ _ _ _ => []
  | .tup _ => []
  | .fn _ xs => cutLs σ xs
def cutLs (σ : SS) : List SV → List (Nat × At × At)
  | [] => []
  | x :: xs => cutL σ x ++ cutLs σ xs
end
def cutN (σ : SS) : Nat → List (Nat × At × At) → List Nd × List (Nat × At × At × At)
  | _, [] => ([], [])
  | m, (i, lo, n) :: r => match hgetS σ.H i with
    | some (.arr e a _) => (match cutN σ (m + 2) r with
      | (nds, cs) => (.pr .plus [lo, n] :: .pr (.cut e .i64 .i64) [a, lo, .v m] :: nds, (i, lo, n, .v (m + 1)) :: cs))
    | _ => cutN σ m r
def cutFind (i : Nat) (lo n : At) : List (Nat × At × At × At) → Option At
  | [] => none
  | (j, lo', n', c) :: r => if (Nat.beq j i && At.beq lo' lo && At.beq n' n) = true then some c else cutFind i lo n r
section
variable {P : Program} {E : En} {σ : SS} {o : Oper} {ks : List Nat} {tab : TyTab} {env : List D} {m : Nat} {nds : List Nd} {v : SV} {Φ : Fns}
def CutOk (σ : SS) (env : List D) (cs : List (Nat × At × At × At)) : Prop := ∀ i lo n c, cutFind i lo n cs = some c → ∃ e a k xs zl zn, hgetS σ.H i = some (.arr e a k) ∧ a.den env = .l xs ∧ lo.den env = .i zl ∧ n.den env = .i zn ∧ 0 ≤ zl ∧ 0 ≤ zn ∧ zl + zn ≤ xs.length ∧ c.den env = .l ((xs.drop zl.toNat).take zn.toNat)
theorem cutN_ok : ∀ {L : List (Nat × At × At)} {m : Nat}, Facts Φ env m (cutN σ m L).1 → CutOk σ env (cutN σ m L).2
  | [], m, _ => fun i lo n c h => by cases h
  | (j, lo', n') :: r, m, hf => by
    simp only [cutN] at hf ⊢
    split at hf
    · rename_i e a k hh
      obtain ⟨x, y, p1, p2, p3, p4, p5⟩ := fact_plus hf.1
      obtain ⟨xs, za, zb, c1, c2, c3, c4, c5, c6, c7⟩ := fact_cut hf.2.1
      rw [p1] at c2
      cases c2
      rw [p5] at c3
      cases c3
      intro i lo n c h
      simp only [cutFind] at h
      split at h
      · rename_i hb
        simp only [Bool.and_eq_true] at hb
        obtain rfl := Nat.eq_of_beq_eq_true hb.1.1
        obtain rfl := At.beq_eq hb.1.2
        obtain rfl := At.beq_eq hb.2
        cases h
        exact ⟨e, a, k, xs, x, y, hh, c1, p1, p2, p3, p4, c6, by rw [c7]; congr 2; omega⟩
      · exact cutN_ok hf.2.2 i lo n c h
    · exact cutN_ok hf
/-! ### is it handed over as the sign says? -/
def idIs (ids : List Nat) (n i : Nat) : Bool := match ids[n]? with
  | some j => Nat.beq j i
  | none => false
mutual
def lndB (σ : SS) (θ : List At) (ids : List Nat) (cs : List (Nat × At × At × At)) (b : Bool) : SV → SV → Bool
  | _, .any => true
  | .dat k a, .dat k' a' => CK.beq k k' && At.beq a (a'.sub θ)
  | .nilS, .dat (.sl e) a' => At.beq (.k (.l [])) (a'.sub θ)
  | .e0, .dat (.sl e) a' => At.beq (.k (.l [])) (a'.sub θ)
  | .dat (.sl e) a, .lz e' a' => b && CK.beqs e e' && At.beq a (a'.sub θ)
  | .lz e a, .lz e' a' => b && CK.beqs e e' && At.beq a (a'.sub θ)
  | .nilS, .lz e a' => At.beq (.k (.l [])) (a'.sub θ)
  | .e0, .lz e a' => At.beq (.k (.l [])) (a'.sub θ)
  | .sl i lo n s, .lz e' a' => b && !memN i ids && (match hgetS σ.H i with
    | some (.arr e a _) => CK.beqs e e' && Nat.beq s e.length && ((isZ lo && whole σ i n && At.beq a (a'.sub θ)) || (match cutFind i lo n cs with
      | some c => At.beq c (a'.sub θ)
      | none => false))
    | _ => false)
  | .e0, .e0 => true
  | .nilS, .nilS => true
  | .ptr i o, .ptr n o' => Nat.beq o o' && idIs ids n i
  | .sl i lo n s, .sl j lo' n' s' => idIs ids j i && At.beq lo (lo'.sub θ) && At.beq n (n'.sub θ) && Nat.beq s s'
  | .agg xs, .agg ys => lndBs σ θ ids cs b xs ys
  | .fn f xs, .fn g ys => Nat.beq f g && lndBs σ θ ids cs b xs ys
  | _, _ => false
def lndBs (σ : SS) (θ : List At) (ids : List Nat) (cs : List (Nat × At × At × At)) (b : Bool) : List SV → List SV → Bool
  | [], [] => true
  | x :: xs, y :: ys => lndB σ θ ids cs b x y && lndBs σ θ ids cs b xs ys
  | _, _ => false
end
def okI (ids : List Nat) (i : Nat) : Bool := !memN i ids
mutual
theorem encC_lnd {H : Hp} {ids : List Nat} {ok : Nat → Bool} {b : Bool} : ∀ (k : CK) (d : D), Lnd H ids ok b (encC k d) (encC k d)
  | .int k, .i n => by rw [encC]; exact .v _
  | .bool, .b x => by rw [encC]; exact .v _
  | .str, .s x => by rw [encC]; exact .v _
  | .sl e, .l xs => by
    rw [encC]
    exact .fz (.inl rfl) (encL_lnd e xs)
  | .int _, .b _ => by simp [encC]; exact .any _
  | .int _, .s _ => by simp [encC]; exact .any _
  | .int _, .l _ => by simp [encC]; exact .any _
  | .bool, .i _ => by simp [encC]; exact .any _
  | .bool, .s _ => by simp [encC]; exact .any _
  | .bool, .l _ => by simp [encC]; exact .any _
  | .str, .i _ => by simp [encC]; exact .any _
  | .str, .b _ => by simp [encC]; exact .any _
  | .str, .l _ => by simp [encC]; exact .any _
  | .sl _, .i _ => by simp [encC]; exact .any _
  | .sl _, .b _ => by simp [encC]; exact .any _
  | .sl _, .s _ => by simp [encC]; exact .any _
theorem encZ_lnd {H : Hp} {ids : List Nat} {ok : Nat → Bool} {b : Bool} : ∀ (e : List CK) (ds : List D), Lnds H ids ok b (encZ e ds) (encZ e ds)
  | [], ds => by rw [encZ]; exact .nil
  | k :: ks, [] => by rw [encZ]; exact .cons (.any _) (encZ_lnd ks [])
  | k :: ks, d :: ds => by rw [encZ]; exact .cons (encC_lnd k d) (encZ_lnd ks ds)
theorem encL_lnd {H : Hp} {ids : List Nat} {ok : Nat → Bool} {b : Bool} (e : List CK) : ∀ (xs : List D), Lnds H ids ok b (xs.flatMap fun d => encZ e (row e d)) (xs.flatMap fun d => encZ e (row e d))
  | [] => .nil
  | x :: xs => by
    simp only [List.flatMap_cons]
    have happ : ∀ {a c : List AV}, Lnds H ids ok b a a → Lnds H ids ok b c c → Lnds H ids ok b (a ++ c) (a ++ c) := by
      intro a c h k
      induction a with
      | nil => exact k
      | cons y ys ih =>
        cases h with
        | cons h1 h2 => exact .cons h1 (ih h2)
    exact happ (encZ_lnd e _) (encL_lnd e xs)
end
theorem encR_lnd {H : Hp} {ids : List Nat} {ok : Nat → Bool} {b : Bool} (e : List CK) (xs : List D) : Lnds H ids ok b (encR e xs) (encR e xs) := encL_lnd e xs
theorem idIs_spec {ids : List Nat} {n i : Nat} (h : idIs ids n i = true) : ids[n]? = some i := by
  unfold idIs at h
  split at h
  · rename_i j e
    rw [e, Nat.eq_of_beq_eq_true h]
  · cases h
mutual
theorem lndB_ok {θ : List At} {ids : List Nat} {cs : List (Nat × At × At × At)} {b : Bool} (hg : σ.Good env) (hc : CutOk σ env cs) : ∀ {x p : SV}, x.good env = true → lndB σ θ ids cs b x p = true → Lnd (denH env σ.H) ids (okI ids) b (x.den env) (p.den (θ.map (At.den env)))
  | .any, p, _, h => by
    cases p with
    | any => exact .any _
    | _ => simp [lndB] at h
  | .K v, p, _, h => by
    cases p with
    | any => exact .any _
    | _ => simp [lndB] at h
  | .ptrE i ix s o, p, _, h => by
    cases p with
    | any => exact .any _
    | _ => simp [lndB] at h
  | .pfz l e a ix o, p, _, h => by
    cases p with
    | any => exact .any _
    | _ => simp [lndB] at h
  | .tup xs, p, _, h => by
    cases p with
    | any => exact .any _
    | _ => simp [lndB] at h
  | .dat k a, p, hx, h => by
    cases p with
    | any => exact .any _
    | dat k' a' =>
      simp only [lndB, Bool.and_eq_true] at h
      obtain rfl := CK.beq_eq h.1
      rw [SV.den, SV.den, At.beq_eq h.2, At.sub_den]
      exact encC_lnd _ _
    | lz e' a' =>
      cases k with
      | sl e =>
        simp only [lndB, Bool.and_eq_true] at h
        obtain ⟨⟨h1, h2⟩, h3⟩ := h
        obtain rfl := CK.beqs_eq h2
        obtain ⟨xs, e1, e2⟩ := okC_sl (show okC (.sl e) (a.den env) = true from hx)
        have : a'.den (θ.map (At.den env)) = .l xs := by rw [← At.sub_den, ← At.beq_eq h3]; exact e1
        rw [SV.den, SV.den, e1, encC_sl, this]
        exact .fz (.inr ⟨h1, rfl⟩) (encR_lnd e xs)
      | _ => simp [lndB] at h
    | _ => simp [lndB] at h
  | .nilS, p, hx, h => by
    cases p with
    | any => exact .any _
    | nilS => exact .v _
    | dat k' a' =>
      cases k' with
      | sl e =>
        simp only [lndB] at h
        rw [SV.den, SV.den, ← At.sub_den, ← At.beq_eq h]
        show Lnd _ _ _ _ _ (encC (.sl e) (.l []))
        rw [encC_sl]
        exact .nilF
      | _ => simp [lndB] at h
    | lz e a' =>
      simp only [lndB] at h
      rw [SV.den, SV.den, ← At.sub_den, ← At.beq_eq h]
      exact .nilF
    | _ => simp [lndB] at h
  | .ifc a, p, hx, h => by
    cases p with
    | any => exact .any _
    | _ => simp [lndB] at h
  | .e0, p, hx, h => by
    cases p with
    | any => exact .any _
    | e0 => exact .e0
    | dat k' a' =>
      cases k' with
      | sl e =>
        simp only [lndB] at h
        rw [SV.den, SV.den, ← At.sub_den, ← At.beq_eq h]
        show Lnd _ _ _ _ _ (encC (.sl e) (.l []))
        rw [encC_sl]
        exact .e0F
      | _ => simp [lndB] at h
    | lz e a' =>
      simp only [lndB] at h
      rw [SV.den, SV.den, ← At.sub_den, ← At.beq_eq h]
      exact .e0F
    | _ => simp [lndB] at h
  | .lz e a, p, hx, h => by
    cases p with
    | any => exact .any _
    | lz e' a' =>
      simp only [lndB, Bool.and_eq_true] at h
      obtain ⟨⟨h1, h2⟩, h3⟩ := h
      obtain rfl := CK.beqs_eq h2
      rw [SV.den, SV.den, ← At.sub_den, ← At.beq_eq h3]
      exact .fz (.inl rfl) (encR_lnd e _)
    | _ => simp [lndB] at h
  | .ptr i o, p, hx, h => by
    cases p with
    | any => exact .any _
    | ptr n o' =>
      simp only [lndB, Bool.and_eq_true] at h
      obtain rfl := Nat.eq_of_beq_eq_true h.1
      exact .ptr (idIs_spec h.2)
    | _ => simp [lndB] at h
  | .agg xs, p, hx, h => by
    cases p with
    | any => exact .any _
    | agg ys => exact .agg (lndBs_ok hg hc hx (by simpa only [lndB] using h))
    | _ => simp [lndB] at h
  | .fn f xs, p, hx, h => by
    cases p with
    | any => exact .any _
    | fn g ys =>
      simp only [lndB, Bool.and_eq_true] at h
      obtain rfl := Nat.eq_of_beq_eq_true h.1
      exact .fn (lndBs_ok hg hc hx h.2)
    | _ => simp [lndB] at h
  | .sl i lo n s, p, hx, h => by
    cases p with
    | any => exact .any _
    | sl j lo' n' s' =>
      simp only [lndB, Bool.and_eq_true] at h
      obtain ⟨⟨⟨h1, h2⟩, h3⟩, h4⟩ := h
      obtain rfl := Nat.eq_of_beq_eq_true h4
      rw [SV.den, SV.den, At.beq_eq h2, At.beq_eq h3, At.sub_den, At.sub_den]
      exact .slN (idIs_spec h1)
    | lz e' a' =>
      simp only [lndB, Bool.and_eq_true] at h
      obtain ⟨⟨h1, h2⟩, h3⟩ := h
      split at h3
      · rename_i e a k hh
        simp only [Bool.and_eq_true, Bool.or_eq_true] at h3
        obtain ⟨⟨h4, h5⟩, h6⟩ := h3
        obtain rfl := CK.beqs_eq h4
        obtain rfl := Nat.eq_of_beq_eq_true h5
        obtain ⟨xs, e1, e2⟩ := okC_sl (hg.A i e a k hh).1
        have hgt : hget (denH env σ.H) i = some (encR e xs) := by
          rw [hget_denH, hh]
          simp [SB.den, e1, D.items]
        rcases h6 with h6 | h6
        · obtain ⟨⟨w1, w2⟩, w3⟩ := h6
          obtain ⟨e', a1, n1, q1, q2⟩ := whole_inv hg w2
          rw [hh] at q1
          cases q1
          have : a'.den (θ.map (At.den env)) = .l xs := by rw [← At.sub_den, ← At.beq_eq w3]; exact e1
          rw [SV.den, SV.den, isZ_den w1, q2, e1, this]
          simp only [D.nat, D.int, D.items, Int.toNat_zero, Nat.zero_mul, Int.toNat_natCast]
          refine .sl h1 h2 hgt (by rw [encR_length]; omega) ?_
          rw [List.drop_zero, ← encR_length, List.take_length]
          exact encR_lnd e xs
        · split at h6
          · rename_i c hc'
            obtain ⟨e', a1, k1, xs', zl, zn, q1, q2, q3, q4, q5, q6, q7, q8⟩ := hc i lo n c hc'
            rw [hh] at q1
            cases q1
            rw [e1] at q2
            cases q2
            have : a'.den (θ.map (At.den env)) = .l ((xs.drop zl.toNat).take zn.toNat) := by rw [← At.sub_den, ← At.beq_eq h6]; exact q8
            rw [SV.den, SV.den, q3, q4, this]
            simp only [D.nat, D.int, D.items]
            have hlen : ((xs.drop zl.toNat).take zn.toNat).length = zn.toNat := by simp; omega
            rw [hlen]
            refine .sl h1 h2 hgt ?_ ?_
            · rw [encR_length, ← Nat.add_mul]
              exact Nat.mul_le_mul_right _ (by omega)
            · rw [encR_drop, encR_take]
              exact encR_lnd e _
          · cases h6
      · cases h3
    | _ => simp [lndB] at h
theorem lndBs_ok {θ : List At} {ids : List Nat} {cs : List (Nat × At × At × At)} {b : Bool} (hg : σ.Good env) (hc : CutOk σ env cs) : ∀ {xs ps : List SV}, SV.goods env xs = true → lndBs σ θ ids cs b xs ps = true → Lnds (denH env σ.H) ids (okI ids) b (SV.dens env xs) (SV.dens (θ.map (At.den env)) ps)
  | [], [], _, _ => .nil
  | [], _ :: _, _, h => by simp [lndBs] at h
  | _ :: _, [], _, h => by simp [lndBs] at h
  | x :: xs, p :: ps, hx, h => by
    simp only [lndBs, Bool.and_eq_true] at h
    simp only [SV.goods, Bool.and_eq_true] at hx
    exact .cons (lndB_ok hg hc hx.1 h.1) (lndBs_ok hg hc hx.2 h.2)
end
end
end Go.BH
