/- What is known, said by other letters; blocks frozen, in letters. -/
import Derived.Test.YtdjfhggmcigahaaDoorB20
set_option linter.unusedVariables false
set_option linter.unusedSimpArgs false
namespace Go.BH
open Go.RowKit
def At.sub (θ : List At) : At → At
  | .v i => θ.getD i (.k (.l []))
  | .k d => .k d
mutual
/-- A value by other letters and other names. -/
def SV.sub (θ : List At) (f : Nat → Nat) : SV → SV
  | .any => .any
  | .dat k a => .dat k (a.sub θ)
  | .lz e a => .lz e (a.sub θ)
  | .K v => .K v
  | .nilS => .nilS
  | .e0 => .e0
  | .ifc a => .ifc (a.sub θ)
  | .ptr i o => .ptr (f i) o
  | .ptrE i ix s off => .ptrE (f i) (ix.sub θ) s off
  | .sl i lo n s => .sl (f i) (lo.sub θ) (n.sub θ) s
  | .pfz l e a ix off => .pfz l e (a.sub θ) (ix.sub θ) off
  | .agg xs => .agg (SV.subs θ f xs)
  | .tup xs => .tup (SV.subs θ f xs)
  | .fn g xs => .fn g (SV.subs θ f xs)
def SV.subs (θ : List At) (f : Nat → Nat) : List SV → List SV
  | [] => []
  | x :: xs => SV.sub θ f x :: SV.subs θ f xs
end
def SB.sub (θ : List At) (f : Nat → Nat) : SB → SB
  | .cells xs => .cells (SV.subs θ f xs)
  | .arr e a n => .arr e (a.sub θ) (n.sub θ)
theorem At.sub_den {θ : List At} {env : List D} (a : At) : (a.sub θ).den env = a.den (θ.map (At.den env)) := by
  cases a with
  | k d => rfl
  | v i =>
    simp only [At.sub, At.den, List.getElem?_map]
    cases h : θ[i]? with
    | none => simp [List.getD, h, At.den]
    | some x =>
      simp only [List.getD, h, Option.getD_some, Option.map_some]
      rfl
theorem ifcA_ren (f : Nat → Nat) (d : D) : (ifcA d).ren f = ifcA d := by
  unfold ifcA
  split <;> rfl
theorem ifcA_frz (i : Nat) (cs : List AV) (d : D) : (ifcA d).frz i cs = ifcA d := by
  unfold ifcA
  split <;> rfl
mutual
theorem SV.sub_den {θ : List At} {f : Nat → Nat} {env : List D} : ∀ x : SV, (x.sub θ f).den env = (x.den (θ.map (At.den env))).ren f
  | .any => rfl
  | .dat k a => by simp only [SV.sub, SV.den]; rw [At.sub_den, encC_ren]
  | .lz e a => by simp only [SV.sub, SV.den, AV.ren]; rw [At.sub_den, encR_ren]
  | .K v => rfl
  | .nilS => rfl
  | .e0 => rfl
  | .ifc a => by simp only [SV.sub, SV.den]; rw [At.sub_den, ifcA_ren]
  | .ptr i o => rfl
  | .ptrE i ix s off => by simp only [SV.sub, SV.den, AV.ren]; rw [At.sub_den]
  | .sl i lo n s => by simp only [SV.sub, SV.den, AV.ren]; rw [At.sub_den, At.sub_den]
  | .pfz l e a ix off => by
    simp only [SV.sub, SV.den, AV.ren]
    rw [At.sub_den, At.sub_den, rens_map, List.map_drop, ← rens_map, encR_ren]
  | .agg xs => by simp only [SV.sub, SV.den, AV.ren]; rw [SV.subs_den]
  | .tup xs => by simp only [SV.sub, SV.den, AV.ren]; rw [SV.subs_den]
  | .fn g xs => by simp only [SV.sub, SV.den, AV.ren]; rw [SV.subs_den]
theorem SV.subs_den {θ : List At} {f : Nat → Nat} {env : List D} : ∀ xs : List SV, SV.dens env (SV.subs θ f xs) = AV.rens f (SV.dens (θ.map (At.den env)) xs)
  | [] => rfl
  | x :: xs => by simp only [SV.subs, SV.dens, AV.rens]; rw [SV.sub_den, SV.subs_den]
end
theorem SB.sub_den {θ : List At} {f : Nat → Nat} {env : List D} (b : SB) : (b.sub θ f).den env = AV.rens f (b.den (θ.map (At.den env))) := by
  cases b with
  | cells xs => exact SV.subs_den xs
  | arr e a n => simp only [SB.sub, SB.den]; rw [At.sub_den, encR_ren]
/-! ### letters and values that are the same -/
mutual
def SV.beq : SV → SV → Bool
  | .any, .any => true
  | .dat k a, .dat k' a' => CK.beq k k' && At.beq a a'
  | .lz e a, .lz e' a' => CK.beqs e e' && At.beq a a'
  | .nilS, .nilS => true
  | .e0, .e0 => true
  | .ifc a, .ifc a' => At.beq a a'
  | .ptr i o, .ptr i' o' => Nat.beq i i' && Nat.beq o o'
  | .ptrE i ix s off, .ptrE i' ix' s' off' => Nat.beq i i' && At.beq ix ix' && Nat.beq s s' && Nat.beq off off'
  | .sl i lo n s, .sl i' lo' n' s' => Nat.beq i i' && At.beq lo lo' && At.beq n n' && Nat.beq s s'
  | .pfz l e a ix off, .pfz l' e' a' ix' off' => (match l, l' with
    | true, true => true
    | false, false => true
    | _, _ => false) && CK.beqs e e' && At.beq a a' && At.beq ix ix' && Nat.beq off off'
  | .agg xs, .agg ys => SV.beqs xs ys
  | .tup xs, .tup ys => SV.beqs xs ys
  | .fn f xs, .fn g ys => Nat.beq f g && SV.beqs xs ys
  | _, _ => false
def SV.beqs : List SV → List SV → Bool
  | [], [] => true
  | x :: xs, y :: ys => SV.beq x y && SV.beqs xs ys
  | _, _ => false
end
mutual
theorem SV.beq_eq : ∀ {a b : SV}, SV.beq a b = true → a = b
  | .any, b, h => by cases b <;> simp [SV.beq] at h ⊢
  | .dat k a, b, h => by
    cases b <;> simp [SV.beq] at h ⊢
    exact ⟨CK.beq_eq h.1, At.beq_eq h.2⟩
  | .lz e a, b, h => by
    cases b <;> simp [SV.beq] at h ⊢
    exact ⟨CK.beqs_eq h.1, At.beq_eq h.2⟩
  | .K v, b, h => by cases b <;> simp [SV.beq] at h
  | .nilS, b, h => by cases b <;> simp [SV.beq] at h ⊢
  | .e0, b, h => by cases b <;> simp [SV.beq] at h ⊢
  | .ifc a, b, h => by
    cases b <;> simp [SV.beq] at h ⊢
    exact At.beq_eq h
  | .ptr i o, b, h => by
    cases b <;> simp [SV.beq] at h ⊢
    exact h
  | .ptrE i ix s off, b, h => by
    cases b <;> simp [SV.beq] at h ⊢
    exact ⟨h.1.1.1, At.beq_eq h.1.1.2, h.1.2, h.2⟩
  | .sl i lo n s, b, h => by
    cases b <;> simp [SV.beq] at h ⊢
    exact ⟨h.1.1.1, At.beq_eq h.1.1.2, At.beq_eq h.1.2, h.2⟩
  | .pfz l e a ix off, b, h => by
    cases b with
    | pfz l' e' a' ix' off' =>
      simp only [SV.beq, Bool.and_eq_true] at h
      obtain ⟨⟨⟨⟨h1, h2⟩, h3⟩, h4⟩, h5⟩ := h
      rw [CK.beqs_eq h2, At.beq_eq h3, At.beq_eq h4, Nat.eq_of_beq_eq_true h5]
      cases l <;> cases l' <;> first | rfl | cases h1
    | _ => simp [SV.beq] at h
  | .agg xs, b, h => by
    cases b with
    | agg ys => simp only [SV.beq] at h; rw [SV.beqs_eq h]
    | _ => simp [SV.beq] at h
  | .tup xs, b, h => by
    cases b with
    | tup ys => simp only [SV.beq] at h; rw [SV.beqs_eq h]
    | _ => simp [SV.beq] at h
  | .fn f xs, b, h => by
    cases b with
    | fn g ys =>
      simp only [SV.beq, Bool.and_eq_true] at h
      rw [Nat.eq_of_beq_eq_true h.1, SV.beqs_eq h.2]
    | _ => simp [SV.beq] at h
theorem SV.beqs_eq : ∀ {a b : List SV}, SV.beqs a b = true → a = b
  | [], [], _ => rfl
  | [], _ :: _, h => by simp [SV.beqs] at h
  | _ :: _, [], h => by simp [SV.beqs] at h
  | x :: xs, y :: ys, h => by
    simp only [SV.beqs, Bool.and_eq_true] at h
    rw [SV.beq_eq h.1, SV.beqs_eq h.2]
end
/-! ### less is known -/
/-- z says no more than y. -/
def Wk (y z : AV) : Prop := ∀ μ c, VR μ y c → VR μ z c
theorem Wk.refl (x : AV) : Wk x x := fun _ _ h => h
theorem Wk.any (x : AV) : Wk x .any := fun _ c _ => .any c
inductive Wks : List AV → List AV → Prop where
  | nil : Wks [] []
  | cons {x y : AV} {xs ys : List AV} (h : Wk x y) (k : Wks xs ys) : Wks (x :: xs) (y :: ys)
theorem Wks.refl : ∀ l : List AV, Wks l l
  | [] => .nil
  | x :: xs => .cons (.refl x) (Wks.refl xs)
theorem Wks.vrs {μ : Mu} : ∀ {x y : List AV} {c : List Value}, Wks x y → VRs μ x c → VRs μ y c
  | _, _, _, .nil, .nil => .nil
  | _, _, _, .cons h k, .cons a b => .cons (h _ _ a) (Wks.vrs k b)
theorem Wks.length : ∀ {x y : List AV}, Wks x y → y.length = x.length
  | _, _, .nil => rfl
  | _, _, .cons _ k => by simp [Wks.length k]
theorem Wks.get : ∀ {x y : List AV}, Wks x y → ∀ (j : Nat) (v : AV), y[j]? = some v → ∃ u, x[j]? = some u ∧ Wk u v
  | _, _, .nil, j, v, h => by simp at h
  | _, _, .cons h k, 0, v, hj => by simp at hj; subst hj; exact ⟨_, rfl, h⟩
  | _, _, .cons h k, j + 1, v, hj => by
    obtain ⟨u, h1, h2⟩ := Wks.get k j v (by simpa using hj)
    exact ⟨u, by simpa using h1, h2⟩
theorem Wk.agg {x y : List AV} (h : Wks x y) : Wk (.agg x) (.agg y) := fun μ c k => by
  cases k with
  | agg k => exact .agg (h.vrs k)
theorem Wk.tup {x y : List AV} (h : Wks x y) : Wk (.tup x) (.tup y) := fun μ c k => by
  cases k with
  | tup k => exact .tup (h.vrs k)
theorem Wk.fn {f : Fn} {x y : List AV} (h : Wks x y) : Wk (.fn f x) (.fn f y) := fun μ c k => by
  cases k with
  | fn k => exact .fn (h.vrs k)
section
variable {E : En} {σ : St}
theorem INV.weak {μ : Mu} {a : Act} {w : World} {T' : List (Nat × AV)} {H' : Hp} (h : INV E μ σ a w) (hT : ∀ t, Wk (tk σ.T t) (tk T' t)) (hH : ∀ i cs', hget H' i = some cs' → ∃ cs, hget σ.H i = some cs ∧ Wks cs cs') : INV E μ ⟨T', H', σ.nx⟩ a w := by
  refine ⟨fun t => hT t _ _ (h.tmps t), h.size, h.defers, ⟨fun i cs' hi p hp => ?_, fun i cs' hi hne => ?_, fun i j cs ds hij hi hj => ?_, h.heap.rd, fun i cs p hi => ?_⟩, h.fresh, fun i cs' hi => ?_, h.kept, fun i cs' p hi => ?_, h.fzn, h.fzo, h.lno⟩
  · obtain ⟨cs, h1, h2⟩ := hH i cs' hi
    obtain ⟨c, t, g1, g2, g3, g4⟩ := h.heap.own i cs h1 p hp
    refine ⟨c, t, g1, g2, by rw [h2.length]; exact g3, fun j x hj => ?_⟩
    obtain ⟨u, hu, hw⟩ := h2.get j x hj
    obtain ⟨y, hy, hv⟩ := g4 j u hu
    exact ⟨y, hy, hw _ _ hv⟩
  · obtain ⟨cs, h1, h2⟩ := hH i cs' hi
    exact h.heap.there i cs h1 (fun e => hne (by subst e; exact List.eq_nil_of_length_eq_zero (by rw [h2.length]; rfl)))
  · obtain ⟨cs1, h1, _⟩ := hH i cs hi
    obtain ⟨cs2, h2, _⟩ := hH j ds hj
    exact h.heap.apart i j cs1 cs2 hij h1 h2
  · obtain ⟨cs1, h1, _⟩ := hH i cs hi
    exact h.heap.far i cs1 p h1
  · obtain ⟨cs, h1, _⟩ := hH i cs' hi
    exact h.low i cs h1
  · obtain ⟨cs, h1, _⟩ := hH i cs' hi
    exact h.may i cs p h1
theorem Gh.weak {T' : List (Nat × AV)} {H' : Hp} (hT : ∀ t, Wk (tk σ.T t) (tk T' t)) (hH : ∀ i cs', hget H' i = some cs' → ∃ cs, hget σ.H i = some cs ∧ Wks cs cs') : Gh E σ ⟨T', H', σ.nx⟩ := fun μ a w hi => ⟨μ, hi.weak hT hH, .refl μ⟩
end
mutual
/-- What names block i, which is the list a (of n elements), by value. -/
def SV.frz (i : Nat) (e : List CK) (a n : At) : SV → SV
  | .sl j lo k s => if Nat.beq j i = true then (if (isZ lo && At.beq k n && Nat.beq s e.length) = true then .dat (.sl e) a else .any) else .sl j lo k s
  | .ptrE j ix s off => if Nat.beq j i = true then (if Nat.beq s e.length = true then .pfz false e a ix off else .any) else .ptrE j ix s off
  | .ptr j o => if Nat.beq j i = true then .any else .ptr j o
  | .agg xs => .agg (SV.frzs i e a n xs)
  | .tup xs => .tup (SV.frzs i e a n xs)
  | .fn f xs => .fn f (SV.frzs i e a n xs)
  | .any => .any
  | .dat k b => .dat k b
  | .lz e' b => .lz e' b
  | .K v => .K v
  | .nilS => .nilS
  | .e0 => .e0
  | .ifc a => .ifc a
  | .pfz l e' b ix off => .pfz l e' b ix off
def SV.frzs (i : Nat) (e : List CK) (a n : At) : List SV → List SV
  | [] => []
  | x :: xs => SV.frz i e a n x :: SV.frzs i e a n xs
end
mutual
theorem encC_frz (i : Nat) (cs : List AV) : ∀ (k : CK) (d : D), (encC k d).frz i cs = encC k d
  | .int k, .i n => by rw [encC]; rfl
  | .bool, .b x => by rw [encC]; rfl
  | .str, .s x => by rw [encC]; rfl
  | .sl e, .l xs => by
    rw [encC, AV.frz, frzs_map, List.map_flatMap]
    congr 2
    funext d
    exact encZ_frz i cs e _
  | .int _, .b _ => by simp [encC, AV.frz]
  | .int _, .s _ => by simp [encC, AV.frz]
  | .int _, .l _ => by simp [encC, AV.frz]
  | .bool, .i _ => by simp [encC, AV.frz]
  | .bool, .s _ => by simp [encC, AV.frz]
  | .bool, .l _ => by simp [encC, AV.frz]
  | .str, .i _ => by simp [encC, AV.frz]
  | .str, .b _ => by simp [encC, AV.frz]
  | .str, .l _ => by simp [encC, AV.frz]
  | .sl _, .i _ => by simp [encC, AV.frz]
  | .sl _, .b _ => by simp [encC, AV.frz]
  | .sl _, .s _ => by simp [encC, AV.frz]
theorem encZ_frz (i : Nat) (cs : List AV) : ∀ (e : List CK) (ds : List D), (encZ e ds).map (AV.frz i cs) = encZ e ds
  | [], _ => by simp [encZ]
  | k :: ks, [] => by simp [encZ, encZ_frz i cs ks, AV.frz]
  | k :: ks, d :: ds => by simp [encZ, encZ_frz i cs ks, encC_frz i cs k]
end
theorem encR_frz (i : Nat) (cs : List AV) (e : List CK) (xs : List D) : AV.frzs i cs (encR e xs) = encR e xs := by
  rw [frzs_map, encR, List.map_flatMap]
  congr 1
  funext d
  exact encZ_frz i cs e _
section
variable {env : List D} {i : Nat} {e : List CK} {a n : At} {xs : List D}
mutual
theorem SV.frz_wk (ha : a.den env = .l xs) (hn : n.den env = .i xs.length) : ∀ x : SV, Wk ((x.den env).frz i (encR e xs)) ((x.frz i e a n).den env)
  | .any => .refl _
  | .dat k b => by simp only [SV.frz, SV.den]; rw [encC_frz]; exact .refl _
  | .lz e' b => by simp only [SV.frz, SV.den, AV.frz]; rw [encR_frz]; exact .refl _
  | .K v => .refl _
  | .nilS => .refl _
  | .e0 => .refl _
  | .ifc a => by simp only [SV.frz, SV.den]; rw [ifcA_frz]; exact .refl _
  | .ptr j o => by
    simp only [SV.frz, SV.den, AV.frz]
    split
    · exact .any _
    · exact .refl _
  | .ptrE j ix s off => by
    simp only [SV.frz, SV.den, AV.frz]
    split
    · split
      · rename_i hs
        obtain rfl := Nat.eq_of_beq_eq_true hs
        simp only [SV.den, ha, D.items]
        exact .refl _
      · exact .any _
    · exact .refl _
  | .sl j lo k s => by
    simp only [SV.frz, SV.den, AV.frz]
    by_cases hj : Nat.beq j i = true
    · rw [if_pos hj, if_pos hj]
      by_cases hb : (isZ lo && At.beq k n && Nat.beq s e.length) = true
      · rw [if_pos hb]
        simp only [Bool.and_eq_true] at hb
        obtain ⟨⟨h1, h2⟩, h3⟩ := hb
        obtain rfl := At.beq_eq h2
        obtain rfl := Nat.eq_of_beq_eq_true h3
        simp only [SV.den, isZ_den h1, hn, ha, D.nat, D.int, Int.toNat_zero, Nat.zero_mul, Int.toNat_natCast, Nat.zero_add, List.drop_zero]
        rw [← encR_length, List.take_length, encC_sl, if_pos (by simp)]
        exact .refl _
      · rw [if_neg hb]
        exact .any _
    · rw [if_neg hj, if_neg hj]
      exact .refl _
  | .pfz l e' b ix off => by
    simp only [SV.frz, SV.den, AV.frz]
    rw [frzs_map, List.map_drop, ← frzs_map, encR_frz]
    exact .refl _
  | .agg ys => by simp only [SV.frz, SV.den, AV.frz]; exact .agg (SV.frzs_wk ha hn ys)
  | .tup ys => by simp only [SV.frz, SV.den, AV.frz]; exact .tup (SV.frzs_wk ha hn ys)
  | .fn f ys => by simp only [SV.frz, SV.den, AV.frz]; exact .fn (SV.frzs_wk ha hn ys)
theorem SV.frzs_wk (ha : a.den env = .l xs) (hn : n.den env = .i xs.length) : ∀ ys : List SV, Wks (AV.frzs i (encR e xs) (SV.dens env ys)) (SV.dens env (SV.frzs i e a n ys))
  | [] => .nil
  | y :: ys => .cons (SV.frz_wk ha hn y) (SV.frzs_wk ha hn ys)
end
end
def frzTS (i : Nat) (e : List CK) (a n : At) : List (Nat × SV) → List (Nat × SV)
  | [] => []
  | (t, x) :: r => (t, x.frz i e a n) :: frzTS i e a n r
def SB.frz (i : Nat) (e : List CK) (a n : At) : SB → SB
  | .cells xs => .cells (SV.frzs i e a n xs)
  | .arr e' b k => .arr e' b k
def frzHS (i : Nat) (e : List CK) (a n : At) : List (Nat × SB) → List (Nat × SB)
  | [] => []
  | (t, x) :: r => (t, x.frz i e a n) :: frzHS i e a n r
/-- Block i frozen. -/
def SS.frz (σ : SS) (i : Nat) : Option SS :=
  match hgetS σ.H i with
  | some (.arr e a n) => some ⟨frzTS i e a n σ.T, frzHS i e a n (hdelS σ.H i), σ.nx⟩
  | _ => none
theorem tkS_frz (i : Nat) (e : List CK) (a n : At) (t : Nat) : ∀ T : List (Nat × SV), tkS (frzTS i e a n T) t = (tkS T t).frz i e a n
  | [] => rfl
  | (d, x) :: r => by
    simp only [frzTS, tkS]
    split
    · rfl
    · exact tkS_frz i e a n t r
theorem hgetS_frz (i : Nat) (e : List CK) (a n : At) (t : Nat) : ∀ T : List (Nat × SB), hgetS (frzHS i e a n T) t = (hgetS T t).map (SB.frz i e a n)
  | [] => rfl
  | (d, x) :: r => by
    simp only [frzHS, hgetS]
    split
    · rfl
    · exact hgetS_frz i e a n t r
theorem SS.frz_ok {E : En} {env : List D} {σ σ' : SS} {i : Nat} (hg : σ.Good env) (h : σ.frz i = some σ') : Gh E (σ.den env) (σ'.den env) ∧ SInv env σ' := by
  unfold SS.frz at h
  split at h
  · rename_i e a n hh
    cases h
    obtain ⟨h1, h2⟩ := hg.A i e a n hh
    obtain ⟨xs, hx, _⟩ := okC_sl h1
    have hgt : hget (σ.den env).H i = some (encR e xs) := by
      show hget (denH env σ.H) i = _
      rw [hget_denH, hh]
      simp [SB.den, hx, D.items]
    have hn : n.den env = .i xs.length := by rw [h2, hx]; rfl
    refine ⟨(Gh.freeze hgt).trans ?_, fun j e' a' k hj => ?_⟩
    · refine Gh.weak (σ := (σ.den env).freeze i (encR e xs)) (fun t => ?_) (fun j cs' hj => ?_)
      · show Wk (tk (frzT i (encR e xs) (denT env σ.T)) t) (tk (denT env (frzTS i e a n σ.T)) t)
        rw [tk_frzT, tk_denT, tk_denT, tkS_frz]
        exact SV.frz_wk hx hn _
      · have hj' : hget (denH env (frzHS i e a n (hdelS σ.H i))) j = some cs' := hj
        rw [hget_denH, hgetS_frz] at hj'
        show ∃ cs, hget (frzH i (encR e xs) (hdel (denH env σ.H) i)) j = some cs ∧ _
        rw [hget_frzH, ← denH_del, hget_denH]
        cases hb : hgetS (hdelS σ.H i) j with
        | none => rw [hb] at hj'; cases hj'
        | some b =>
          rw [hb] at hj'
          simp only [Option.map_some, Option.some.injEq] at hj'
          subst hj'
          refine ⟨_, rfl, ?_⟩
          cases b with
          | cells ys => exact SV.frzs_wk hx hn ys
          | arr e' b k =>
            simp only [SB.den, SB.frz]
            rw [encR_frz]
            exact .refl _
    · simp only [hgetS_frz] at hj
      cases hb : hgetS (hdelS σ.H i) j with
      | none => rw [hb] at hj; cases hj
      | some b =>
        rw [hb] at hj
        simp only [Option.map_some, Option.some.injEq] at hj
        cases b with
        | cells ys => cases hj
        | arr e1 b1 k1 =>
          cases hj
          exact (hg.A j e' a' k (hgetS_del hb)).2
  · cases h
end Go.BH
