/- PCut PStr PRead PReadS PReadEq in one text. -/
import Derived.Test.YtdjfhggmcigahaaDoorEBackPB1
import Derived.Lib.AtoiAll
/- Lines cut into words, and numbers read back. -/
set_option linter.unusedVariables false
set_option linter.unusedSimpArgs false
namespace Go.Proofs.YtdjfhggmcigahaaDoor.EBack
open Go.BH Go.Proofs
def cutL : List UInt8 → List (List UInt8)
  | [] => [[]]
  | c :: r => if c = 32 then [] :: cutL r else (match cutL r with
    | p :: ps => (c :: p) :: ps
    | [] => [[c]])
def glue (p : List UInt8) : List (List UInt8) → List (List UInt8)
  | [] => [p]
  | q :: qs => (p ++ q) :: qs
theorem cutL_sp (r : List UInt8) : cutL (32 :: r) = [] :: cutL r := by rw [cutL, if_pos rfl]
theorem cutL_c {c : UInt8} (h : c ≠ 32) (r : List UInt8) : cutL (c :: r) = glue [c] (cutL r) := by
  rw [cutL, if_neg h]
  cases cutL r <;> rfl
theorem cutL_ne : ∀ l : List UInt8, cutL l ≠ []
  | [] => by simp [cutL]
  | c :: r => by
    by_cases h : c = 32
    · subst h; rw [cutL_sp]; simp
    · rw [cutL_c h]
      cases cutL r <;> simp [glue]
theorem glue_glue (p q : List UInt8) {X : List (List UInt8)} (h : X ≠ []) : glue p (glue q X) = glue (p ++ q) X := by
  cases X with
  | nil => exact absurd rfl h
  | cons x xs => simp [glue]
theorem glue_nil {X : List (List UInt8)} (h : X ≠ []) : glue [] X = X := by
  cases X with
  | nil => exact absurd rfl h
  | cons x xs => rfl
/-- No blank in it. -/
def NoSp (l : List UInt8) : Prop := ∀ c ∈ l, c ≠ 32
theorem cut_no : ∀ {l : List UInt8}, NoSp l → cutL l = [l]
  | [], _ => rfl
  | c :: r, h => by
    rw [cutL_c (h c List.mem_cons_self), cut_no (fun x hx => h x (List.mem_cons_of_mem _ hx))]
    rfl
theorem cut_at : ∀ {p : List UInt8} (r : List UInt8), NoSp p → cutL (p ++ 32 :: r) = p :: cutL r
  | [], r, _ => cutL_sp r
  | c :: p, r, h => by
    rw [List.cons_append, cutL_c (h c List.mem_cons_self), cut_at r (fun x hx => h x (List.mem_cons_of_mem _ hx))]
    rfl
theorem split_cut : ∀ (n : Nat) (l : List UInt8), l.length ≤ n → Lib.splitK [32] 0 (Lib.count l [32]) l = cutL l := by
  intro n
  induction n with
  | zero =>
    intro l hl
    have : l = [] := List.eq_nil_of_length_eq_zero (by omega)
    subst this
    rfl
  | succ n ih =>
    intro l hl
    by_cases h : Lib.indexByte l 32 = -1
    · have hm : Lib.index l [32] = -1 := (Lib.index_one l 32).trans h
      rw [Lib.count_miss hm]
      have hno : NoSp l := fun c hc e => by
        obtain ⟨k, hk, hk'⟩ := List.mem_iff_getElem.1 hc
        exact Lib.indexByte_none h k (by rw [List.getElem?_eq_getElem hk, hk', e])
      rw [cut_no hno]
      rfl
    · have hge := Lib.indexByte_ge l 32
      obtain ⟨i, hi⟩ : ∃ i : Nat, Lib.indexByte l 32 = i := ⟨(Lib.indexByte l 32).toNat, by omega⟩
      have hm : Lib.index l [32] = i := (Lib.index_one l 32).trans hi
      obtain ⟨h1, h2⟩ := Lib.indexByte_some hi
      have hil : i < l.length := by
        rcases Nat.lt_or_ge i l.length with g | g
        · exact g
        · rw [List.getElem?_eq_none g] at h1; cases h1
      have hsp : l = l.take i ++ 32 :: l.drop (i + 1) := by
        have e : l.drop i = 32 :: l.drop (i + 1) := by
          rw [List.drop_eq_getElem_cons hil]
          congr 1
          rw [List.getElem?_eq_getElem hil] at h1
          exact Option.some.inj h1
        rw [← e, List.take_append_drop]
      have hno : NoSp (l.take i) := fun c hc e => by
        obtain ⟨k, hk, hk'⟩ := List.mem_iff_getElem.1 hc
        have hk2 : k < i := by simp at hk; omega
        refine h2 k hk2 ?_
        rw [List.getElem_take] at hk'
        rw [List.getElem?_eq_getElem (by omega), hk', e]
      rw [Lib.count_hit (by simp) hm, Nat.add_comm 1]
      show Lib.splitK [32] 0 (Lib.count (l.drop (i + 1)) [32] + 1) l = _
      have hne : ¬ (Lib.index l [32] == -1) = true := fun e => by
        have := beq_iff_eq.1 e
        omega
      rw [Lib.splitK, if_neg hne, hm, Int.toNat_natCast, Nat.add_zero]
      show l.take i :: Lib.splitK [32] 0 (Lib.count (l.drop (i + 1)) [32]) (l.drop (i + 1)) = _
      rw [ih _ (by simp; omega)]
      conv => rhs; rw [hsp]
      rw [cut_at _ hno]
theorem B_eq (s : ByteArray) : B s.data.toList = s := bytes_eq (by simp [B])
theorem splitS_cut (l : List UInt8) : splitS (B l) (B [32]) = (cutL l).map B := by
  have h := Lib.splitB_data (B [32]) 0 (Lib.countB (B l) (B [32])) (B l)
  have e : Lib.splitK (B [32]).data.toList 0 (Lib.countB (B l) (B [32])) (B l).data.toList = cutL l := split_cut _ l (Nat.le_refl _)
  rw [e] at h
  rw [← h, List.map_map, splitS]
  exact ((List.map_congr_left fun x _ => B_eq x).trans (List.map_id _)).symm
/-! ### digits -/
theorem dec_dig {u : Nat} : ∀ c ∈ Lib.decDigits u, 48 ≤ c.toNat ∧ c.toNat ≤ 57 := by
  intro c hc
  rw [Lib.decDigits_eq] at hc
  obtain ⟨t, _, rfl⟩ := List.mem_map.1 hc
  unfold Lib.dg
  rw [toNat_dig (Nat.mod_lt _ (by decide))]
  have := Nat.mod_lt (u / 10 ^ (Lib.nDigits u - 1 - t)) (by decide : 10 > 0)
  omega
theorem dec_ne (u : Nat) : Lib.decDigits u ≠ [] := fun e => by
  have := congrArg List.length e
  rw [Lib.decDigits_length] at this
  have := Lib.nDigits_pos u
  simp at *
  omega
theorem itoa_nosp (n : Int) : NoSp (Lib.itoa n) := fun c hc e => by
  unfold Lib.itoa at hc
  split at hc
  · rcases List.mem_cons.1 hc with rfl | hc
    · cases e
    · have := dec_dig c hc
      subst e
      exact absurd this.1 (by decide)
  · have := dec_dig c hc
    subst e
    exact absurd this.1 (by decide)
theorem cut_nums : ∀ (ns : List Int) {p : List UInt8}, NoSp p → cutL (p ++ numsT ns) = p :: ns.map Lib.itoa
  | [], p, h => by
    rw [show numsT [] = [] from rfl, List.append_nil, cut_no h]
    rfl
  | n :: ns, p, h => by
    rw [show numsT (n :: ns) = 32 :: (Lib.itoa n ++ numsT ns) from rfl, cut_at _ h, cut_nums ns (itoa_nosp n)]
    rfl
theorem pu_dec : ∀ (u : Nat), u < 1000000 → ∀ r, Lib.parseUint10 0 (Lib.decDigits u ++ r) = Lib.parseUint10 u r := by
  intro u
  induction u using Nat.strongRecOn with
  | _ u ih =>
    intro hu r
    rw [Lib.decDigits]
    by_cases h : u < 10
    · rw [dif_pos h, List.singleton_append, Lib.parseUint10, toNat_dig h, if_pos ⟨by omega, by omega⟩, if_neg (by omega), if_neg (by omega)]
      congr 1
      omega
    · have hm : u % 10 < 10 := Nat.mod_lt _ (by decide)
      rw [dif_neg h, List.append_assoc, ih (u / 10) (by omega) (by omega), List.singleton_append, Lib.parseUint10, toNat_dig hm, if_pos ⟨by omega, by omega⟩, if_neg (by omega), if_neg (by omega)]
      congr 1
      omega
theorem atoi_itoa {n : Int} (h : -1 ≤ n ∧ n ≤ 5000) : Lib.atoiAll (Lib.itoa n) = .ok n := by
  by_cases h0 : n < 0
  · have : n = -1 := by omega
    subst this
    have e : Lib.itoa (-1) = [45, 49] := by
      unfold Lib.itoa
      rw [if_pos (by decide), show (-1 : Int).natAbs = 1 from rfl, Lib.decDigits_one (by decide)]
      rfl
    rw [e]
    rfl
  · obtain ⟨u, rfl⟩ : ∃ u : Nat, n = u := ⟨n.toNat, by omega⟩
    rw [Lib.itoa_nonneg]
    have hp := pu_dec u (by omega) []
    rw [List.append_nil] at hp
    have hd := dec_dig (u := u)
    cases hl : Lib.decDigits u with
    | nil => exact absurd hl (dec_ne u)
    | cons c r =>
      rw [hl] at hp hd
      have hc := hd c List.mem_cons_self
      unfold Lib.atoiAll
      simp only
      rw [if_neg (by omega), Lib.parseMag, if_neg (by simp), hp]
      simp only [Lib.parseUint10]
      rw [if_neg (by omega), if_neg (by omega), if_neg (by omega)]
/-! ### the reference's reading of a number -/
def stepV (v : Int) (c : UInt8) : Int := if 48 ≤ (c.toNat : Int) ∧ (c.toNat : Int) ≤ 57 then IntKind.i64.wrap (IntKind.i64.wrap (10 * v) + IntKind.i64.wrap (IntKind.u8.wrap ((c.toNat : Int) - 48))) else v
def valV (l : List UInt8) : Int := if l.head? = some 45 then IntKind.i64.wrap (0 - (l.take 6).foldl stepV 0) else (l.take 6).foldl stepV 0
theorem dec_len : ∀ (k u : Nat), u < 10 ^ (k + 1) → (Lib.decDigits u).length ≤ k + 1
  | 0, u, h => by rw [Lib.decDigits_one (by simpa using h)]; simp
  | k + 1, u, h => by
    rw [Lib.decDigits]
    split
    · simp
    · have : u / 10 < 10 ^ (k + 1) := by
        rw [Nat.pow_succ] at h
        omega
      have := dec_len k (u / 10) this
      simp
      omega
theorem fold_dec : ∀ (u : Nat), u < 1000000 → (Lib.decDigits u).foldl stepV 0 = u := by
  intro u
  induction u using Nat.strongRecOn with
  | _ u ih =>
    intro hu
    have st : ∀ (v d : Nat), v < 1000000 → d < 10 → stepV v (UInt8.ofNat (48 + d)) = ((10 * v + d : Nat) : Int) := fun v d hv hd => by
      unfold stepV
      rw [toNat_dig hd, if_pos ⟨by omega, by omega⟩, wrap64 (x := 10 * (v : Int)) (by omega), wrapU8 (by omega), wrap64 (x := ((48 + d : Nat) : Int) - 48) (by omega), wrap64 (by omega)]
      omega
    rw [Lib.decDigits]
    by_cases h : u < 10
    · rw [dif_pos h]
      have := st 0 u (by omega) h
      simp only [List.foldl_cons, List.foldl_nil]
      rw [show (0 : Int) = ((0 : Nat) : Int) from rfl, this]
      omega
    · have hm : u % 10 < 10 := Nat.mod_lt _ (by decide)
      rw [dif_neg h, List.foldl_append, ih (u / 10) (by omega) (by omega)]
      simp only [List.foldl_cons, List.foldl_nil]
      rw [st (u / 10) (u % 10) (by omega) hm]
      omega
theorem val_itoa {n : Int} (h : -1 ≤ n ∧ n ≤ 5000) : valV (Lib.itoa n) = n := by
  by_cases h0 : n < 0
  · have : n = -1 := by omega
    subst this
    have e : Lib.itoa (-1) = [45, 49] := by
      unfold Lib.itoa
      rw [if_pos (by decide), show (-1 : Int).natAbs = 1 from rfl, Lib.decDigits_one (by decide)]
      rfl
    rw [e]
    rfl
  · obtain ⟨u, rfl⟩ : ∃ u : Nat, n = u := ⟨n.toNat, by omega⟩
    rw [Lib.itoa_nonneg]
    have hl := dec_len 5 u (by omega)
    have hf := fold_dec u (by omega)
    have hd := dec_dig (u := u)
    unfold valV
    rw [List.take_of_length_le (by omega), hf]
    cases hl : Lib.decDigits u with
    | nil => exact absurd hl (dec_ne u)
    | cons c r =>
      rw [hl] at hd
      have hc := hd c List.mem_cons_self
      rw [if_neg]
      simp only [List.head?_cons, Option.some.injEq]
      rintro rfl
      exact absurd hc.1 (by decide)
end Go.Proofs.YtdjfhggmcigahaaDoor.EBack

/- Words and numbers of a line, as the reference and the program take them. -/
set_option linter.unusedVariables false
set_option linter.unusedSimpArgs false
namespace Go.Proofs.YtdjfhggmcigahaaDoor.EBack
open Go.BH Go.Proofs
set_option maxRecDepth 100000
theorem cutB {k k' : IntKind} {l : List UInt8} {a b : Nat} (h1 : a ≤ b) (h2 : b ≤ l.length) : (Pr.cutS k k').eval [.s (B l), .i (a : Int), .i (b : Int)] = some (.s (B ((l.drop a).take (b - a)))) := by
  rw [ev_cutS, B_size, if_pos ⟨by omega, by omega, by omega⟩, Int.toNat_natCast, Int.toNat_natCast]
  congr 2
  refine bytes_eq ?_
  rw [Lib.extract_data]
  simp [B, List.drop_take]
theorem idxB {k : IntKind} {l : List UInt8} {i : Nat} (h : i < l.length) : (Pr.idxS k).eval [.s (B l), .i (i : Int)] = some (.i ((l[i].toNat : Nat) : Int)) := by
  rw [ev_idxS, if_neg (by omega), Int.toNat_natCast]
  have : (B l)[i]? = some l[i] := by
    rw [getElem?_pos (B l) i (by rw [B_size]; exact h)]
    rfl
  rw [this]
  rfl
theorem lenB {l : List UInt8} : Pr.lenS.eval [.s (B l)] = some (.i (l.length : Int)) := by rw [ev_lenS, B_size]
/-- Words. -/
def SL (ps : List (List UInt8)) : D := .l (ps.map fun p => D.s (B p))
theorem SL_nil : D.l [] = SL [] := rfl
theorem lenSL {ps : List (List UInt8)} {e : List CK} : (Pr.len e).eval [SL ps] = some (.i (ps.length : Int)) := by rw [SL, ev_len, List.length_map]
theorem getSL {ps : List (List UInt8)} {i : Nat} (h : i < ps.length) : (Pr.get [ks] 0).eval [SL ps, .i (i : Int)] = some (.s (B ps[i])) := by
  rw [SL, ev_get, if_neg (by omega), Int.toNat_natCast, List.getElem?_map, List.getElem?_eq_getElem h]
  rfl
theorem appSL {ps : List (List UInt8)} {p : List UInt8} (h : ps.length ≤ 2000000) : (Pr.app [ks] 16).eval [SL ps, .l [.s (B p)]] = some (SL (ps ++ [p])) := by
  rw [SL, ev_app, if_pos (by simp only [List.length_map, List.length_cons, List.length_nil]; omega), SL, List.map_append]
  rfl
end Go.Proofs.YtdjfhggmcigahaaDoor.EBack

/- An event read from its text: what the program answers. -/
set_option linter.unusedVariables false
set_option linter.unusedSimpArgs false
namespace Go.Proofs.YtdjfhggmcigahaaDoor.EBack
open Go.BH Go.Proofs
set_option maxRecDepth 100000
theorem f32 (l : List UInt8) (hl : l.length ≤ 1000000) : EvF fes 32 [.s (B l), .s (B [32])] [SL (cutL l)] := by
  refine EvF.prim (fe := e32) rfl rfl ?_
  show prim52 [.s (B l), .s (B [32])] = some [SL (cutL l)]
  have h1 : Nat.ble (B l).size 1000000 = true := Nat.ble_eq_true_of_le (by rw [B_size]; exact hl)
  have h2 : Nat.ble 1 (B [32]).size = true := rfl
  simp only [prim52, h1, h2, Bool.and_true, if_true, splitS_cut, List.map_map, SL]
  rfl
theorem f33 {p : List UInt8} {v : Int} (hl : p.length ≤ 1000000) (h : Lib.atoiAll p = .ok v) : EvF fes 33 [.s (B p)] [.i v, .b true] := by
  refine EvF.prim (fe := e33) rfl rfl ?_
  show prim53 [.s (B p)] = some [.i v, .b true]
  have h1 : Nat.ble (B p).size 1000000 = true := Nat.ble_eq_true_of_le (by rw [B_size]; exact hl)
  have h2 : (B p).data.toList = p := by simp [B]
  simp only [prim53, h1, if_true, h2, h]
theorem f33x {p : List UInt8} (hl : p.length ≤ 1000000) (h : ∀ v, Lib.atoiAll p ≠ .ok v) : EvF fes 33 [.s (B p)] [.i (badN p), .b false] := by
  refine EvF.prim (fe := e33) rfl rfl ?_
  show prim53 [.s (B p)] = some [.i (badN p), .b false]
  have h1 : Nat.ble (B p).size 1000000 = true := Nat.ble_eq_true_of_le (by rw [B_size]; exact hl)
  have h2 : (B p).data.toList = p := by simp [B]
  simp only [prim53, h1, if_true, h2]
def allV : List (List UInt8) → Option (List Int)
  | [] => some []
  | p :: ps => match Lib.atoiAll p with
    | .ok v => (allV ps).map (v :: ·)
    | _ => none
theorem allV_snoc : ∀ {ps : List (List UInt8)} {vs : List Int} {p : List UInt8} {v : Int}, allV ps = some vs → Lib.atoiAll p = .ok v → allV (ps ++ [p]) = some (vs ++ [v])
  | [], vs, p, v, h, hp => by
    cases h
    simp [allV, hp]
  | q :: ps, vs, p, v, h, hp => by
    simp only [allV] at h
    cases hq : Lib.atoiAll q with
    | ok x =>
      rw [hq] at h
      simp only [Option.map_eq_some_iff] at h
      obtain ⟨ws, hw, rfl⟩ := h
      simp only [List.cons_append, allV, hq, allV_snoc hw hp, Option.map_some]
    | _ => rw [hq] at h; cases h
theorem allV_bad : ∀ {ps : List (List UInt8)} {i : Nat} (hi : i < ps.length), (∀ v, Lib.atoiAll ps[i] ≠ .ok v) → allV ps = none
  | p :: ps, 0, hi, h => by
    simp only [allV]
    cases hq : Lib.atoiAll p with
    | ok x => exact absurd hq (h x)
    | _ => rfl
  | p :: ps, i + 1, hi, h => by
    simp only [allV]
    have hi' : i < ps.length := by simpa using hi
    cases hq : Lib.atoiAll p with
    | ok x => simp only [allV_bad hi' (by simpa using h)]; rfl
    | _ => rfl
theorem allV_len : ∀ {ps : List (List UInt8)} {vs : List Int}, allV ps = some vs → vs.length = ps.length
  | [], vs, h => by cases h; rfl
  | p :: ps, vs, h => by
    simp only [allV] at h
    cases hq : Lib.atoiAll p with
    | ok x =>
      rw [hq] at h
      simp only [Option.map_eq_some_iff] at h
      obtain ⟨ws, hw, rfl⟩ := h
      simp [allV_len hw]
    | _ => rw [hq] at h; cases h
/-- What is answered where nothing is read. -/
def badD : List D := [.b false, .i 0, .i 0, .i 0, .i 0, .l []]
structure Ev5 where
  k : Int
  w : Int
  n : Int
  rk : Int
  vs : List Int
def Ev5.ok (e : Ev5) : Bool := evOk e.k e.w e.n e.rk e.vs
def Ev5.txt (e : Ev5) : List UInt8 := etL e.k e.w e.n e.rk e.vs
def Ev5.D (e : Ev5) : List BH.D := [.i e.k, .i e.w, .i e.n, .i e.rk, LI e.vs]
def resD (l : List UInt8) (e : Ev5) : List D := if e.ok = true ∧ e.txt = l then .b true :: e.D else badD
def mkI (p : List UInt8) (x : Int) (xs : List Int) : Ev5 :=
  if p = [112, 105, 99, 107] then ⟨2, x, 0, 0, []⟩ else if p = [103, 114, 111, 119] then ⟨3, 0, x, 0, []⟩ else if p = [116, 97, 107, 101] then ⟨1, x, 0, 1, xs⟩ else if p = [103, 105, 118, 101] then ⟨1, x, 0, 2, xs⟩ else ⟨0, x, 0, 0, []⟩
def outI (l : List UInt8) : List D := if 12000 < l.length then badD else match cutL l with
  | p :: ps => (match allV ps with
    | some (x :: xs) => resD l (mkI p x xs)
    | _ => badD)
  | [] => badD
theorem cutSL {k k' : IntKind} {p : List UInt8} {ps : List (List UInt8)} : (Pr.cut [ks] k k').eval [SL (p :: ps), .i 1, .i ((ps.length + 1 : Nat) : Int)] = some (SL ps) := by
  rw [SL, ev_cut, if_pos ⟨by omega, by omega, by simp⟩]
  have : List.take ps.length (List.map (fun p => D.s (B p)) ps) = List.map (fun p => D.s (B p)) ps := List.take_of_length_le (by simp)
  simpa [SL] using this
theorem cutLI {k k' : IntKind} {x : Int} {xs : List Int} : (Pr.cut [ki64] k k').eval [LI (x :: xs), .i 1, .i ((xs.length + 1 : Nat) : Int)] = some (LI xs) := by
  rw [LI, ev_cut, if_pos ⟨by omega, by omega, by simp⟩]
  have : List.take xs.length (List.map D.i xs) = List.map D.i xs := List.take_of_length_le (by simp)
  simpa [LI] using this
theorem B_inj {a b : List UInt8} : (B a = B b) = (a = b) := propext ⟨fun h => by
  have := congrArg (fun s : ByteArray => s.data.toList) h
  simpa [B] using this, fun h => by rw [h]⟩
theorem cut_sum : ∀ l : List UInt8, (cutL l).length ≤ l.length + 1 ∧ ∀ p ∈ cutL l, p.length ≤ l.length
  | [] => by simp [cutL]
  | c :: r => by
    obtain ⟨h1, h2⟩ := cut_sum r
    by_cases hc : c = 32
    · subst hc
      rw [cutL_sp]
      refine ⟨by simpa using h1, fun p hp => ?_⟩
      rcases List.mem_cons.1 hp with rfl | hp
      · simp
      · have := h2 p hp
        simp
        omega
    · rw [cutL_c hc]
      cases hx : cutL r with
      | nil => exact absurd hx (cutL_ne r)
      | cons q qs =>
        rw [hx] at h1 h2
        refine ⟨by simp [glue] at h1 ⊢; omega, fun p hp => ?_⟩
        simp only [glue, List.mem_cons] at hp
        rcases hp with rfl | hp
        · have := h2 q List.mem_cons_self
          simp
          omega
        · have := h2 p (List.mem_cons_of_mem _ hp)
          simp
          omega
set_option maxHeartbeats 1000000 in
theorem f34 (l : List UInt8) (hl : l.length ≤ 1048576) : EvF fes 34 [.s (B l)] (outI l) := by
  refine EvF.w (fe := e34) (t := t34) rfl rfl ?_
  by_cases h12 : 12000 < l.length
  · have h12' : (12000 : Int) < l.length := by omega
    simp only [Ja,Jb,Jc,Jd,Je,Jf,Jg,Jh,Ji,Jj,Jk,Jl,Jm,Jn,Jo,Jp,Jq,Jr,Js,Jt,Ju,Jv,Jw,envA,lensOf,Jx,Jy,Jz,JA,JB,JC,JD,JE,JF,JG,JH,JI,JJ,JK,JL,JM,JN,JO,JP,JQ,JR,JS,JT,JU,JV,JW,↓reduceIte,if_true,reduceCtorEq,Nat.reduceEqDiff,JX,JY,JZ,J0,J1,J2,J3,J4,J5,J6,J7,Ya,Yb,Yc,Yd,Ye,Yf,Int.cast_ofNat_Int,Yg,Yh,Int.reduceLT,Int.reduceLE,Int.reduceEq,Int.reduceAdd,Int.reduceMul,Int.reduceSub,Int.reduceNeg,Yi,Yj,Yk,Yl,Ym,Yn,Yo,Yp,Yq,Yr,Ys,Yt,Yu,Yv,Yw,Yx,Yy,Yz,YA,YB,YC,YD,YE,YF,YG,YH,YI,YJ,YK,YL,YM,YN,YO,YP,YQ,YR,YS,YT, t34, e34, lenB, h12', outI, if_pos h12, badD, -YD]
  · have h12' : ¬ (12000 : Int) < l.length := by omega
    have hs1 : (⟨#[32]⟩ : ByteArray) = B [32] := rfl
    simp only [Ja,Jb,Jc,Jd,Je,Jf,Jg,Jh,Ji,Jj,Jk,Jl,Jm,Jn,Jo,Jp,Jq,Jr,Js,Jt,Ju,Jv,Jw,envA,lensOf,Jx,Jy,Jz,JA,JB,JC,JD,JE,JF,JG,JH,JI,JJ,JK,JL,JM,JN,JO,JP,JQ,JR,JS,JT,JU,JV,JW,↓reduceIte,if_true,reduceCtorEq,Nat.reduceEqDiff,JX,JY,JZ,J0,J1,J2,J3,J4,J5,J6,J7,Ya,Yb,Yc,Yd,Ye,Yf,Int.cast_ofNat_Int,Yg,Yh,Int.reduceLT,Int.reduceLE,Int.reduceEq,Int.reduceAdd,Int.reduceMul,Int.reduceSub,Int.reduceNeg,Yi,Yj,Yk,Yl,Ym,Yn,Yo,Yp,Yq,Yr,Ys,Yt,Yu,Yv,Yw,Yx,Yy,Yz,YA,YB,YC,YD,YE,YF,YG,YH,YI,YJ,YK,YL,YM,YN,YO,YP,YQ,YR,YS,YT, t34, e34, lenB, h12', hs1, -YD]
    refine WC.mk (f32 l (by omega)) ?_
    have hout : outI l = match cutL l with
        | p :: ps => (match allV ps with
          | some (x :: xs) => resD l (mkI p x xs)
          | _ => badD)
        | [] => badD := by rw [outI, if_neg h12]
    obtain ⟨hc1, hc2⟩ := cut_sum l
    cases hcl : cutL l with
    | nil => exact absurd hcl (cutL_ne l)
    | cons p ps =>
      rw [hcl] at hout hc1 hc2
      simp only at hout
      rw [hout]
      simp only [Ja,Jb,Jc,Jd,Je,Jf,Jg,Jh,Ji,Jj,Jk,Jl,Jm,Jn,Jo,Jp,Jq,Jr,Js,Jt,Ju,Jv,Jw,envA,lensOf,Jx,Jy,Jz,JA,JB,JC,JD,JE,JF,JG,JH,JI,JJ,JK,JL,JM,JN,JO,JP,JQ,JR,JS,JT,JU,JV,JW,↓reduceIte,if_true,reduceCtorEq,Nat.reduceEqDiff,JX,JY,JZ,J0,J1,J2,J3,J4,J5,J6,J7,Ya,Yb,Yc,Yd,Ye,Yf,Int.cast_ofNat_Int,Yg,Yh,Int.reduceLT,Int.reduceLE,Int.reduceEq,Int.reduceAdd,Int.reduceMul,Int.reduceSub,Int.reduceNeg,Yi,Yj,Yk,Yl,Ym,Yn,Yo,Yp,Yq,Yr,Ys,Yt,Yu,Yv,Yw,Yx,Yy,Yz,YA,YB,YC,YD,YE,YF,YG,YH,YI,YJ,YK,YL,YM,YN,YO,YP,YQ,YR,YS,YT, lenSL, cutSL, -YC, -YG, -Jg]
      refine W.blkMid (fun ws => ∃ xs, allV ps = some xs ∧ ws = [LI xs]) ?_ ?_
      · simp only [Ja,Jb,Jc,Jd,Je,Jf,Jg,Jh,Ji,Jj,Jk,Jl,Jm,Jn,Jo,Jp,Jq,Jr,Js,Jt,Ju,Jv,Jw,envA,lensOf,Jx,Jy,Jz,JA,JB,JC,JD,JE,JF,JG,JH,JI,JJ,JK,JL,JM,JN,JO,JP,JQ,JR,JS,JT,JU,JV,JW,↓reduceIte,if_true,reduceCtorEq,Nat.reduceEqDiff,JX,JY,JZ,J0,J1,J2,J3,J4,J5,J6,J7,Ya,Yb,Yc,Yd,Ye,Yf,Int.cast_ofNat_Int,Yg,Yh,Int.reduceLT,Int.reduceLE,Int.reduceEq,Int.reduceAdd,Int.reduceMul,Int.reduceSub,Int.reduceNeg,Yi,Yj,Yk,Yl,Ym,Yn,Yo,Yp,Yq,Yr,Ys,Yt,Yu,Yv,Yw,Yx,Yy,Yz,YA,YB,YC,YD,YE,YF,YG,YH,YI,YJ,YK,YL,YM,YN,YO,YP,YQ,YR,YS,YT, LI_nil]
        refine LW.inv (fun a : Nat × List Int => a.1 ≤ ps.length ∧ allV (ps.take a.1) = some a.2 ∧ a.2.length = a.1) (fun a => [.i (a.1 : Int), LI a.2]) (fun a => ps.length - a.1) (fun a ha => ?_) (a := (0, [])) ⟨Nat.zero_le _, rfl, rfl⟩ rfl
        obtain ⟨i, vs⟩ := a
        obtain ⟨h1, h2, h3⟩ := ha
        simp only at h1 h2 h3 ⊢
        have hps : ps.length ≤ 12000 := by simp at hc1; omega
        by_cases hi : i < ps.length
        · have hi' : (i : Int) < ps.length := by omega
          have hi0 : (0 : Int) ≤ i := by omega
          have hlen : ps[i].length ≤ 1000000 := by
            have := hc2 ps[i] (List.mem_cons_of_mem _ (List.getElem_mem hi))
            omega
          simp only [Ja,Jb,Jc,Jd,Je,Jf,Jg,Jh,Ji,Jj,Jk,Jl,Jm,Jn,Jo,Jp,Jq,Jr,Js,Jt,Ju,Jv,Jw,envA,lensOf,Jx,Jy,Jz,JA,JB,JC,JD,JE,JF,JG,JH,JI,JJ,JK,JL,JM,JN,JO,JP,JQ,JR,JS,JT,JU,JV,JW,↓reduceIte,if_true,reduceCtorEq,Nat.reduceEqDiff,JX,JY,JZ,J0,J1,J2,J3,J4,J5,J6,J7,Ya,Yb,Yc,Yd,Ye,Yf,Int.cast_ofNat_Int,Yg,Yh,Int.reduceLT,Int.reduceLE,Int.reduceEq,Int.reduceAdd,Int.reduceMul,Int.reduceSub,Int.reduceNeg,Yi,Yj,Yk,Yl,Ym,Yn,Yo,Yp,Yq,Yr,Ys,Yt,Yu,Yv,Yw,Yx,Yy,Yz,YA,YB,YC,YD,YE,YF,YG,YH,YI,YJ,YK,YL,YM,YN,YO,YP,YQ,YR,YS,YT, lenSL, hi', hi0, len_LI, getSL hi, -YC, -YE]
          by_cases hv : ∃ v, Lib.atoiAll ps[i] = .ok v
          · obtain ⟨v, hv⟩ := hv
            refine WC.mk (f33 hlen hv) ?_
            simp only [Ja,Jb,Jc,Jd,Je,Jf,Jg,Jh,Ji,Jj,Jk,Jl,Jm,Jn,Jo,Jp,Jq,Jr,Js,Jt,Ju,Jv,Jw,envA,lensOf,Jx,Jy,Jz,JA,JB,JC,JD,JE,JF,JG,JH,JI,JJ,JK,JL,JM,JN,JO,JP,JQ,JR,JS,JT,JU,JV,JW,↓reduceIte,if_true,reduceCtorEq,Nat.reduceEqDiff,JX,JY,JZ,J0,J1,J2,J3,J4,J5,J6,J7,Ya,Yb,Yc,Yd,Ye,Yf,Int.cast_ofNat_Int,Yg,Yh,Int.reduceLT,Int.reduceLE,Int.reduceEq,Int.reduceAdd,Int.reduceMul,Int.reduceSub,Int.reduceNeg,Yi,Yj,Yk,Yl,Ym,Yn,Yo,Yp,Yq,Yr,Ys,Yt,Yu,Yv,Yw,Yx,Yy,Yz,YA,YB,YC,YD,YE,YF,YG,YH,YI,YJ,YK,YL,YM,YN,YO,YP,YQ,YR,YS,YT, len_LI, -YL]
            rw [app_LI1 (by decide) (by omega)]
            (repeat (first | simp (disch := omega) only [wrap64, wrapU32, wrapU64, wrapU8] | simp only [Ja,Jb,Jc,Jd,Je,Jf,Jg,Jh,Ji,Jj,Jk,Jl,Jm,Jn,Jo,Jp,Jq,Jr,Js,Jt,Ju,Jv,Jw,envA,lensOf,Jx,Jy,Jz,JA,JB,JC,JD,JE,JF,JG,JH,JI,JJ,JK,JL,JM,JN,JO,JP,JQ,JR,JS,JT,JU,JV,JW,↓reduceIte,if_true,reduceCtorEq,Nat.reduceEqDiff,JX,JY,JZ,J0,J1,J2,J3,J4,J5,J6,J7,Ya,Yb,Yc,Yd,Ye,Yf,Int.cast_ofNat_Int,Yg,Yh,Int.reduceLT,Int.reduceLE,Int.reduceEq,Int.reduceAdd,Int.reduceMul,Int.reduceSub,Int.reduceNeg,Yi,Yj,Yk,Yl,Ym,Yn,Yo,Yp,Yq,Yr,Ys,Yt,Yu,Yv,Yw,Yx,Yy,Yz,YA,YB,YC,YD,YE,YF,YG,YH,YI,YJ,YK,YL,YM,YN,YO,YP,YQ,YR,YS,YT, len_LI]))
            refine ⟨(i + 1, vs ++ [v]), ⟨hi, ?_, by simp [h3]⟩, by simp only; omega, by simp⟩
            simp only
            rw [List.take_add_one, List.getElem?_eq_getElem hi, Option.toList_some]
            exact allV_snoc h2 hv
          · have hv' : ∀ v, Lib.atoiAll ps[i] ≠ .ok v := fun v e => hv ⟨v, e⟩
            refine WC.mk (f33x hlen hv') ?_
            simp only [Ja,Jb,Jc,Jd,Je,Jf,Jg,Jh,Ji,Jj,Jk,Jl,Jm,Jn,Jo,Jp,Jq,Jr,Js,Jt,Ju,Jv,Jw,envA,lensOf,Jx,Jy,Jz,JA,JB,JC,JD,JE,JF,JG,JH,JI,JJ,JK,JL,JM,JN,JO,JP,JQ,JR,JS,JT,JU,JV,JW,↓reduceIte,if_true,reduceCtorEq,Nat.reduceEqDiff,JX,JY,JZ,J0,J1,J2,J3,J4,J5,J6,J7,Ya,Yb,Yc,Yd,Ye,Yf,Int.cast_ofNat_Int,Yg,Yh,Int.reduceLT,Int.reduceLE,Int.reduceEq,Int.reduceAdd,Int.reduceMul,Int.reduceSub,Int.reduceNeg,Yi,Yj,Yk,Yl,Ym,Yn,Yo,Yp,Yq,Yr,Ys,Yt,Yu,Yv,Yw,Yx,Yy,Yz,YA,YB,YC,YD,YE,YF,YG,YH,YI,YJ,YK,YL,YM,YN,YO,YP,YQ,YR,YS,YT, allV_bad hi hv', badD]
            rfl
        · have hi' : ¬ (i : Int) < ps.length := by omega
          simp only [Ja,Jb,Jc,Jd,Je,Jf,Jg,Jh,Ji,Jj,Jk,Jl,Jm,Jn,Jo,Jp,Jq,Jr,Js,Jt,Ju,Jv,Jw,envA,lensOf,Jx,Jy,Jz,JA,JB,JC,JD,JE,JF,JG,JH,JI,JJ,JK,JL,JM,JN,JO,JP,JQ,JR,JS,JT,JU,JV,JW,↓reduceIte,if_true,reduceCtorEq,Nat.reduceEqDiff,JX,JY,JZ,J0,J1,J2,J3,J4,J5,J6,J7,Ya,Yb,Yc,Yd,Ye,Yf,Int.cast_ofNat_Int,Yg,Yh,Int.reduceLT,Int.reduceLE,Int.reduceEq,Int.reduceAdd,Int.reduceMul,Int.reduceSub,Int.reduceNeg,Yi,Yj,Yk,Yl,Ym,Yn,Yo,Yp,Yq,Yr,Ys,Yt,Yu,Yv,Yw,Yx,Yy,Yz,YA,YB,YC,YD,YE,YF,YG,YH,YI,YJ,YK,YL,YM,YN,YO,YP,YQ,YR,YS,YT, hi', len_LI]
          rw [List.take_of_length_le (by omega)] at h2
          exact ⟨vs, h2, rfl⟩
      · rintro ws ⟨xs, hxs, rfl⟩
        rw [hxs]
        cases xs with
        | nil => simp only [Ja,Jb,Jc,Jd,Je,Jf,Jg,Jh,Ji,Jj,Jk,Jl,Jm,Jn,Jo,Jp,Jq,Jr,Js,Jt,Ju,Jv,Jw,envA,lensOf,Jx,Jy,Jz,JA,JB,JC,JD,JE,JF,JG,JH,JI,JJ,JK,JL,JM,JN,JO,JP,JQ,JR,JS,JT,JU,JV,JW,↓reduceIte,if_true,reduceCtorEq,Nat.reduceEqDiff,JX,JY,JZ,J0,J1,J2,J3,J4,J5,J6,J7,Ya,Yb,Yc,Yd,Ye,Yf,Int.cast_ofNat_Int,Yg,Yh,Int.reduceLT,Int.reduceLE,Int.reduceEq,Int.reduceAdd,Int.reduceMul,Int.reduceSub,Int.reduceNeg,Yi,Yj,Yk,Yl,Ym,Yn,Yo,Yp,Yq,Yr,Ys,Yt,Yu,Yv,Yw,Yx,Yy,Yz,YA,YB,YC,YD,YE,YF,YG,YH,YI,YJ,YK,YL,YM,YN,YO,YP,YQ,YR,YS,YT, len_LI, badD]
        | cons x xs =>
          have hp0 : ¬ ((xs.length + 1 : Nat) : Int) = 0 := by omega
          have hp1 : (0 : Int) < ((xs.length + 1 : Nat) : Int) := by omega
          have hp2 : (0 : Int) < ((ps.length + 1 : Nat) : Int) := by omega
          have hg : (Pr.get [ki64] 0).eval [LI (x :: xs), .i 0] = some (.i x) := rfl
          have hg2 : (Pr.get [ks] 0).eval [SL (p :: ps), .i 0] = some (.s (B p)) := rfl
          simp only [Ja,Jb,Jc,Jd,Je,Jf,Jg,Jh,Ji,Jj,Jk,Jl,Jm,Jn,Jo,Jp,Jq,Jr,Js,Jt,Ju,Jv,Jw,envA,lensOf,Jx,Jy,Jz,JA,JB,JC,JD,JE,JF,JG,JH,JI,JJ,JK,JL,JM,JN,JO,JP,JQ,JR,JS,JT,JU,JV,JW,↓reduceIte,if_true,reduceCtorEq,Nat.reduceEqDiff,JX,JY,JZ,J0,J1,J2,J3,J4,J5,J6,J7,Ya,Yb,Yc,Yd,Ye,Yf,Int.cast_ofNat_Int,Yg,Yh,Int.reduceLT,Int.reduceLE,Int.reduceEq,Int.reduceAdd,Int.reduceMul,Int.reduceSub,Int.reduceNeg,Yi,Yj,Yk,Yl,Ym,Yn,Yo,Yp,Yq,Yr,Ys,Yt,Yu,Yv,Yw,Yx,Yy,Yz,YA,YB,YC,YD,YE,YF,YG,YH,YI,YJ,YK,YL,YM,YN,YO,YP,YQ,YR,YS,YT, len_LI, hp0, hp1, hp2, hg, hg2, lenSL, -YE, -YC, -Jg]
          have hg1 : ∀ a b : List UInt8, a ≠ b → decide (B a = B b) = false := fun a b h => decide_eq_false (by rw [B_inj]; exact h)
          have hgt : ∀ a : List UInt8, decide (B a = B a) = true := fun a => decide_eq_true rfl
          have wP : (⟨#[112, 105, 99, 107]⟩ : ByteArray) = B [112, 105, 99, 107] := rfl
          have wG : (⟨#[103, 114, 111, 119]⟩ : ByteArray) = B [103, 114, 111, 119] := rfl
          have wT : (⟨#[116, 97, 107, 101]⟩ : ByteArray) = B [116, 97, 107, 101] := rfl
          have wV : (⟨#[103, 105, 118, 101]⟩ : ByteArray) = B [103, 105, 118, 101] := rfl
          have hr1 : (0 : Int) ≤ 1 ∧ (1 : Int) ≤ ((xs.length + 1 : Nat) : Int) ∧ ((xs.length + 1 : Nat) : Int) ≤ ((xs.length + 1 : Nat) : Int) := ⟨by omega, by omega, by omega⟩
          have d1 := hg1 [103, 114, 111, 119] [112, 105, 99, 107] (by decide)
          have d2 := hg1 [116, 97, 107, 101] [112, 105, 99, 107] (by decide)
          have d3 := hg1 [116, 97, 107, 101] [103, 114, 111, 119] (by decide)
          have d4 := hg1 [103, 105, 118, 101] [112, 105, 99, 107] (by decide)
          have d5 := hg1 [103, 105, 118, 101] [103, 114, 111, 119] (by decide)
          have d6 := hg1 [103, 105, 118, 101] [116, 97, 107, 101] (by decide)
          refine W.blkMid (fun ws => ws = (mkI p x xs).D) ?_ ?_
          · unfold mkI
            by_cases hP : p = [112, 105, 99, 107]
            · simp only [Ja,Jb,Jc,Jd,Je,Jf,Jg,Jh,Ji,Jj,Jk,Jl,Jm,Jn,Jo,Jp,Jq,Jr,Js,Jt,Ju,Jv,Jw,envA,lensOf,Jx,Jy,Jz,JA,JB,JC,JD,JE,JF,JG,JH,JI,JJ,JK,JL,JM,JN,JO,JP,JQ,JR,JS,JT,JU,JV,JW,↓reduceIte,if_true,reduceCtorEq,Nat.reduceEqDiff,JX,JY,JZ,J0,J1,J2,J3,J4,J5,J6,J7,Ya,Yb,Yc,Yd,Ye,Yf,Int.cast_ofNat_Int,Yg,Yh,Int.reduceLT,Int.reduceLE,Int.reduceEq,Int.reduceAdd,Int.reduceMul,Int.reduceSub,Int.reduceNeg,Yi,Yj,Yk,Yl,Ym,Yn,Yo,Yp,Yq,Yr,Ys,Yt,Yu,Yv,Yw,Yx,Yy,Yz,YA,YB,YC,YD,YE,YF,YG,YH,YI,YJ,YK,YL,YM,YN,YO,YP,YQ,YR,YS,YT, wP, hP, hgt, if_pos hP, Ev5.D, LI_nil]
            · by_cases hG : p = [103, 114, 111, 119]
              · simp only [Ja,Jb,Jc,Jd,Je,Jf,Jg,Jh,Ji,Jj,Jk,Jl,Jm,Jn,Jo,Jp,Jq,Jr,Js,Jt,Ju,Jv,Jw,envA,lensOf,Jx,Jy,Jz,JA,JB,JC,JD,JE,JF,JG,JH,JI,JJ,JK,JL,JM,JN,JO,JP,JQ,JR,JS,JT,JU,JV,JW,↓reduceIte,if_true,reduceCtorEq,Nat.reduceEqDiff,JX,JY,JZ,J0,J1,J2,J3,J4,J5,J6,J7,Ya,Yb,Yc,Yd,Ye,Yf,Int.cast_ofNat_Int,Yg,Yh,Int.reduceLT,Int.reduceLE,Int.reduceEq,Int.reduceAdd,Int.reduceMul,Int.reduceSub,Int.reduceNeg,Yi,Yj,Yk,Yl,Ym,Yn,Yo,Yp,Yq,Yr,Ys,Yt,Yu,Yv,Yw,Yx,Yy,Yz,YA,YB,YC,YD,YE,YF,YG,YH,YI,YJ,YK,YL,YM,YN,YO,YP,YQ,YR,YS,YT, wP, wG, hG, d1, hgt, if_neg hP, if_pos hG, hp1, hg, Ev5.D, LI_nil, -YE]
                rfl
              · by_cases hT : p = [116, 97, 107, 101]
                · simp only [Ja,Jb,Jc,Jd,Je,Jf,Jg,Jh,Ji,Jj,Jk,Jl,Jm,Jn,Jo,Jp,Jq,Jr,Js,Jt,Ju,Jv,Jw,envA,lensOf,Jx,Jy,Jz,JA,JB,JC,JD,JE,JF,JG,JH,JI,JJ,JK,JL,JM,JN,JO,JP,JQ,JR,JS,JT,JU,JV,JW,↓reduceIte,if_true,reduceCtorEq,Nat.reduceEqDiff,JX,JY,JZ,J0,J1,J2,J3,J4,J5,J6,J7,Ya,Yb,Yc,Yd,Ye,Yf,Int.cast_ofNat_Int,Yg,Yh,Int.reduceLT,Int.reduceLE,Int.reduceEq,Int.reduceAdd,Int.reduceMul,Int.reduceSub,Int.reduceNeg,Yi,Yj,Yk,Yl,Ym,Yn,Yo,Yp,Yq,Yr,Ys,Yt,Yu,Yv,Yw,Yx,Yy,Yz,YA,YB,YC,YD,YE,YF,YG,YH,YI,YJ,YK,YL,YM,YN,YO,YP,YQ,YR,YS,YT, wP, wG, wT, hT, d2, d3, hgt, if_neg hP, if_neg hG, if_pos hT, hr1, cutLI, Ev5.D, LI_nil, -YG]
                  rfl
                · by_cases hV : p = [103, 105, 118, 101]
                  · simp only [Ja,Jb,Jc,Jd,Je,Jf,Jg,Jh,Ji,Jj,Jk,Jl,Jm,Jn,Jo,Jp,Jq,Jr,Js,Jt,Ju,Jv,Jw,envA,lensOf,Jx,Jy,Jz,JA,JB,JC,JD,JE,JF,JG,JH,JI,JJ,JK,JL,JM,JN,JO,JP,JQ,JR,JS,JT,JU,JV,JW,↓reduceIte,if_true,reduceCtorEq,Nat.reduceEqDiff,JX,JY,JZ,J0,J1,J2,J3,J4,J5,J6,J7,Ya,Yb,Yc,Yd,Ye,Yf,Int.cast_ofNat_Int,Yg,Yh,Int.reduceLT,Int.reduceLE,Int.reduceEq,Int.reduceAdd,Int.reduceMul,Int.reduceSub,Int.reduceNeg,Yi,Yj,Yk,Yl,Ym,Yn,Yo,Yp,Yq,Yr,Ys,Yt,Yu,Yv,Yw,Yx,Yy,Yz,YA,YB,YC,YD,YE,YF,YG,YH,YI,YJ,YK,YL,YM,YN,YO,YP,YQ,YR,YS,YT, wP, wG, wT, wV, hV, d4, d5, d6, hgt, if_neg hP, if_neg hG, if_neg hT, if_pos hV, hr1, cutLI, Ev5.D, LI_nil, -YG]
                    rfl
                  · simp only [Ja,Jb,Jc,Jd,Je,Jf,Jg,Jh,Ji,Jj,Jk,Jl,Jm,Jn,Jo,Jp,Jq,Jr,Js,Jt,Ju,Jv,Jw,envA,lensOf,Jx,Jy,Jz,JA,JB,JC,JD,JE,JF,JG,JH,JI,JJ,JK,JL,JM,JN,JO,JP,JQ,JR,JS,JT,JU,JV,JW,↓reduceIte,if_true,reduceCtorEq,Nat.reduceEqDiff,JX,JY,JZ,J0,J1,J2,J3,J4,J5,J6,J7,Ya,Yb,Yc,Yd,Ye,Yf,Int.cast_ofNat_Int,Yg,Yh,Int.reduceLT,Int.reduceLE,Int.reduceEq,Int.reduceAdd,Int.reduceMul,Int.reduceSub,Int.reduceNeg,Yi,Yj,Yk,Yl,Ym,Yn,Yo,Yp,Yq,Yr,Ys,Yt,Yu,Yv,Yw,Yx,Yy,Yz,YA,YB,YC,YD,YE,YF,YG,YH,YI,YJ,YK,YL,YM,YN,YO,YP,YQ,YR,YS,YT, wP, wG, wT, wV, hg1 _ _ hP, hg1 _ _ hG, hg1 _ _ hT, hg1 _ _ hV, if_neg hP, if_neg hG, if_neg hT, if_neg hV, Ev5.D, LI_nil]
          · rintro ws rfl
            have hvl : (mkI p x xs).vs.length < 9223372036854775808 := by
              have := allV_len hxs
              simp only [List.length_cons] at this hc1
              unfold mkI
              split
              · simp
              · split
                · simp
                · split
                  · simp only; omega
                  · split
                    · simp only; omega
                    · simp
            generalize mkI p x xs = e at hvl
            obtain ⟨k, w, n, rk, vs⟩ := e
            simp only at hvl
            simp only [Ja,Jb,Jc,Jd,Je,Jf,Jg,Jh,Ji,Jj,Jk,Jl,Jm,Jn,Jo,Jp,Jq,Jr,Js,Jt,Ju,Jv,Jw,envA,lensOf,Jx,Jy,Jz,JA,JB,JC,JD,JE,JF,JG,JH,JI,JJ,JK,JL,JM,JN,JO,JP,JQ,JR,JS,JT,JU,JV,JW,↓reduceIte,if_true,reduceCtorEq,Nat.reduceEqDiff,JX,JY,JZ,J0,J1,J2,J3,J4,J5,J6,J7,Ya,Yb,Yc,Yd,Ye,Yf,Int.cast_ofNat_Int,Yg,Yh,Int.reduceLT,Int.reduceLE,Int.reduceEq,Int.reduceAdd,Int.reduceMul,Int.reduceSub,Int.reduceNeg,Yi,Yj,Yk,Yl,Ym,Yn,Yo,Yp,Yq,Yr,Ys,Yt,Yu,Yv,Yw,Yx,Yy,Yz,YA,YB,YC,YD,YE,YF,YG,YH,YI,YJ,YK,YL,YM,YN,YO,YP,YQ,YR,YS,YT, Ev5.D, len_LI]
            refine WC.mk (f19 k w n rk vs hvl) ?_
            cases ho : evOk k w n rk vs with
            | false =>
              simp only [Ja,Jb,Jc,Jd,Je,Jf,Jg,Jh,Ji,Jj,Jk,Jl,Jm,Jn,Jo,Jp,Jq,Jr,Js,Jt,Ju,Jv,Jw,envA,lensOf,Jx,Jy,Jz,JA,JB,JC,JD,JE,JF,JG,JH,JI,JJ,JK,JL,JM,JN,JO,JP,JQ,JR,JS,JT,JU,JV,JW,↓reduceIte,if_true,reduceCtorEq,Nat.reduceEqDiff,JX,JY,JZ,J0,J1,J2,J3,J4,J5,J6,J7,Ya,Yb,Yc,Yd,Ye,Yf,Int.cast_ofNat_Int,Yg,Yh,Int.reduceLT,Int.reduceLE,Int.reduceEq,Int.reduceAdd,Int.reduceMul,Int.reduceSub,Int.reduceNeg,Yi,Yj,Yk,Yl,Ym,Yn,Yo,Yp,Yq,Yr,Ys,Yt,Yu,Yv,Yw,Yx,Yy,Yz,YA,YB,YC,YD,YE,YF,YG,YH,YI,YJ,YK,YL,YM,YN,YO,YP,YQ,YR,YS,YT, resD, Ev5.ok, ho, badD]
            | true =>
              simp only [Ja,Jb,Jc,Jd,Je,Jf,Jg,Jh,Ji,Jj,Jk,Jl,Jm,Jn,Jo,Jp,Jq,Jr,Js,Jt,Ju,Jv,Jw,envA,lensOf,Jx,Jy,Jz,JA,JB,JC,JD,JE,JF,JG,JH,JI,JJ,JK,JL,JM,JN,JO,JP,JQ,JR,JS,JT,JU,JV,JW,↓reduceIte,if_true,reduceCtorEq,Nat.reduceEqDiff,JX,JY,JZ,J0,J1,J2,J3,J4,J5,J6,J7,Ya,Yb,Yc,Yd,Ye,Yf,Int.cast_ofNat_Int,Yg,Yh,Int.reduceLT,Int.reduceLE,Int.reduceEq,Int.reduceAdd,Int.reduceMul,Int.reduceSub,Int.reduceNeg,Yi,Yj,Yk,Yl,Ym,Yn,Yo,Yp,Yq,Yr,Ys,Yt,Yu,Yv,Yw,Yx,Yy,Yz,YA,YB,YC,YD,YE,YF,YG,YH,YI,YJ,YK,YL,YM,YN,YO,YP,YQ,YR,YS,YT]
              refine WC.mk (f24 k w n rk vs ho) ?_
              by_cases ht : etL k w n rk vs = l
              · simp only [Ja,Jb,Jc,Jd,Je,Jf,Jg,Jh,Ji,Jj,Jk,Jl,Jm,Jn,Jo,Jp,Jq,Jr,Js,Jt,Ju,Jv,Jw,envA,lensOf,Jx,Jy,Jz,JA,JB,JC,JD,JE,JF,JG,JH,JI,JJ,JK,JL,JM,JN,JO,JP,JQ,JR,JS,JT,JU,JV,JW,↓reduceIte,if_true,reduceCtorEq,Nat.reduceEqDiff,JX,JY,JZ,J0,J1,J2,J3,J4,J5,J6,J7,Ya,Yb,Yc,Yd,Ye,Yf,Int.cast_ofNat_Int,Yg,Yh,Int.reduceLT,Int.reduceLE,Int.reduceEq,Int.reduceAdd,Int.reduceMul,Int.reduceSub,Int.reduceNeg,Yi,Yj,Yk,Yl,Ym,Yn,Yo,Yp,Yq,Yr,Ys,Yt,Yu,Yv,Yw,Yx,Yy,Yz,YA,YB,YC,YD,YE,YF,YG,YH,YI,YJ,YK,YL,YM,YN,YO,YP,YQ,YR,YS,YT, ht, hgt, resD, Ev5.ok, ho, Ev5.txt, Ev5.D]
              · simp only [Ja,Jb,Jc,Jd,Je,Jf,Jg,Jh,Ji,Jj,Jk,Jl,Jm,Jn,Jo,Jp,Jq,Jr,Js,Jt,Ju,Jv,Jw,envA,lensOf,Jx,Jy,Jz,JA,JB,JC,JD,JE,JF,JG,JH,JI,JJ,JK,JL,JM,JN,JO,JP,JQ,JR,JS,JT,JU,JV,JW,↓reduceIte,if_true,reduceCtorEq,Nat.reduceEqDiff,JX,JY,JZ,J0,J1,J2,J3,J4,J5,J6,J7,Ya,Yb,Yc,Yd,Ye,Yf,Int.cast_ofNat_Int,Yg,Yh,Int.reduceLT,Int.reduceLE,Int.reduceEq,Int.reduceAdd,Int.reduceMul,Int.reduceSub,Int.reduceNeg,Yi,Yj,Yk,Yl,Ym,Yn,Yo,Yp,Yq,Yr,Ys,Yt,Yu,Yv,Yw,Yx,Yy,Yz,YA,YB,YC,YD,YE,YF,YG,YH,YI,YJ,YK,YL,YM,YN,YO,YP,YQ,YR,YS,YT, hg1 _ _ ht, resD, Ev5.ok, ho, Ev5.txt, badD]
                rw [if_neg ht]
end Go.Proofs.YtdjfhggmcigahaaDoor.EBack

/- An event read from its text: what the reference answers. -/
set_option linter.unusedVariables false
set_option linter.unusedSimpArgs false
namespace Go.Proofs.YtdjfhggmcigahaaDoor.EBack
open Go.BH Go.Proofs
set_option maxRecDepth 100000
theorem f35 (l : List UInt8) (hl : l.length ≤ 1048576) : ∃ b k w n rk vs, outI l = [.b b, .i k, .i w, .i n, .i rk, LI vs] ∧ EvF fes 35 [.s (B l)] [.b b, .i k, .i w, .i n, .i rk, LI vs] := by
  have h : ∃ b k w n rk vs, outI l = [.b b, .i k, .i w, .i n, .i rk, LI vs] := by
    have hb : ∃ b k w n rk vs, badD = [.b b, .i k, .i w, .i n, .i rk, LI vs] := ⟨false, 0, 0, 0, 0, [], rfl⟩
    have hr : ∀ e, ∃ b k w n rk vs, resD l e = [.b b, .i k, .i w, .i n, .i rk, LI vs] := fun e => by
      unfold resD
      split
      · exact ⟨true, e.k, e.w, e.n, e.rk, e.vs, rfl⟩
      · exact hb
    unfold outI
    split
    · exact hb
    · split
      · split
        · exact hr _
        · exact hb
      · exact hb
  obtain ⟨b, k, w, n, rk, vs, e⟩ := h
  refine ⟨b, k, w, n, rk, vs, e, ?_⟩
  have h1 := f34 l hl
  rw [e] at h1
  refine EvF.w (fe := e35) (t := t35) rfl rfl ?_
  simp only [Ja,Jb,Jc,Jd,Je,Jf,Jg,Jh,Ji,Jj,Jk,Jl,Jm,Jn,Jo,Jp,Jq,Jr,Js,Jt,Ju,Jv,Jw,envA,lensOf,Jx,Jy,Jz,JA,JB,JC,JD,JE,JF,JG,JH,JI,JJ,JK,JL,JM,JN,JO,JP,JQ,JR,JS,JT,JU,JV,JW,↓reduceIte,if_true,reduceCtorEq,Nat.reduceEqDiff,JX,JY,JZ,J0,J1,J2,J3,J4,J5,J6,J7,Ya,Yb,Yc,Yd,Ye,Yf,Int.cast_ofNat_Int,Yg,Yh,Int.reduceLT,Int.reduceLE,Int.reduceEq,Int.reduceAdd,Int.reduceMul,Int.reduceSub,Int.reduceNeg,Yi,Yj,Yk,Yl,Ym,Yn,Yo,Yp,Yq,Yr,Ys,Yt,Yu,Yv,Yw,Yx,Yy,Yz,YA,YB,YC,YD,YE,YF,YG,YH,YI,YJ,YK,YL,YM,YN,YO,YP,YQ,YR,YS,YT, t35, e35]
  refine WC.mk h1 ?_
  simp only [Ja,Jb,Jc,Jd,Je,Jf,Jg,Jh,Ji,Jj,Jk,Jl,Jm,Jn,Jo,Jp,Jq,Jr,Js,Jt,Ju,Jv,Jw,envA,lensOf,Jx,Jy,Jz,JA,JB,JC,JD,JE,JF,JG,JH,JI,JJ,JK,JL,JM,JN,JO,JP,JQ,JR,JS,JT,JU,JV,JW,↓reduceIte,if_true,reduceCtorEq,Nat.reduceEqDiff,JX,JY,JZ,J0,J1,J2,J3,J4,J5,J6,J7,Ya,Yb,Yc,Yd,Ye,Yf,Int.cast_ofNat_Int,Yg,Yh,Int.reduceLT,Int.reduceLE,Int.reduceEq,Int.reduceAdd,Int.reduceMul,Int.reduceSub,Int.reduceNeg,Yi,Yj,Yk,Yl,Ym,Yn,Yo,Yp,Yq,Yr,Ys,Yt,Yu,Yv,Yw,Yx,Yy,Yz,YA,YB,YC,YD,YE,YF,YG,YH,YI,YJ,YK,YL,YM,YN,YO,YP,YQ,YR,YS,YT, len_LI]
def outS (l : List UInt8) : List D := match cutL l with
  | p :: q :: ps => if 100 < l.length then badD else resD l (mkI p (valV q) (ps.map valV))
  | _ => badD
theorem etL_ne (k w n rk : Int) (vs : List Int) : etL k w n rk vs ≠ [] := by
  unfold etL
  split
  · simp
  · split
    · simp
    · split <;> simp
end Go.Proofs.YtdjfhggmcigahaaDoor.EBack

/- Both read the same event from a line; and what is read back is what was written. -/
set_option linter.unusedVariables false
set_option linter.unusedSimpArgs false
namespace Go.Proofs.YtdjfhggmcigahaaDoor.EBack
open Go.BH Go.Proofs
theorem itoa_len5 {n : Int} (h : -1 ≤ n ∧ n ≤ 5000) : (Lib.itoa n).length ≤ 5 := by
  unfold Lib.itoa
  split
  · have := dec_len 3 n.natAbs (by omega)
    simp
    omega
  · have := dec_len 3 n.toNat (by omega)
    omega
theorem numsT_short : ∀ (ns : List Int), (∀ n ∈ ns, -1 ≤ n ∧ n ≤ 5000) → (numsT ns).length ≤ 6 * ns.length
  | [], _ => by simp [numsT]
  | n :: ns, h => by
    have h1 := itoa_len5 (h n List.mem_cons_self)
    have h2 := numsT_short ns (fun m hm => h m (List.mem_cons_of_mem _ hm))
    simp [numsT]
    omega
theorem ok_text {e : Ev5} (h : e.ok = true) : ∃ p x xs, cutL e.txt = p :: Lib.itoa x :: xs.map Lib.itoa ∧ mkI p x xs = e ∧ (-1 ≤ x ∧ x ≤ 5000) ∧ (∀ y ∈ xs, -1 ≤ y ∧ y ≤ 5000) ∧ e.txt.length ≤ 100 := by
  obtain ⟨k, w, n, rk, vs⟩ := e
  have ns : ∀ p : List UInt8, (p = [112, 105, 99, 107] ∨ p = [103, 114, 111, 119] ∨ p = [116, 97, 107, 101] ∨ p = [103, 105, 118, 101]) → NoSp p := fun p hp => by
    rcases hp with rfl | rfl | rfl | rfl <;> (intro c hc e; subst e; revert hc; decide)
  simp only [Ev5.ok] at h
  unfold evOk at h
  split at h
  · rename_i hk
    subst hk
    simp only [Bool.and_eq_true, decide_eq_true_eq] at h
    obtain ⟨⟨⟨h1, h2⟩, h3⟩, h4⟩ := h
    subst h3
    obtain ⟨r1, r2, r3⟩ := reqOk_spec h4
    have hr : ∀ y ∈ vs, -1 ≤ y ∧ y ≤ 5000 := fun y hy => by have := r3 y hy; omega
    have hall : ∀ y ∈ w :: vs, -1 ≤ y ∧ y ≤ 5000 := fun y hy => by
      rcases List.mem_cons.1 hy with rfl | hy
      · omega
      · exact hr y hy
    have hlen := numsT_short (w :: vs) hall
    have et : ∀ p : List UInt8, p ++ numsT [w] ++ numsT vs = p ++ numsT (w :: vs) := fun p => by simp [numsT]
    rcases r2 with rfl | rfl
    · have htx : (Ev5.mk 1 w 0 1 vs).txt = [116, 97, 107, 101] ++ numsT (w :: vs) := by rw [← et]; rfl
      refine ⟨[116, 97, 107, 101], w, vs, ?_, rfl, by omega, hr, ?_⟩
      · rw [htx, cut_nums _ (ns _ (by simp))]
        rfl
      · rw [htx, List.length_append]
        simp only [List.length_cons, List.length_nil] at hlen ⊢
        omega
    · have htx : (Ev5.mk 1 w 0 2 vs).txt = [103, 105, 118, 101] ++ numsT (w :: vs) := by rw [← et]; rfl
      refine ⟨[103, 105, 118, 101], w, vs, ?_, rfl, by omega, hr, ?_⟩
      · rw [htx, cut_nums _ (ns _ (by simp))]
        rfl
      · rw [htx, List.length_append]
        simp only [List.length_cons, List.length_nil] at hlen ⊢
        omega
  · split at h
    · rename_i hk
      subst hk
      simp only [Bool.and_eq_true, decide_eq_true_eq] at h
      obtain ⟨⟨⟨h1, h2⟩, h3⟩, h4, h5⟩ := h
      subst h3 h4 h5
      have hlen := numsT_short [w] (fun y hy => by rw [List.mem_singleton] at hy; omega)
      have htx : (Ev5.mk 2 w 0 0 []).txt = [112, 105, 99, 107] ++ numsT [w] := rfl
      refine ⟨[112, 105, 99, 107], w, [], ?_, rfl, by omega, by simp, ?_⟩
      · rw [htx, cut_nums _ (ns _ (by simp))]
        rfl
      · rw [htx, List.length_append]
        simp only [List.length_cons, List.length_nil] at hlen ⊢
        omega
    · split at h
      · rename_i hk
        subst hk
        simp only [Bool.and_eq_true, decide_eq_true_eq] at h
        obtain ⟨⟨⟨h1, h2⟩, h3⟩, h4, h5⟩ := h
        subst h1 h4 h5
        have hlen := numsT_short [n] (fun y hy => by rw [List.mem_singleton] at hy; omega)
        have htx : (Ev5.mk 3 0 n 0 []).txt = [103, 114, 111, 119] ++ numsT [n] := rfl
        refine ⟨[103, 114, 111, 119], n, [], ?_, rfl, by omega, by simp, ?_⟩
        · rw [htx, cut_nums _ (ns _ (by simp))]
          rfl
        · rw [htx, List.length_append]
          simp only [List.length_cons, List.length_nil] at hlen ⊢
          omega
      · cases h
theorem allV_itoa : ∀ (xs : List Int), (∀ y ∈ xs, -1 ≤ y ∧ y ≤ 5000) → allV (xs.map Lib.itoa) = some xs
  | [], _ => rfl
  | x :: xs, h => by
    simp only [List.map_cons, allV, atoi_itoa (h x List.mem_cons_self), allV_itoa xs (fun y hy => h y (List.mem_cons_of_mem _ hy)), Option.map_some]
theorem val_map {xs : List Int} (h : ∀ y ∈ xs, -1 ≤ y ∧ y ≤ 5000) : (xs.map Lib.itoa).map valV = xs := by
  rw [List.map_map]
  exact (List.map_congr_left fun x hx => val_itoa (h x hx)).trans (List.map_id _)
theorem outI_text {e : Ev5} (h : e.ok = true) : outI e.txt = .b true :: e.D := by
  obtain ⟨p, x, xs, h1, h2, h3, h4, h5⟩ := ok_text h
  have ha := allV_itoa (x :: xs) (fun y hy => by
    rcases List.mem_cons.1 hy with rfl | hy
    · exact h3
    · exact h4 y hy)
  rw [outI, if_neg (by omega), h1]
  simp only
  rw [show Lib.itoa x :: xs.map Lib.itoa = (x :: xs).map Lib.itoa from rfl, ha]
  simp only
  rw [h2, resD, if_pos ⟨h, rfl⟩]
theorem outS_text {e : Ev5} (h : e.ok = true) : outS e.txt = .b true :: e.D := by
  obtain ⟨p, x, xs, h1, h2, h3, h4, h5⟩ := ok_text h
  rw [outS, h1]
  simp only
  rw [if_neg (by omega), val_itoa h3, val_map h4, h2, resD, if_pos ⟨h, rfl⟩]
theorem out_eq (l : List UInt8) : outS l = outI l := by
  by_cases hex : ∃ e : Ev5, e.ok = true ∧ e.txt = l
  · obtain ⟨e, h, rfl⟩ := hex
    rw [outI_text h, outS_text h]
  · have hb : ∀ e, resD l e = badD := fun e => if_neg (fun h => hex ⟨e, h⟩)
    have h1 : outI l = badD := by
      unfold outI
      split
      · rfl
      · split
        · split
          · exact hb _
          · rfl
        · rfl
    have h2 : outS l = badD := by
      unfold outS
      split
      · split
        · rfl
        · exact hb _
      · rfl
    rw [h1, h2]
end Go.Proofs.YtdjfhggmcigahaaDoor.EBack
