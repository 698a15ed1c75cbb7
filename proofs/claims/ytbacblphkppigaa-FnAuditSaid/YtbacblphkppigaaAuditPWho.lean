/- WhoHas: both sides find the same block. -/
import Derived.Test.YtbacblphkppigaaAuditPScat
set_option linter.unusedVariables false
set_option linter.unusedSimpArgs false
namespace Go.Proofs.Ytbacblphkppigaa.Audit
open Go.BH
attribute [local simp] envA lensOf
theorem rowsOf_two {k k' : CK} {a b : D} : rowsOf [k, k'] 1 [a, b] = [.l [a, b]] := rfl
theorem row_two {k k' : CK} {l : List D} : row [k, k'] (.l l) = l := rfl
def LP (ps : List (Nat × Nat)) : D := .l (ps.map fun p => .l [.i (p.1 : Int), .i (p.2 : Int)])
theorem len_LP (e : List CK) (ps : List (Nat × Nat)) : (Pr.len e).eval [LP ps] = some (.i ps.length) := by simp [LP]
theorem app_LP (ps : List (Nat × Nat)) (a b : Nat) (h : ps.length < 1000000) : (Pr.app [ki64, ki64] 16).eval [LP ps, .l [.l [.i (a : Int), .i (b : Int)]]] = some (LP (ps ++ [(a, b)])) := by
  rw [LP, ev_app, if_pos (by simp; omega)]
  simp [LP]
theorem mk_two (a b : D) : (Pr.mk [ki64, ki64] 1).eval [a, b] = some (.l [.l [a, b]]) := rfl
/-- The blocks in page i, which holds w. -/
def bw (i w : Nat) : List (Nat × Nat) := if kd w = 1 then (ons (mk' w) 32).map (fun j => (16 * i + j * 2 ^ cl w, 2 ^ cl w)) else if kd w = 2 then [(16 * i, 16 * pn w)] else []
def audR : Nat → List Nat → List (Nat × Nat)
  | _, [] => []
  | i, w :: r => bw i w ++ audR (i + 1) r
theorem audR_app : ∀ (k : Nat) (a b : List Nat), audR k (a ++ b) = audR k a ++ audR (k + a.length) b
  | k, [], b => by simp [audR]
  | k, w :: r, b => by
    simp only [List.cons_append, audR, audR_app (k + 1) r b, List.append_assoc, List.length_cons]
    rw [show k + 1 + r.length = k + (r.length + 1) by omega]
theorem audR_take {xs : List Nat} {i : Nat} (h : i < xs.length) : audR 0 (xs.take (i + 1)) = audR 0 (xs.take i) ++ bw i xs[i] := by
  rw [List.take_add_one, List.getElem?_eq_getElem h, audR_app]
  have : (xs.take i).length = i := by simp; omega
  simp [audR, this]
theorem bw_len (i w : Nat) : (bw i w).length ≤ 32 := by
  unfold bw
  split
  · rw [List.length_map]
    exact ons_len _ _
  · split <;> simp
theorem audR_len : ∀ (k : Nat) (l : List Nat), (audR k l).length ≤ 32 * l.length
  | k, [] => by simp [audR]
  | k, w :: r => by
    have h1 := bw_len k w
    have h2 := audR_len (k + 1) r
    simp only [audR, List.length_append, List.length_cons]
    omega
theorem shrI (x j : Nat) (hj : j ≤ 32) : (Pr.sh .shr .u32 .i64).eval [.i (x : Int), .i (j : Int)] = some (.i ((x / 2 ^ j : Nat) : Int)) := by
  rw [ev_shr, if_neg (by omega), show min (j : Int).toNat IntKind.u32.bits = j from by rw [Int.toNat_natCast]; exact Nat.min_eq_left hj, fdivN]
theorem f78 (m : Nat) (h : m < 4294967296) : EvF fes 78 [.i m] [LN (ons m 32)] := by
  refine EvF.w (fe := e78) (t := t78) rfl rfl ?_
  simp [t78, e78]
  refine LW.inv (fun i : Nat => i ≤ 32) (fun i => [.i i, LN (ons m i)]) (fun i => 32 - i) (fun i hi => ?_) (a := 0) (by simp) (by simp [LN, ons])
  have hlen := ons_len m i
  by_cases hl : i < 32
  · have h2 : (i : Int) < 32 := by omega
    have s1 := shrI m i (by omega)
    have s2 : (Pr.bin .and .u32).eval [.i ((m / 2 ^ i : Nat) : Int), .i 1] = some (.i ((m / 2 ^ i % 2 : Nat) : Int)) := andN (m / 2 ^ i) 1 (Nat.lt_of_le_of_lt (Nat.div_le_self _ _) h) (by omega)
    simp only [W_pr, W_ite, W_blk, W_out, Wm_some, den_v, den_k, List.map_cons, List.map_nil, List.cons_append, List.nil_append, List.getElem?_cons_zero, List.getElem?_cons_succ, Option.getD_some, s1, s2, ev_lss, ev_eql, decide_eq_true h2, if_true]
    simp only [LN]
    by_cases hbit : m / 2 ^ i % 2 = 1
    · have hb' : ((m / 2 ^ i % 2 : Nat) : Int) = 1 := by omega
      rw [hb']
      simp
      refine ⟨⟨by omega, by omega⟩, i + 1, by omega, by omega, ?_, ?_⟩
      · rw [wrap64 (by omega)]
        simp
      · rw [ons_succ, if_pos hbit]
        simp
    · have hb' : ¬ ((m / 2 ^ i % 2 : Nat) : Int) = 1 := by omega
      rw [decide_eq_false hb']
      simp
      refine ⟨i + 1, by omega, by omega, ?_, ?_⟩
      · rw [wrap64 (by omega)]
        simp
      · rw [ons_succ, if_neg hbit]
  · obtain rfl : i = 32 := by omega
    simp [LN]
theorem f79 (c : Nat) (h : c < 5) : EvF fes 79 [.i c] [.i ((2 ^ c : Nat) : Int)] := by
  have : c = 0 ∨ c = 1 ∨ c = 2 ∨ c = 3 ∨ c = 4 := by omega
  rcases this with rfl | rfl | rfl | rfl | rfl <;> exact EvF.at 20 (by kernel_rfl)
/-- The first block that has the chunk. -/
def fnd (c : Int) : List (Nat × Nat) → List D
  | [] => [.b false, .i 0, .i 0]
  | p :: r => if (p.1 : Int) ≤ c ∧ c < (p.1 : Int) + p.2 then [.b true, .i p.1, .i p.2] else fnd c r
theorem fnd_step {c : Int} {ps : List (Nat × Nat)} {i : Nat} (h : i < ps.length) : fnd c (ps.drop i) = if (ps[i].1 : Int) ≤ c ∧ c < (ps[i].1 : Int) + ps[i].2 then [.b true, .i ps[i].1, .i ps[i].2] else fnd c (ps.drop (i + 1)) := by
  rw [List.drop_eq_getElem_cons h, fnd]
theorem fnd_neg {c : Int} (h : c < 0) : ∀ ps, fnd c ps = [.b false, .i 0, .i 0]
  | [] => rfl
  | p :: r => by
    rw [fnd, if_neg (by omega), fnd_neg h r]
theorem ons_lt {m i x : Nat} (h : x ∈ ons m i) : x < i := by
  unfold ons at h
  have := (List.mem_filter.1 h).1
  simpa using this
theorem okw_mk {w : Nat} (h : okw w = true) (hk : kd w ≠ 1) : mk' w = 0 := by
  unfold okw okc at h
  by_cases h0 : kd w = 0 ∨ kd w = 3
  · rw [if_pos h0] at h
    simp only [Bool.and_eq_true, decide_eq_true_eq] at h
    exact h.1.2
  · rw [if_neg h0, if_neg hk] at h
    by_cases h2 : kd w = 2
    · rw [if_pos h2] at h
      simp only [Bool.and_eq_true, decide_eq_true_eq] at h
      exact h.1.1.2
    · rw [if_neg h2] at h
      cases h
theorem shlI (o c : Nat) (ho : o < 32) (hc : c < 5) : (Pr.sh .shl .i64 .i64).eval [.i (o : Int), .i (c : Int)] = some (.i ((o * 2 ^ c : Nat) : Int)) := by
  have h2 : 2 ^ c ≤ 2 ^ 4 := Nat.pow_le_pow_right (by omega) (by omega)
  have h3 : o * 2 ^ c ≤ 32 * 2 ^ 4 := Nat.mul_le_mul (by omega) h2
  rw [ev_shl, if_neg (by omega), show min (c : Int).toNat IntKind.i64.bits = c from by rw [Int.toNat_natCast]; exact Nat.min_eq_left (Nat.le_trans (show c ≤ 5 by omega) (by decide))]
  rw [show (o : Int) * 2 ^ c = ((o * 2 ^ c : Nat) : Int) by push_cast; rfl, wrap64N (by omega)]
set_option maxHeartbeats 1000000 in
theorem f80 (xs : List Nat) (hk : okm xs = true) (hx : ∀ n ∈ xs, n < 4294967296) : EvF fes 80 [LN xs] [LP (audR 0 xs)] := by
  refine EvF.w (fe := e80) (t := t80) rfl rfl ?_
  have hL : (Pr.len [ku32]).eval [LN xs] = some (.i xs.length) := by simp [LN]
  obtain ⟨h16, hall⟩ := okm_all' hk
  simp [t80, e80, hL]
  refine LW.inv (fun i : Nat => i ≤ xs.length) (fun i => [.i i, LP (audR 0 (xs.take i))]) (fun i => xs.length - i) (fun i hi => ?_) (a := 0) (by simp) (by simp [LP, audR])
  by_cases hil : i < xs.length
  · have h2 : (i : Int) < xs.length := by omega
    have h1 : ¬ (i : Int) < 0 := by omega
    have hx' := hx _ (List.getElem_mem hil)
    have hw := hall _ (List.getElem_mem hil)
    have hat := audR_take hil
    have hal := audR_len 0 (xs.take i)
    rw [List.length_take] at hal
    have hg : (Pr.get [ku32] 0).eval [LN xs, .i (i : Int)] = some (.i (xs[i] : Int)) := by simp [LN, hil]
    generalize audR 0 (xs.take i) = base at hat hal
    generalize hwe : xs[i] = w at hx' hw hat hg
    simp [hL, h2, h1, len_LP, hg]
    refine CW.mk (f73 w hx') ?_
    simp only [rdw, hw, if_true]
    have hpn : pn w < 256 := by unfold pn; omega
    by_cases h1k : kd w = 1
    · have hc := okw_cl hw h1k
      have hbw : bw i w = (ons (mk' w) 32).map (fun j => (16 * i + j * 2 ^ cl w, 2 ^ cl w)) := by rw [bw, if_pos h1k]
      simp [h1k]
      refine CW.mk (f78 _ (by unfold mk'; omega)) ?_
      have hol := ons_len (mk' w) 32
      have hot : ∀ x ∈ ons (mk' w) 32, x < 32 := fun x hx => ons_lt hx
      rw [hbw] at hat
      generalize ons (mk' w) 32 = os at hat hol hot
      have hLo : (Pr.len [ki64]).eval [LN os] = some (.i os.length) := by simp [LN]
      simp [hLo]
      refine LW.inv (fun j : Nat => j ≤ os.length) (fun j => [.i j, LP (base ++ (os.take j).map (fun j => (16 * i + j * 2 ^ cl w, 2 ^ cl w)))]) (fun j => os.length - j) (fun j hj => ?_) (a := 0) (by simp) (by simp)
      by_cases hjl : j < os.length
      · have g2 : (j : Int) < os.length := by omega
        have g1 : ¬ (j : Int) < 0 := by omega
        have ho := hot _ (List.getElem_mem hjl)
        have hgo : (Pr.get [ki64] 0).eval [LN os, .i (j : Int)] = some (.i (os[j] : Int)) := by simp [LN, hjl]
        have hsh := shlI os[j] (cl w) ho hc
        simp [hLo, g2, g1, len_LP, hgo, hsh, -ev_shl]
        refine CW.mk (f79 (cl w) hc) ?_
        simp [rowsOf_two]
        have hp2 : 2 ^ cl w ≤ 2 ^ 4 := Nat.pow_le_pow_right (by omega) (by omega)
        have hp3 : os[j] * 2 ^ cl w ≤ 32 * 2 ^ 4 := Nat.mul_le_mul (by omega) hp2
        have e2 : (2 : Int) ^ cl w = ((2 ^ cl w : Nat) : Int) := by push_cast; rfl
        rw [e2]
        have e3 : (os[j] : Int) * ((2 ^ cl w : Nat) : Int) = ((os[j] * 2 ^ cl w : Nat) : Int) := by push_cast; rfl
        rw [e3]
        generalize hq : os[j] * 2 ^ cl w = q at hp3
        have e1 : IntKind.i64.wrap (IntKind.i64.wrap ((i : Int) * 16) + (q : Int)) = ((16 * i + q : Nat) : Int) := by
          rw [wrap64 (x := (i : Int) * 16) (by omega), wrap64 (by omega)]
          omega
        rw [e1, app_LP _ _ _ (by simp; omega), Wm_some]
        simp [len_LP]
        refine ⟨j + 1, by omega, by omega, ?_, ?_⟩
        · rw [wrap64 (by omega)]
          simp
        · rw [List.take_add_one, List.getElem?_map, List.getElem?_eq_getElem hjl, ← hq]
          simp
      · have g2 : ¬ (j : Int) < os.length := by omega
        obtain rfl : j = os.length := by omega
        simp [hLo, len_LP, hat]
        refine ⟨i + 1, by omega, by omega, ?_, ?_⟩
        · rw [wrap64 (by omega)]
          simp
        · rw [hat]
    · by_cases h2k : kd w = 2
      · have hbw : bw i w = [(16 * i, 16 * pn w)] := by rw [bw, if_neg h1k, if_pos h2k]
        rw [hbw] at hat
        simp [h1k, h2k, rowsOf_two]
        have e1 : IntKind.i64.wrap ((i : Int) * 16) = ((16 * i : Nat) : Int) := by
          rw [wrap64 (by omega)]
          omega
        have e2 : IntKind.i64.wrap ((pn w : Int) * 16) = ((16 * pn w : Nat) : Int) := by
          rw [wrap64 (by omega)]
          omega
        rw [e1, e2, app_LP _ _ _ (by omega), Wm_some]
        simp [len_LP]
        refine ⟨i + 1, by omega, by omega, ?_, ?_⟩
        · rw [wrap64 (by omega)]
          simp
        · rw [hat]
      · have hbw : bw i w = [] := by rw [bw, if_neg h1k, if_neg h2k]
        rw [hbw, List.append_nil] at hat
        simp [show ¬ (kd w : Int) = 1 by omega, show ¬ (kd w : Int) = 2 by omega, len_LP]
        refine ⟨i + 1, by omega, by omega, ?_, ?_⟩
        · rw [wrap64 (by omega)]
          simp
        · rw [hat]
  · have h2 : ¬ (i : Int) < xs.length := by omega
    obtain rfl : i = xs.length := by omega
    simp [len_LP]
set_option maxHeartbeats 1000000 in
theorem f82 (xs : List Nat) (hl : xs.length < 9223372036854775808) (hx : ∀ n ∈ xs, n < 4294967296) : EvF fes 82 [LN xs] (if okm xs = true then [.b true, LP (audR 0 xs)] else [.b false, LP []]) := by
  refine EvF.w (fe := e82) (t := t82) rfl rfl ?_
  have hL : (Pr.len [ku32]).eval [LN xs] = some (.i xs.length) := by simp [LN]
  simp [t82, e82]
  refine CW.mk (f35 xs hl hx) ?_
  cases hk : okm xs with
  | false => simp [LP]
  | true =>
  obtain ⟨h16, hall⟩ := okm_all' hk
  simp
  refine LW.inv (fun i : Nat => i ≤ xs.length) (fun i => [.i i, LP (audR 0 (xs.take i))]) (fun i => xs.length - i) (fun i hi => ?_) (a := 0) (by simp) (by simp [LP, audR])
  by_cases hil : i < xs.length
  · have h2 : (i : Int) < xs.length := by omega
    have h1 : ¬ (i : Int) < 0 := by omega
    have hx' := hx _ (List.getElem_mem hil)
    have hw := hall _ (List.getElem_mem hil)
    have hat := audR_take hil
    have hal := audR_len 0 (xs.take i)
    rw [List.length_take] at hal
    have hg : (Pr.get [ku32] 0).eval [LN xs, .i (i : Int)] = some (.i (xs[i] : Int)) := by simp [LN, hil]
    generalize audR 0 (xs.take i) = base at hat hal
    generalize hwe : xs[i] = w at hx' hw hat hg
    simp [hL, h2, h1, len_LP, hg]
    refine CW.mk (f23 w hx') ?_
    simp only [rdw, hw, if_true]
    have hpn : pn w < 256 := by unfold pn; omega
    simp
    refine CW.mk (f11 _ (by unfold mk'; omega)) ?_
    have hol := ons_len (mk' w) 32
    have hot : ∀ x ∈ ons (mk' w) 32, x < 32 := fun x hx => ons_lt hx
    have hos : kd w ≠ 1 → ons (mk' w) 32 = [] := fun h => by rw [okw_mk hw h]; decide
    have hbw : bw i w = (ons (mk' w) 32).map (fun j => (16 * i + j * 2 ^ cl w, 2 ^ cl w)) ++ (if kd w = 2 then [(16 * i, 16 * pn w)] else []) := by
      unfold bw
      by_cases h : kd w = 1
      · rw [if_pos h, if_neg (by omega), List.append_nil]
      · rw [if_neg h, hos h]
        rfl
    have hcl : ons (mk' w) 32 ≠ [] → cl w < 5 := fun h => by
      by_cases g : kd w = 1
      · exact okw_cl hw g
      · exact absurd (hos g) h
    rw [hbw, ← List.append_assoc] at hat
    generalize ons (mk' w) 32 = os at hat hol hot hcl
    have hLo : (Pr.len [ki64]).eval [LN os] = some (.i os.length) := by simp [LN]
    simp [hLo]
    refine LW.inv (fun j : Nat => j ≤ os.length) (fun j => [.i j, LP (base ++ (os.take j).map (fun j => (16 * i + j * 2 ^ cl w, 2 ^ cl w)))]) (fun j => os.length - j) (fun j hj => ?_) (a := 0) (by simp) (by simp)
    by_cases hjl : j < os.length
    · have g2 : (j : Int) < os.length := by omega
      have g1 : ¬ (j : Int) < 0 := by omega
      have ho := hot _ (List.getElem_mem hjl)
      have hc := hcl (fun h => by rw [h] at hjl; simp at hjl)
      have hgo : (Pr.get [ki64] 0).eval [LN os, .i (j : Int)] = some (.i (os[j] : Int)) := by simp [LN, hjl]
      have hp2 : 2 ^ cl w ≤ 2 ^ 4 := Nat.pow_le_pow_right (by omega) (by omega)
      have hp3 : os[j] * 2 ^ cl w ≤ 32 * 2 ^ 4 := Nat.mul_le_mul (by omega) hp2
      simp [hLo, g2, g1, len_LP, hgo]
      refine CW.mk (f26 (cl w) hc) ?_
      simp
      refine CW.mk (f26 (cl w) hc) ?_
      simp [rowsOf_two]
      have e2 : (2 : Int) ^ cl w = ((2 ^ cl w : Nat) : Int) := by push_cast; rfl
      rw [e2]
      have e3 : (os[j] : Int) * ((2 ^ cl w : Nat) : Int) = ((os[j] * 2 ^ cl w : Nat) : Int) := by push_cast; rfl
      rw [e3]
      generalize hq : os[j] * 2 ^ cl w = q at hp3
      have e1 : IntKind.i64.wrap (IntKind.i64.wrap (16 * (i : Int)) + IntKind.i64.wrap (q : Int)) = ((16 * i + q : Nat) : Int) := by
        rw [wrap64 (x := 16 * (i : Int)) (by omega), wrap64N (by omega), wrap64 (by omega)]
        omega
      rw [e1, app_LP _ _ _ (by simp; omega), Wm_some]
      simp [len_LP]
      refine ⟨j + 1, by omega, by omega, ?_, ?_⟩
      · rw [wrap64 (by omega)]
        simp
      · rw [List.take_add_one, List.getElem?_map, List.getElem?_eq_getElem hjl, ← hq]
        simp
    · have g2 : ¬ (j : Int) < os.length := by omega
      obtain rfl : j = os.length := by omega
      simp [hLo, len_LP]
      by_cases h2k : kd w = 2
      · rw [if_pos h2k] at hat
        simp [h2k, rowsOf_two]
        have e1 : IntKind.i64.wrap (16 * (i : Int)) = ((16 * i : Nat) : Int) := by
          rw [wrap64 (by omega)]
          omega
        have e2 : IntKind.i64.wrap (16 * (pn w : Int)) = ((16 * pn w : Nat) : Int) := by
          rw [wrap64 (by omega)]
          omega
        rw [e1, e2, app_LP _ _ _ (by simp; omega), Wm_some]
        simp [len_LP]
        refine ⟨i + 1, by omega, by omega, ?_, ?_⟩
        · rw [wrap64 (by omega)]
          simp
        · rw [hat]
          simp
      · rw [if_neg h2k, List.append_nil] at hat
        simp [show ¬ (kd w : Int) = 2 by omega, len_LP]
        refine ⟨i + 1, by omega, by omega, ?_, ?_⟩
        · rw [wrap64 (by omega)]
          simp
        · rw [hat]
  · have h2 : ¬ (i : Int) < xs.length := by omega
    obtain rfl : i = xs.length := by omega
    simp [hL, len_LP]
theorem aud_small {xs : List Nat} (h16 : xs.length ≤ 16) (hall : ∀ w ∈ xs, okw w = true) (hx : ∀ n ∈ xs, n < 4294967296) : ∀ p ∈ audR 0 xs, p.1 ≤ 1000 ∧ p.2 ≤ 10000 := by
  have key : ∀ (k : Nat) (l : List Nat), k + l.length ≤ 16 → (∀ w ∈ l, okw w = true ∧ w < 4294967296) → ∀ p ∈ audR k l, p.1 ≤ 1000 ∧ p.2 ≤ 10000 := by
    intro k l
    induction l generalizing k with
    | nil => intro _ _ p hp; cases hp
    | cons w r ih =>
      intro hk hw p hp
      simp only [List.length_cons] at hk
      simp only [audR] at hp
      rcases List.mem_append.1 hp with hp | hp
      · obtain ⟨hw1, hw2⟩ := hw w List.mem_cons_self
        unfold bw at hp
        split at hp
        · rename_i h1k
          obtain ⟨j, hj, rfl⟩ := List.mem_map.1 hp
          have hj' := ons_lt hj
          have hc := okw_cl hw1 h1k
          have hp2 : 2 ^ cl w ≤ 2 ^ 4 := Nat.pow_le_pow_right (by omega) (by omega)
          have hp3 : j * 2 ^ cl w ≤ 32 * 2 ^ 4 := Nat.mul_le_mul (by omega) hp2
          simp only
          omega
        · split at hp
          · rcases List.mem_singleton.1 hp with rfl
            have : pn w < 256 := by unfold pn; omega
            simp only
            omega
          · cases hp
      · exact ih (k + 1) (by omega) (fun x hx => hw x (List.mem_cons_of_mem _ hx)) p hp
  exact key 0 xs (by omega) (fun w hw => ⟨hall w hw, hx w hw⟩)
def whos (xs : List Nat) (c : Int) : List D := fnd c (if okm xs = true then audR 0 xs else [])
theorem get0_LP {ps : List (Nat × Nat)} {i : Nat} (h : i < ps.length) : (Pr.get [ki64, ki64] 0).eval [LP ps, .i (i : Int)] = some (.i (ps[i].1 : Int)) := by simp [LP, row_two, h]
theorem get1_LP {ps : List (Nat × Nat)} {i : Nat} (h : i < ps.length) : (Pr.get [ki64, ki64] 1).eval [LP ps, .i (i : Int)] = some (.i (ps[i].2 : Int)) := by simp [LP, row_two, h]
theorem f87 (xs : List Nat) (c : Int) (hl : xs.length < 9223372036854775808) (hx : ∀ n ∈ xs, n < 4294967296) : EvF fes 87 [LN xs, .i c] (whos xs c) := by
  refine EvF.w (fe := e87) (t := t87) rfl rfl ?_
  simp [t87, e87]
  refine CW.mk (f77 xs hl hx) ?_
  unfold whos
  cases hk : okm xs with
  | false => simp [fnd]
  | true =>
  simp
  by_cases hc : c < 0
  · simp [hc, fnd_neg hc]
  simp [hc]
  obtain ⟨h16, hall⟩ := okm_all' hk
  refine CW.mk (f80 xs hk hx) ?_
  have hal := audR_len 0 xs
  have hp4 := aud_small h16 hall hx
  have hp3 : (audR 0 xs).length < 1000000 := by omega
  generalize audR 0 xs = ps at hp3 hp4
  simp [len_LP]
  refine LW.inv (fun i : Nat => i ≤ ps.length ∧ fnd c (ps.drop i) = fnd c ps) (fun i => [.i i]) (fun i => ps.length - i) (fun i ⟨hi, hf⟩ => ?_) (a := 0) (by simp) (by simp)
  by_cases hil : i < ps.length
  · have h2 : (i : Int) < ps.length := by omega
    have h1 : ¬ (i : Int) < 0 := by omega
    have g0 := get0_LP hil
    have g1 := get1_LP hil
    have hsm := hp4 _ (List.getElem_mem hil)
    rw [fnd_step hil] at hf
    generalize ps[i] = p at g0 g1 hsm hf
    have hw : IntKind.i64.wrap ((p.1 : Int) + p.2) = (p.1 : Int) + p.2 := wrap64 (by omega)
    by_cases c1 : (p.1 : Int) ≤ c
    · by_cases c2 : c < (p.1 : Int) + p.2
      · rw [if_pos ⟨c1, c2⟩] at hf
        simp [len_LP, h2, h1, g0, g1, c1, c2, hw]
        exact hf
      · rw [if_neg (by omega)] at hf
        simp [len_LP, h2, h1, g0, g1, c1, c2, hw]
        refine ⟨i + 1, ⟨by omega, hf⟩, by omega, ?_⟩
        rw [wrap64 (by omega)]
        simp
    · rw [if_neg (by omega)] at hf
      simp [len_LP, h2, h1, g0, g1, c1]
      refine ⟨i + 1, ⟨by omega, hf⟩, by omega, ?_⟩
      rw [wrap64 (by omega)]
      simp
  · have h2 : ¬ (i : Int) < ps.length := by omega
    obtain rfl : i = ps.length := by omega
    simp [fnd] at hf
    simp [len_LP]
    exact hf
theorem fnd_form (c : Int) : ∀ ps, ∃ (b : Bool) (x y : Int), fnd c ps = [.b b, .i x, .i y]
  | [] => ⟨_, _, _, rfl⟩
  | p :: r => by
    rw [fnd]
    split
    · exact ⟨_, _, _, rfl⟩
    · exact fnd_form c r
end Go.Proofs.Ytbacblphkppigaa.Audit
