/- What is encoded is read back. -/
import Derived.Test.YtbacblphkppigaaRecordToldPErd
set_option linter.unusedVariables false
set_option linter.unusedSimpArgs false
namespace Go.Proofs.Ytbacblphkppigaa.RecordTold
open Go.BH
set_option maxRecDepth 100000
theorem getP (p q : List Nat) (j : Nat) : (p ++ q)[p.length + j]? = q[j]? := by
  rw [List.getElem?_append_right (by omega), show p.length + j - p.length = j by omega]
theorem nrd_nb {p r : List Nat} {n : Nat} (h : n ≤ 65535) : nrd (p ++ (nb n ++ r)) p.length = some (n, p.length + (nb n).length) := by
  have g0 := getP p (nb n ++ r) 0
  have g1 := getP p (nb n ++ r) 1
  have g2 := getP p (nb n ++ r) 2
  rw [Nat.add_zero] at g0
  unfold nrd
  rw [g0, g1, g2]
  unfold nb
  by_cases h1 : n < 128
  · simp only [if_pos h1, List.cons_append, List.nil_append, List.getElem?_cons_zero, List.length_singleton]
  by_cases h2 : n < 16384
  · simp only [if_neg h1, if_pos h2, List.cons_append, List.nil_append, List.getElem?_cons_zero, List.getElem?_cons_succ, List.length_cons, List.length_nil]
    rw [if_neg (by omega), if_pos (by omega), if_neg (by omega)]
    congr 2
    omega
  · simp only [if_neg h1, if_neg h2, List.cons_append, List.nil_append, List.getElem?_cons_zero, List.getElem?_cons_succ, List.length_cons, List.length_nil]
    rw [if_neg (by omega), if_neg (by omega), if_pos (by omega)]
    congr 2
    omega
theorem vb_cons (v : Int) (vs : List Int) : vb (v :: vs) = nb (v + 1).toNat ++ vb vs := by simp [vb]
theorem rdN_vb {r : List Nat} : ∀ {vs : List Int} {p : List Nat} {acc : List Int}, (∀ v ∈ vs, -1 ≤ v ∧ v ≤ 4095) → rdN (p ++ (vb vs ++ r)) vs.length p.length acc = some (acc ++ vs, p.length + (vb vs).length)
  | [], p, acc, _ => by simp [rdN, vb]
  | v :: vs, p, acc, h => by
    have hv := h v List.mem_cons_self
    have e : p ++ (vb (v :: vs) ++ r) = p ++ (nb (v + 1).toNat ++ (vb vs ++ r)) := by rw [vb_cons, List.append_assoc]
    rw [List.length_cons, rdN, e, nrd_nb (by omega)]
    simp only
    have ih := rdN_vb (r := r) (vs := vs) (p := p ++ nb (v + 1).toNat) (acc := acc ++ [(((v + 1).toNat : Nat) : Int) - 1]) (fun x hx => h x (List.mem_cons_of_mem _ hx))
    rw [List.append_assoc, List.length_append] at ih
    rw [ih, vb_cons, List.length_append]
    have : (((v + 1).toNat : Nat) : Int) - 1 = v := by omega
    rw [this]
    simp [Nat.add_assoc]
theorem erd_by {k w n rk : Int} {vs : List Int} (h : evOk k w n rk vs = true) : erd (eb k w n rk vs) = some ⟨k, w, n, rk, vs⟩ := by
  have ho := h
  have hok : Ev.ok ⟨k, w, n, rk, vs⟩ = true := h
  unfold evOk at h
  by_cases k1 : k = 1
  · subst k1
    simp only [if_true, Bool.and_eq_true, decide_eq_true_eq] at h
    obtain ⟨⟨⟨h1, h2⟩, h3⟩, h4⟩ := h
    obtain ⟨q1, q2, q3⟩ := reqOk_spec h4
    subst h3
    have hr : 0 ≤ rk := by omega
    have eE : eb 1 w 0 rk vs = [1] ++ (nb w.toNat ++ ([rk.toNat] ++ (vb vs ++ []))) := by simp [eb]
    have n1 := nrd_nb (p := [1]) (n := w.toNat) (r := [rk.toNat] ++ (vb vs ++ [])) (by omega)
    rw [← eE] at n1
    have eF : eb 1 w 0 rk vs = ([1] ++ nb w.toNat) ++ ([rk.toNat] ++ (vb vs ++ [])) := by rw [eE]; simp
    have gq := getP ([1] ++ nb w.toNat) ([rk.toNat] ++ (vb vs ++ [])) 0
    rw [← eF, Nat.add_zero, List.length_append] at gq
    have eG : eb 1 w 0 rk vs = ([1] ++ nb w.toNat ++ [rk.toNat]) ++ (vb vs ++ []) := by rw [eE]; simp
    have rd := rdN_vb (r := []) (vs := vs) (p := [1] ++ nb w.toNat ++ [rk.toNat]) (acc := []) q3
    rw [← eG, q1] at rd
    have x0 : (eb 1 w 0 rk vs)[0]? = some 1 := by rw [eE]; rfl
    have hlen : (eb 1 w 0 rk vs).length = ([1] ++ nb w.toNat ++ [rk.toNat]).length + (vb vs).length := by rw [eG]; simp; omega
    simp only [List.length_append, List.length_singleton] at n1 gq rd hlen
    unfold erd epre
    rw [n1]
    simp only [x0, gq, rd]
    simp only [List.cons_append, List.nil_append, List.getElem?_cons_zero, Option.some.injEq, show ¬ (1 : Nat) = 3 by omega, if_false, if_true]
    have w1 : ((w.toNat : Nat) : Int) = w := by omega
    have w2 : ((rk.toNat : Nat) : Int) = rk := by omega
    rw [w1, w2, hlen, if_pos ⟨rfl, hok⟩]
  rw [if_neg k1] at h
  by_cases k2 : k = 2
  · subst k2
    simp only [if_true, Bool.and_eq_true, decide_eq_true_eq] at h
    obtain ⟨⟨⟨h1, h2⟩, h3⟩, h4, h5⟩ := h
    subst h3 h4 h5
    have eE : eb 2 w 0 0 [] = [2] ++ (nb w.toNat ++ []) := by simp [eb]
    have n1 := nrd_nb (p := [2]) (n := w.toNat) (r := []) (by omega)
    rw [← eE] at n1
    have x0 : (eb 2 w 0 0 [])[0]? = some 2 := by rw [eE]; rfl
    have hlen : (eb 2 w 0 0 []).length = 1 + (nb w.toNat).length := by rw [eE]; simp; omega
    simp only [List.length_singleton] at n1
    unfold erd epre
    rw [n1]
    simp only [x0, Option.some.injEq, show ¬ (2 : Nat) = 3 by omega, show ¬ (2 : Nat) = 1 by omega, if_false, Option.getD_some]
    have w1 : ((w.toNat : Nat) : Int) = w := by omega
    rw [w1, hlen, if_pos ⟨rfl, hok⟩]
    rfl
  rw [if_neg k2] at h
  by_cases k3 : k = 3
  · subst k3
    simp only [if_true, Bool.and_eq_true, decide_eq_true_eq] at h
    obtain ⟨⟨⟨h1, h2⟩, h3⟩, h4, h5⟩ := h
    subst h1 h4 h5
    have eE : eb 3 0 n 0 [] = [3] ++ (nb n.toNat ++ []) := by simp [eb]
    have n1 := nrd_nb (p := [3]) (n := n.toNat) (r := []) (by omega)
    rw [← eE] at n1
    have x0 : (eb 3 0 n 0 [])[0]? = some 3 := by rw [eE]; rfl
    have hlen : (eb 3 0 n 0 []).length = 1 + (nb n.toNat).length := by rw [eE]; simp; omega
    simp only [List.length_singleton] at n1
    unfold erd epre
    rw [n1]
    simp only [x0, if_true]
    have w1 : ((n.toNat : Nat) : Int) = n := by omega
    rw [w1, hlen, if_pos ⟨rfl, hok⟩]
  · rw [if_neg k3] at h
    cases h
end Go.Proofs.Ytbacblphkppigaa.RecordTold
