/- What a function computes, as a tree; two trees that are the same. -/
import Derived.Test.YtdjfhggmcigahaaDoorB23
set_option linter.unusedVariables false
set_option linter.unusedSimpArgs false
namespace Go.BH
open Go.RowKit
/-- out: it leaves (0: by its end, 1: it returns, 2 + n: it leaves block n) with these data. -/
inductive Tr where
  | out (e : Nat) (xs : List At)
  | nd (n : Nd) (t : Tr)
  | ite (a : At) (t f : Tr)
  | seq (ps : List CK) (a b : Tr)
  | loop (ps : List CK) (xs : List At) (b : Tr)
  | blk (e : Nat) (ps : List CK) (a b : Tr)
  | both (a : At) (t f : Tr)
  deriving Inhabited
def iter (body : List D → Option (Nat × List D)) : Nat → List D → Option (Nat × List D)
  | 0, _ => none
  | k + 1, vs => match body vs with
    | some (0, ws) => iter body k ws
    | r => r
/-- Both, where they are one. -/
noncomputable def agree (x y : Option (Nat × List D)) : Option (Nat × List D) := open Classical in if x = y then x else none
theorem agree_some {x y : Option (Nat × List D)} {o : Nat × List D} (h : agree x y = some o) : x = some o ∧ y = some o := by
  unfold agree at h
  split at h
  · rename_i e
    subst e
    exact ⟨h, h⟩
  · cases h
theorem agree_self {x : Option (Nat × List D)} : agree x x = x := by
  unfold agree
  rw [if_pos rfl]
/-- Is it the empty list? -/
def D.isE : D → Bool
  | .l [] => true
  | _ => false
/-- What the tree leaves with; k: how often a loop may go round. -/
noncomputable def Tr.den (Φ : Fns) (k : Nat) : Tr → List D → Option (Nat × List D)
  | .out e xs, env => some (e, xs.map (At.den env))
  | .nd n t, env => match runNd Φ n env with
    | some ds => Tr.den Φ k t (env ++ ds)
    | none => none
  | .ite a t f, env => match a.den env with
    | .b true => Tr.den Φ k t env
    | .b false => Tr.den Φ k f env
    | _ => none
  | .seq _ a b, env => match Tr.den Φ k a env with
    | some (0, vs) => Tr.den Φ k b (env ++ vs)
    | r => r
  | .loop _ xs b, env => iter (fun vs => Tr.den Φ k b (env ++ vs)) k (xs.map (At.den env))
  | .blk e _ a b, env => match Tr.den Φ k a env with
    | some (0, vs) => Tr.den Φ k b (env ++ vs)
    | some (e', vs) => if Nat.beq e' e = true then Tr.den Φ k b (env ++ vs) else some (e', vs)
    | none => none
  | .both a t f, env => if (a.den env).isE = true then agree (Tr.den Φ k t env) (Tr.den Φ k f env) else Tr.den Φ k f env
def ndsT : List Nd → Tr → Tr
  | [], t => t
  | n :: r, t => .nd n (ndsT r t)
theorem den_ndsT {Φ : Fns} {k : Nat} {t : Tr} : ∀ {nds : List Nd} {env : List D} {o : Nat × List D}, (ndsT nds t).den Φ k env = some o → ∃ env', runNds Φ nds env = some env' ∧ t.den Φ k env' = some o
  | [], env, o, h => ⟨env, rfl, h⟩
  | n :: r, env, o, h => by
    simp only [ndsT, Tr.den] at h
    split at h
    · rename_i ds hd
      obtain ⟨env', h1, h2⟩ := den_ndsT h
      exact ⟨env', by simp only [runNds, hd]; exact h1, h2⟩
    · cases h
/-! ### the same -/
inductive PT where
  | bin | sh | cmp | cmpS | cat | not | and | or | eqb | nat | neg | com | conv | mx | mn | len | lenS | get | ixc | cut | cutS | rng | plus | idxS | app | mk | mkz | set | bstr | ite
  deriving DecidableEq
structure Cd where
  t : PT
  ns : List Nat
  ks : List IntKind
  es : List (List CK)
  as : List At
def boN : BinOp → Nat
  | .add => 0 | .sub => 1 | .mul => 2 | .quo => 3 | .rem => 4 | .and => 5 | .or => 6 | .xor => 7 | .andNot => 8 | .shl => 9 | .shr => 10
  | .eql => 11 | .neq => 12 | .lss => 13 | .leq => 14 | .gtr => 15 | .geq => 16
def noB : Nat → BinOp
  | 0 => .add | 1 => .sub | 2 => .mul | 3 => .quo | 4 => .rem | 5 => .and | 6 => .or | 7 => .xor | 8 => .andNot | 9 => .shl | 10 => .shr
  | 11 => .eql | 12 => .neq | 13 => .lss | 14 => .leq | 15 => .gtr | _ => .geq
def Pr.code : Pr → Cd
  | .bin o k => ⟨.bin, [boN o], [k], [], []⟩
  | .sh o k y => ⟨.sh, [boN o], [k, y], [], []⟩
  | .cmp o k => ⟨.cmp, [boN o], [k], [], []⟩
  | .cmpS o => ⟨.cmpS, [boN o], [], [], []⟩
  | .cat => ⟨.cat, [], [], [], []⟩
  | .not => ⟨.not, [], [], [], []⟩
  | .and => ⟨.and, [], [], [], []⟩
  | .or => ⟨.or, [], [], [], []⟩
  | .eqb => ⟨.eqb, [], [], [], []⟩
  | .nat k => ⟨.nat, [], [k], [], []⟩
  | .neg k => ⟨.neg, [], [k], [], []⟩
  | .com k => ⟨.com, [], [k], [], []⟩
  | .conv k k' => ⟨.conv, [], [k, k'], [], []⟩
  | .mx k => ⟨.mx, [], [k], [], []⟩
  | .mn k => ⟨.mn, [], [k], [], []⟩
  | .len e => ⟨.len, [], [], [e], []⟩
  | .lenS => ⟨.lenS, [], [], [], []⟩
  | .get e j => ⟨.get, [j], [], [e], []⟩
  | .ixc k => ⟨.ixc, [], [k], [], []⟩
  | .cut e k k' => ⟨.cut, [], [k, k'], [e], []⟩
  | .cutS k k' => ⟨.cutS, [], [k, k'], [], []⟩
  | .rng k k' => ⟨.rng, [], [k, k'], [], []⟩
  | .plus => ⟨.plus, [], [], [], []⟩
  | .idxS k => ⟨.idxS, [], [k], [], []⟩
  | .app e b => ⟨.app, [b], [], [e], []⟩
  | .mk e n => ⟨.mk, [n], [], [e], []⟩
  | .mkz e k b z => ⟨.mkz, [b], [k], [e], z.map .k⟩
  | .set e j => ⟨.set, [j], [], [e], []⟩
  | .bstr => ⟨.bstr, [], [], [], []⟩
  | .ite k => ⟨.ite, [], [], [[k]], []⟩
def atD : At → D
  | .k d => d
  | .v _ => .l []
def Pr.decode : Cd → Pr
  | ⟨.bin, [o], [k], _, _⟩ => .bin (noB o) k
  | ⟨.sh, [o], [k, y], _, _⟩ => .sh (noB o) k y
  | ⟨.cmp, [o], [k], _, _⟩ => .cmp (noB o) k
  | ⟨.cmpS, [o], _, _, _⟩ => .cmpS (noB o)
  | ⟨.cat, _, _, _, _⟩ => .cat
  | ⟨.not, _, _, _, _⟩ => .not
  | ⟨.and, _, _, _, _⟩ => .and
  | ⟨.or, _, _, _, _⟩ => .or
  | ⟨.eqb, _, _, _, _⟩ => .eqb
  | ⟨.nat, _, [k], _, _⟩ => .nat k
  | ⟨.neg, _, [k], _, _⟩ => .neg k
  | ⟨.com, _, [k], _, _⟩ => .com k
  | ⟨.conv, _, [k, k'], _, _⟩ => .conv k k'
  | ⟨.mx, _, [k], _, _⟩ => .mx k
  | ⟨.mn, _, [k], _, _⟩ => .mn k
  | ⟨.len, _, _, [e], _⟩ => .len e
  | ⟨.lenS, _, _, _, _⟩ => .lenS
  | ⟨.get, [j], _, [e], _⟩ => .get e j
  | ⟨.ixc, _, [k], _, _⟩ => .ixc k
  | ⟨.cut, _, [k, k'], [e], _⟩ => .cut e k k'
  | ⟨.cutS, _, [k, k'], _, _⟩ => .cutS k k'
  | ⟨.rng, _, [k, k'], _, _⟩ => .rng k k'
  | ⟨.plus, _, _, _, _⟩ => .plus
  | ⟨.idxS, _, [k], _, _⟩ => .idxS k
  | ⟨.app, [b], _, [e], _⟩ => .app e b
  | ⟨.mk, [n], _, [e], _⟩ => .mk e n
  | ⟨.mkz, [b], [k], [e], z⟩ => .mkz e k b (z.map atD)
  | ⟨.set, [j], _, [e], _⟩ => .set e j
  | ⟨.bstr, _, _, _, _⟩ => .bstr
  | ⟨.ite, _, _, [[k]], _⟩ => .ite k
  | _ => .bstr
theorem noB_boN (o : BinOp) : noB (boN o) = o := by cases o <;> rfl
set_option maxHeartbeats 2000000 in
theorem Pr.decode_code (p : Pr) : Pr.decode p.code = p := by
  cases p <;> simp only [Pr.code, Pr.decode, noB_boN]
  rename_i e k b z
  rw [List.map_map]
  congr 1
  induction z with
  | nil => rfl
  | cons x xs ih => simp only [List.map_cons, ih]; rfl
def nsB : List Nat → List Nat → Bool
  | [], [] => true
  | x :: xs, y :: ys => Nat.beq x y && nsB xs ys
  | _, _ => false
theorem nsB_eq : ∀ {a b : List Nat}, nsB a b = true → a = b
  | [], [], _ => rfl
  | [], _ :: _, h => by simp [nsB] at h
  | _ :: _, [], h => by simp [nsB] at h
  | x :: xs, y :: ys, h => by
    simp only [nsB, Bool.and_eq_true] at h
    rw [Nat.eq_of_beq_eq_true h.1, nsB_eq h.2]
def ksB : List IntKind → List IntKind → Bool
  | [], [] => true
  | x :: xs, y :: ys => decide (x = y) && ksB xs ys
  | _, _ => false
theorem ksB_eq : ∀ {a b : List IntKind}, ksB a b = true → a = b
  | [], [], _ => rfl
  | [], _ :: _, h => by simp [ksB] at h
  | _ :: _, [], h => by simp [ksB] at h
  | x :: xs, y :: ys, h => by
    simp only [ksB, Bool.and_eq_true] at h
    rw [of_decide_eq_true h.1, ksB_eq h.2]
def esB : List (List CK) → List (List CK) → Bool
  | [], [] => true
  | x :: xs, y :: ys => CK.beqs x y && esB xs ys
  | _, _ => false
theorem esB_eq : ∀ {a b : List (List CK)}, esB a b = true → a = b
  | [], [], _ => rfl
  | [], _ :: _, h => by simp [esB] at h
  | _ :: _, [], h => by simp [esB] at h
  | x :: xs, y :: ys, h => by
    simp only [esB, Bool.and_eq_true] at h
    rw [CK.beqs_eq h.1, esB_eq h.2]
def asB : List At → List At → Bool
  | [], [] => true
  | x :: xs, y :: ys => At.beq x y && asB xs ys
  | _, _ => false
theorem asB_eq : ∀ {a b : List At}, asB a b = true → a = b
  | [], [], _ => rfl
  | [], _ :: _, h => by simp [asB] at h
  | _ :: _, [], h => by simp [asB] at h
  | x :: xs, y :: ys, h => by
    simp only [asB, Bool.and_eq_true] at h
    rw [At.beq_eq h.1, asB_eq h.2]
def Pr.beq (p q : Pr) : Bool := decide (p.code.t = q.code.t) && nsB p.code.ns q.code.ns && ksB p.code.ks q.code.ks && esB p.code.es q.code.es && asB p.code.as q.code.as
theorem Pr.beq_eq {p q : Pr} (h : Pr.beq p q = true) : p = q := by
  simp only [Pr.beq, Bool.and_eq_true] at h
  obtain ⟨⟨⟨⟨h1, h2⟩, h3⟩, h4⟩, h5⟩ := h
  rw [← Pr.decode_code p, ← Pr.decode_code q]
  congr 1
  have h1 := of_decide_eq_true h1
  have h2 := nsB_eq h2
  have h3 := ksB_eq h3
  have h4 := esB_eq h4
  have h5 := asB_eq h5
  cases hp : p.code
  cases hq : q.code
  rw [hp, hq] at h1 h2 h3 h4 h5
  simp only at h1 h2 h3 h4 h5
  rw [h1, h2, h3, h4, h5]
def Nd.beq : Nd → Nd → Bool
  | .pr p xs, .pr q ys => Pr.beq p q && asB xs ys
  | .call f xs ps tys, .call g ys qs us => Nat.beq f g && asB xs ys && CK.beqs ps qs && CK.beqs tys us
  | _, _ => false
theorem Nd.beq_eq {a b : Nd} (h : Nd.beq a b = true) : a = b := by
  cases a <;> cases b <;> simp only [Nd.beq, Bool.and_eq_true] at h
  · rw [Pr.beq_eq h.1, asB_eq h.2]
  · cases h
  · cases h
  · obtain ⟨⟨⟨h1, h2⟩, h3⟩, h4⟩ := h
    rw [Nat.eq_of_beq_eq_true h1, asB_eq h2, CK.beqs_eq h3, CK.beqs_eq h4]
def Tr.beq : Tr → Tr → Bool
  | .out e xs, .out e' ys => Nat.beq e e' && asB xs ys
  | .nd n t, .nd n' t' => Nd.beq n n' && Tr.beq t t'
  | .ite a t f, .ite a' t' f' => At.beq a a' && Tr.beq t t' && Tr.beq f f'
  | .seq ps a b, .seq ps' a' b' => CK.beqs ps ps' && Tr.beq a a' && Tr.beq b b'
  | .loop ps xs b, .loop ps' ys b' => CK.beqs ps ps' && asB xs ys && Tr.beq b b'
  | .blk e ps a b, .blk e' ps' a' b' => Nat.beq e e' && CK.beqs ps ps' && Tr.beq a a' && Tr.beq b b'
  | .both a t f, .both a' t' f' => At.beq a a' && Tr.beq t t' && Tr.beq f f'
  | _, _ => false
theorem Tr.beq_eq : ∀ {a b : Tr}, Tr.beq a b = true → a = b
  | .out e xs, b, h => by
    cases b <;> simp only [Tr.beq, Bool.and_eq_true] at h <;> first | cases h; done | skip
    rw [Nat.eq_of_beq_eq_true h.1, asB_eq h.2]
  | .nd n t, b, h => by
    cases b <;> simp only [Tr.beq, Bool.and_eq_true] at h <;> first | cases h; done | skip
    rw [Nd.beq_eq h.1, Tr.beq_eq h.2]
  | .ite a t f, b, h => by
    cases b <;> simp only [Tr.beq, Bool.and_eq_true] at h <;> first | cases h; done | skip
    rw [At.beq_eq h.1.1, Tr.beq_eq h.1.2, Tr.beq_eq h.2]
  | .seq ps a c, b, h => by
    cases b <;> simp only [Tr.beq, Bool.and_eq_true] at h <;> first | cases h; done | skip
    rw [CK.beqs_eq h.1.1, Tr.beq_eq h.1.2, Tr.beq_eq h.2]
  | .loop ps xs c, b, h => by
    cases b <;> simp only [Tr.beq, Bool.and_eq_true] at h <;> first | cases h; done | skip
    rw [CK.beqs_eq h.1.1, asB_eq h.1.2, Tr.beq_eq h.2]
  | .blk e ps a c, b, h => by
    cases b <;> simp only [Tr.beq, Bool.and_eq_true] at h <;> first | cases h; done | skip
    rw [Nat.eq_of_beq_eq_true h.1.1.1, CK.beqs_eq h.1.1.2, Tr.beq_eq h.1.2, Tr.beq_eq h.2]
  | .both a t f, b, h => by
    cases b <;> simp only [Tr.beq, Bool.and_eq_true] at h <;> first | cases h; done | skip
    rw [At.beq_eq h.1.1, Tr.beq_eq h.1.2, Tr.beq_eq h.2]
/-! ### effects, all of them -/
def frzAll : List Nat → SS → Option SS
  | [], σ => some σ
  | i :: r, σ => match hgetS σ.H i with
    | some (.arr _ _ _) => (match σ.frz i with
      | some σ' => frzAll r σ'
      | none => none)
    | _ => frzAll r σ
mutual
/-- The names of slices in a value. -/
def slN : SV → List Nat
  | .sl i _ _ _ => [i]
  | .agg xs => slNs xs
  | .any => []
  | .dat _ _ => []
  | .lz _ _ => []
  | .K _ => []
  | .nilS => []
  | .e0 => []
  | .ifc _ => []
  | .ptr _ _ => []
  | .ptrE _ _ _ _ => []
  | .pfz _ _ _ _ _ => []
  | .tup _ => []
  | .fn _ _ => []
def slNs : List SV → List Nat
  | [] => []
  | x :: xs => slN x ++ slNs xs
end
structure Cx where
  tab : TyTab
  sigs : List Sig
  win : Bool
/-- Is a block of the call's own cut, and to be cut for good? -/
def winOp (C : Cx) (σ : SS) (op : Op) : Bool :=
  match op with
  | .slice _ x _ _ none => (match C.win with
    | true => (match σ.ev x with
      | .sl _ _ _ _ => true
      | _ => false)
    | false => false)
  | _ => false
def sPureC (C : Cx) (kp : Nat → Bool) (σ : SS) (m : Nat) (op : Op) : Option (List Nd × SV) :=
  match winOp C σ op with
  | true => none
  | false => sPure C.tab kp σ m op
def sEff (C : Cx) (ks : List Nat) (σ : SS) (m : Nat) (op : Op) : Option (List Nd × SV × SS) :=
  match op with
  | .alloc t => (match sAlloc C.tab ks σ t with
    | some (v, σ') => some ([], v, σ')
    | none => none)
  | .box t x => (match sBox ks σ (σ.ev x) with
    | some (v, σ') => some ([], v, σ')
    | none => none)
  | .buildSlice t n ⟨ps⟩ => sMkSlice C.tab ks σ m t n ps
  | .store t p x => (match sStore C.tab ks σ m t (σ.ev p) (σ.ev x) with
    | some (nds, σ') => some (nds, .any, σ')
    | none => none)
  | .makeSlice t l c => sMake C.tab ks σ m t (σ.ev l) (σ.ev c)
  | .slice t x lo hi none => sWin C.tab ks σ m t (σ.ev x) lo hi
  | .call ⟨.builtin .append, ⟨[x, y]⟩, ⟨[t, t']⟩⟩ => if Nat.beq t t' = true then sApp C.tab ks σ m t (σ.ev x) (σ.ev y) else none
  | .call ⟨.value x, ⟨args⟩, _⟩ => (match σ.ev x with
    | .fn f caps => sCallF ks σ m f (evS σ args ++ caps) 0 C.sigs
    | _ => none)
  | _ => none
theorem sPureC_eq {C : Cx} {kp : Nat → Bool} {σ : SS} {m : Nat} {op : Op} {r : List Nd × SV} (h : sPureC C kp σ m op = some r) : sPure C.tab kp σ m op = some r := by
  unfold sPureC at h
  split at h
  · cases h
  · exact h
mutual
/-- Slices that a sign wants by value. -/
def wantZ : SV → SV → List Nat
  | .sl i _ _ _, .dat _ _ => [i]
  | .agg xs, .agg ys => wantZs xs ys
  | .fn _ xs, .fn _ ys => wantZs xs ys
  | _, _ => []
def wantZs : List SV → List SV → List Nat
  | x :: xs, y :: ys => wantZ x y ++ wantZs xs ys
  | _, _ => []
end
def sigFor (f : Nat) : List Sig → Option Sig
  | [] => none
  | s :: r => if Nat.beq s.fid f = true then some s else sigFor f r
/-- Which blocks must be frozen ahead of it, so that it goes. -/
def sPre (C : Cx) (σ : SS) (op : Op) (second : Bool) : List Nat :=
  match op with
  | .buildSlice t n ⟨ps⟩ => slNs ((partsS σ ps).map (·.2))
  | .store t p x => (match σ.ev p with
    | .ptrE _ _ _ _ => slN (σ.ev x)
    | _ => [])
  | .call ⟨.value x, ⟨args⟩, _⟩ => (match second with
    | true => (match σ.ev x with
      | .fn f caps => (match sigFor f C.sigs with
        | some s => wantZs (evS σ args ++ caps) s.args
        | none => [])
      | _ => [])
    | false => [])
  | _ => []
section
variable {P : Program} {E : En} {σ : SS} {o : Oper} {ks : List Nat} {C : Cx} {env : List D} {m : Nat} {nds : List Nd} {v : SV} {Φ : Fns}
theorem sEff_ok {σ' : SS} (htab : TabOk P C.tab) (hS : ∀ (j : Nat) (s : Sig), C.sigs[j]? = some s → SigOk P Φ j s) (hg : σ.Good env) (h : sEff C ks σ m o.op = some (nds, v, σ')) (hf : Facts Φ env m nds) : EffR P E ks o σ env v σ' := by
  generalize hop : o.op = op at h
  unfold sEff at h
  split at h
  · split at h
    · rename_i hh; cases h; exact sAlloc_ok htab hg hop hh
    · cases h
  · split at h
    · rename_i hh; cases h; exact sBox_ok hg hop hh
    · cases h
  · exact sMkSlice_ok htab hg hop h hf
  · split at h
    · rename_i hh; cases h; exact sStore_ok htab hg hop hh hf
    · cases h
  · exact sMake_ok htab hg hop h hf
  · exact sWin_ok htab hg hop h hf
  · split at h
    · rename_i ht
      obtain rfl := Nat.eq_of_beq_eq_true ht
      exact sApp_ok htab hg hop h hf
    · cases h
  · split at h
    · rename_i f caps hx
      exact sCallF_ok hg hop hx (fun j s hj => by rw [Nat.zero_add]; exact hS j s hj) h hf
    · cases h
  · cases h
end
end Go.BH
