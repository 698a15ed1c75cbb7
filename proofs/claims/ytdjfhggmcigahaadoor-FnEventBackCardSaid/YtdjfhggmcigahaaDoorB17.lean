/- Pure operations in letters, 3: all of them. -/
import Derived.Test.YtdjfhggmcigahaaDoorB16
set_option linter.unusedVariables false
set_option linter.unusedSimpArgs false
namespace Go.BH
open Go.RowKit
def sPick (m : Nat) (c x y : SV) : Option (List Nd × SV) :=
  match c with
  | .dat .bool (.k (.b true)) => some ([], x)
  | .dat .bool (.k (.b false)) => some ([], y)
  | .dat .bool a => match x, y with
    | .dat k p, .dat k' q => if CK.beq k k' = true then some ([.pr (.ite k) [a, p, q]], .dat k (.v m)) else none
    | _, _ => none
  | _ => none
def sUn (m : Nat) (o : UnOp) (x : SV) : Option (List Nd × SV) :=
  match o, x with
  | .not, .dat .bool (.k (.b t)) => some ([], .dat .bool (.k (.b !t)))
  | .not, .dat .bool a => some ([.pr .not [a]], .dat .bool (.v m))
  | .neg, .dat (.int k) a => some ([.pr (.neg k) [a]], .dat (.int k) (.v m))
  | .xor, .dat (.int k) a => some ([.pr (.com k) [a]], .dat (.int k) (.v m))
  | _, _ => none
def sConv (tab : TyTab) (kp : Nat → Bool) (σ : SS) (m : Nat) (s d : TypeId) (x : SV) : Option (List Nd × SV) :=
  match tyGet tab s, tyGet tab d with
  | some S, some T => match T.kind, x with
    | .int k', .dat (.int k) a => some ([.pr (.conv k k') [a]], .dat (.int k') (.v m))
    | .str, .dat .str a => some ([], .dat .str a)
    | .str, x => match S.kind with
      | .slice e => (match tyGet tab e with
        | some F => (match F.kind with
          | .int .u8 => (match x with
            | .dat (.sl [.int .u8]) a => some ([.pr .bstr [a]], .dat .str (.v m))
            | .lz [.int .u8] a => some ([.pr .bstr [a]], .dat .str (.v m))
            | .sl i lo n s => if (Nat.beq s 1 && isZ lo && whole σ i n && kp i) = true then (match hgetS σ.H i with
              | some (.arr [.int .u8] a _) => some ([.pr .bstr [a]], .dat .str (.v m))
              | _ => none) else none
            | _ => none)
          | _ => none)
        | none => none)
      | _ => none
    | _, _ => none
  | _, _ => none
def sField (tab : TyTab) (s : TypeId) (f : Nat) (x : SV) : Option SV :=
  match tyGet tab s with
  | some S => match S.kind with
    | .struct fs => match fs[f]? with
      | some (ft, off) => (match tyGet tab ft with
        | some F => if Nat.beq F.size 0 = true then none else match x with
          | .ptr i o => some (.ptr i (o + off))
          | .ptrE i ix s o => some (.ptrE i ix s (o + off))
          | .pfz l e a ix o => some (.pfz l e a ix (o + off))
          | _ => none
        | none => none)
      | none => none
    | _ => none
  | none => none
def sIndex (tab : TyTab) (m : Nat) (t : TypeId) (x z : SV) : Option (List Nd × SV) :=
  match tyGet tab t with
  | some T => match T.kind with
    | .slice e => (match tyGet tab e with
      | some F => (match z with
        | .dat (.int k) za => (match x with
          | .sl i lo n s => if Nat.beq s F.size = true then (if isZ lo = true then some ([.pr (.ixc k) [za, n]], .ptrE i (.v m) s 0) else some ([.pr (.ixc k) [za, n], .pr .plus [lo, .v m]], .ptrE i (.v (m + 1)) s 0)) else none
          | x => (match asSl x with
            | some (l, e, a) => if Nat.beq e.length F.size = true then some ([.pr (.len e) [a], .pr (.ixc k) [za, .v m]], .pfz l e a (.v (m + 1)) 0) else none
            | none => none))
        | _ => none)
      | none => none)
    | _ => none
  | none => none
def sLen (tab : TyTab) (σ : SS) (m : Nat) (t : TypeId) (x : SV) : Option (List Nd × SV) :=
  match tyGet tab t with
  | some T => match T.kind, x with
    | .slice _, .sl i lo n s => if whole σ i n = true then some ([], .dat (.int .i64) n) else some ([.pr (.nat .i64) [n]], .dat (.int .i64) (.v m))
    | .slice _, .nilS => some ([], .dat (.int .i64) (.k (.i 0)))
    | .slice _, .e0 => some ([], .dat (.int .i64) (.k (.i 0)))
    | .slice _, x => (match asSl x with
      | some (l, e, a) => some ([.pr (.len e) [a]], .dat (.int .i64) (.v m))
      | none => none)
    | .str, .dat .str a => some ([.pr .lenS [a]], .dat (.int .i64) (.v m))
    | _, _ => none
  | none => none
/-- A bound of a cut. -/
def sBd (σ : SS) (dflt : At) : Option Operand → Option (IntKind × At)
  | none => some (.i64, dflt)
  | some x => match σ.ev x with
    | .dat (.int k) a => some (k, a)
    | _ => none
def sCut (tab : TyTab) (σ : SS) (m : Nat) (t : TypeId) (x : SV) (lo hi : Option Operand) : Option (List Nd × SV) :=
  match tyGet tab t with
  | some T => match T.kind with
    | .slice e => (match tyGet tab e with
      | some F => (match x with
        | .sl i l0 n s => (match sBd σ (.k (.i 0)) lo, sBd σ n hi with
          | some (kl, al), some (kh, ah) => if Nat.beq s F.size = true then (if isZ l0 = true then some ([.pr (.rng kl kh) [al, ah, n], .pr (.nat kl) [al]], .sl i (.v (m + 1)) (.v m) s)
              else some ([.pr (.rng kl kh) [al, ah, n], .pr (.nat kl) [al], .pr .plus [l0, .v (m + 1)]], .sl i (.v (m + 2)) (.v m) s)) else none
          | _, _ => none)
        | x => (match asSl x with
          | some (l, e, a) => (match sBd σ (.k (.i 0)) lo, sBd σ (.v m) hi with
            | some (kl, al), some (kh, ah) => if Nat.beq e.length F.size = true then some ([.pr (.len e) [a], .pr (.cut e kl kh) [a, al, ah]], ofSl l e (.v (m + 1))) else none
            | _, _ => none)
          | none => none))
      | none => none)
    | .str => (match x with
      | .dat .str a => (match sBd σ (.k (.i 0)) lo, sBd σ (.v m) hi with
        | some (kl, al), some (kh, ah) => some ([.pr .lenS [a], .pr (.cutS kl kh) [a, al, ah]], .dat .str (.v (m + 1)))
        | _, _ => none)
      | _ => none)
    | _ => none
  | none => none
def updS (cs : List SV) (k : Nat) : List SV → List SV
  | [] => cs
  | x :: xs => updS (cs.set k x) (k + 1) xs
def fillS (place : Nat → Option (Nat × Nat)) (cs : List SV) : List (Nat × SV) → Option (List SV)
  | [] => some cs
  | (i, x) :: r => match place i with
    | none => none
    | some (off, size) => if (Nat.beq x.cells.length size && okSz off size cs.length && SV.ones x.cells) = true then fillS place (updS cs off x.cells) r else none
def plS (tab : TyTab) : List (TypeId × Nat) → Option (List (Nat × Nat))
  | [] => some []
  | (t, off) :: r => match tyGet tab t, plS tab r with
    | some T, some l => some ((off, T.size) :: l)
    | _, _ => none
def partsS (σ : SS) : List (Nat × Operand) → List (Nat × SV)
  | [] => []
  | (i, x) :: r => (i, σ.ev x) :: partsS σ r
def sBuild (tab : TyTab) (σ : SS) (t : TypeId) (ps : List (Nat × Operand)) : Option SV :=
  match tyGet tab t with
  | some T => match T.kind with
    | .struct fs => (match plS tab fs with
      | some pl => (match fillS (fun i => pl[i]?) (T.zero.map zSV) (partsS σ ps) with
        | some ds => some (.agg ds)
        | none => none)
      | none => none)
    | _ => none
  | none => none
def sFld (tab : TyTab) (s : TypeId) (f : Nat) (x : SV) : Option SV :=
  match tyGet tab s, x with
  | some S, .agg cs => match S.kind with
    | .struct fs => (match fs[f]? with
      | some (ft, off) => (match tyGet tab ft with
        | some F => if F.agg = true then some (.agg ((cs.drop off).take F.size)) else cs[off]?
        | none => none)
      | none => none)
    | _ => none
  | _, _ => none
def evS (σ : SS) : List Operand → List SV
  | [] => []
  | x :: r => σ.ev x :: evS σ r
/-- An interface value compared with nil. -/
def sIfc (tab : TyTab) (m : Nat) (o : BinOp) (t : TypeId) (x : SV) : Option (List Nd × SV) :=
  match x, tyGet tab t with
  | .ifc a, some T => (match T.kind with
    | .iface => if isEq o = true then some ([], .dat .bool a) else if isNe o = true then some ([.pr .not [a]], .dat .bool (.v m)) else none
    | _ => none)
  | _, _ => none
/-- An operation that only reckons or reads. -/
def sPure (tab : TyTab) (kp : Nat → Bool) (σ : SS) (m : Nat) (op : Op) : Option (List Nd × SV) :=
  match op with
  | .move x => some ([], σ.ev x)
  | .assign x => some ([], σ.ev x)
  | .pick c x y => sPick m (σ.ev c) (σ.ev x) (σ.ev y)
  | .binOp o t x (.const .nilIface) _ => sIfc tab m o t (σ.ev x)
  | .binOp o t x y _ => sBin tab m o t (σ.ev x) (σ.ev y)
  | .unOp o _ x => sUn m o (σ.ev x)
  | .convert s d x => sConv tab kp σ m s d (σ.ev x)
  | .extract x n => match σ.ev x with
    | .tup vs => (match vs[n]? with
      | some v => some ([], v)
      | none => none)
    | _ => none
  | .load t p => sLoad tab kp σ m t (σ.ev p)
  | .fieldAddr s x f => (match sField tab s f (σ.ev x) with
    | some v => some ([], v)
    | none => none)
  | .indexAddr t x z => sIndex tab m t (σ.ev x) (σ.ev z)
  | .call ⟨.builtin .len, ⟨[x]⟩, ⟨[t]⟩⟩ => sLen tab σ m t (σ.ev x)
  | .call ⟨.builtin .max, ⟨[x, y]⟩, _⟩ => match σ.ev x, σ.ev y with
    | .dat (.int k) a, .dat (.int k') b => if decide (k = k') = true then some ([.pr (.mx k) [a, b]], .dat (.int k) (.v m)) else none
    | _, _ => none
  | .call ⟨.builtin .min, ⟨[x, y]⟩, _⟩ => match σ.ev x, σ.ev y with
    | .dat (.int k) a, .dat (.int k') b => if decide (k = k') = true then some ([.pr (.mn k) [a, b]], .dat (.int k) (.v m)) else none
    | _, _ => none
  | .slice t x lo hi none => sCut tab σ m t (σ.ev x) lo hi
  | .build t ⟨ps⟩ => (match sBuild tab σ t ps with
    | some v => some ([], v)
    | none => none)
  | .field s x f => (match sFld tab s f (σ.ev x) with
    | some v => some ([], v)
    | none => none)
  | .index t x z => (match tyGet tab t, σ.ev x, σ.ev z with
    | some T, .dat .str a, .dat (.int k) za => (match T.kind with
      | .str => some ([.pr (.idxS k) [a, za]], .dat (.int .u8) (.v m))
      | _ => none)
    | _, _, _ => none)
  | .nilCheck x => (match σ.ev x with
    | .ptr i o => some ([], .ptr i o)
    | .ptrE i ix s o => some ([], .ptrE i ix s o)
    | .pfz l e a ix o => some ([], .pfz l e a ix o)
    | .fn f cs => some ([], .fn f cs)
    | _ => none)
  | .makeFunc (.func f) ⟨[]⟩ ⟨caps⟩ => some ([], .fn f (evS σ caps))
  | _ => none
section
variable {P : Program} {E : En} {σ : SS} {o : Oper} {kp : Nat → Bool} {tab : TyTab} {env : List D} {m : Nat} {nds : List Nd} {v : SV} {Φ : Fns}
theorem evS_den (l : List Operand) : SV.dens env (evS σ l) = evs (σ.den env) l := by
  induction l with
  | nil => rfl
  | cons x r ih =>
    show (σ.ev x).den env :: SV.dens env (evS σ r) = (σ.den env).ev x :: evs (σ.den env) r
    rw [ih, SS.ev_den]
theorem isZ_den {a : At} (h : isZ a = true) : a.den env = .i 0 := by
  unfold isZ at h
  split at h
  · rfl
  · cases h
theorem ev_good (hg : σ.Good env) (x : Operand) : (σ.ev x).good env = true := by
  cases x with
  | tmp t => exact hg.T t
  | const v =>
    show (zSV v).good env = true
    unfold zSV
    split <;> rfl
  | global g => rfl
  | func f => rfl
theorem sPick_ok {c x y : Operand} (hg : σ.Good env) (ho : o.op = .pick c x y) (h : sPick m (σ.ev c) (σ.ev x) (σ.ev y) = some (nds, v)) (hf : Facts Φ env m nds) : OP P E kp o (σ.den env) (v.den env) := by
  have hc := SS.ev_den env σ c
  have hx := SS.ev_den env σ x
  have hy := SS.ev_den env σ y
  unfold sPick at h
  split at h
  · rename_i e
    cases h
    rw [e, SV.den] at hc
    have := OP.pick (P := P) (E := E) (σ := σ.den env) (kp := kp) (b := true) ho (hc.trans (encC_bool true))
    rw [← hx]
    simpa [pk] using this
  · rename_i e
    cases h
    rw [e, SV.den] at hc
    have := OP.pick (P := P) (E := E) (σ := σ.den env) (kp := kp) (b := false) ho (hc.trans (encC_bool false))
    rw [← hy]
    simpa [pk] using this
  · rename_i a _ _ e
    split at h
    · rename_i k p k' q e1 e2
      split at h
      · rename_i hk
        obtain rfl := CK.beq_eq hk
        cases h
        obtain ⟨h1, h2⟩ := hf.1
        simp only [List.map_cons, List.map_nil, Pr.args, okZ, Bool.and_eq_true, Bool.and_true] at h1 h2
        obtain ⟨b, hb⟩ := okC_bool h2.1
        rw [e, SV.den, hb, encC_bool] at hc
        rw [e1, SV.den] at hx
        rw [e2, SV.den] at hy
        rw [hb] at h1
        simp only [Pr.eval, Option.some.injEq] at h1
        have := OP.pick (P := P) (E := E) (σ := σ.den env) (kp := kp) (b := b) ho hc
        rw [hx, hy] at this
        rw [SV.den, ← h1]
        cases b
        · simpa [pk] using this
        · simpa [pk] using this
      · cases h
    · cases h
  · cases h
theorem sUn_ok {op : UnOp} {t : TypeId} {x : Operand} (ho : o.op = .unOp op t x) (h : sUn m op (σ.ev x) = some (nds, v)) (hf : Facts Φ env m nds) : OP P E kp o (σ.den env) (v.den env) := by
  have hx := SS.ev_den env σ x
  unfold sUn at h
  split at h
  · rename_i e
    cases h
    rw [e, SV.den] at hx
    rw [SV.den]
    have hx' := hx.trans (encC_bool _)
    rw [show (At.k (D.b !_)).den env = D.b (!_) from rfl, encC_bool]
    exact OP.un ho hx' (fun w => by simp [Op.unary])
  · rename_i e
    cases h
    obtain ⟨b, h1, h2⟩ := fact1b hf.1 rfl
    rw [e, SV.den, h1, encC_bool] at hx
    rw [SV.den, ← Option.some.inj h2, encC_bool]
    exact OP.un ho hx (fun w => by simp [Op.unary])
  · rename_i e
    cases h
    obtain ⟨b, h1, h2⟩ := fact1i hf.1 rfl
    rw [e, SV.den, h1, encC_int] at hx
    rw [SV.den, ← Option.some.inj h2, encC_int]
    exact OP.un ho hx (fun w => by simp [Op.unary, Op.intArith])
  · rename_i e
    cases h
    obtain ⟨b, h1, h2⟩ := fact1i hf.1 rfl
    rw [e, SV.den, h1, encC_int] at hx
    rw [SV.den, ← Option.some.inj h2, encC_int]
    exact OP.un ho hx (fun w => by simp [Op.unary, Op.intBits])
  · cases h
theorem bytes_vals : ∀ {xs : List D}, (∀ x ∈ xs, okE [.int .u8] x = true) → encR [.int .u8] xs = vals ((xs.map D.int).map (Value.int .u8))
  | [], _ => rfl
  | d :: ds, h => by
    have h1 := h d List.mem_cons_self
    have h2 := bytes_vals (fun x hx => h x (List.mem_cons_of_mem _ hx))
    simp only [okE, row, okZ, Bool.and_true] at h1
    obtain ⟨n, rfl⟩ := okC_int h1
    simp only [encR, List.flatMap_cons, row, encZ, encC_int] at h2 ⊢
    rw [h2]
    rfl
theorem bytes_fold (xs : List D) : bytesOf xs = (xs.map D.int).foldl (fun r n => r.push (UInt8.ofNat n.toNat)) ByteArray.empty := by
  rw [bytesOf, List.foldl_map]
  rfl
theorem sConv_ok {s d : TypeId} {x : Operand} (htab : TabOk P tab) (hg : σ.Good env) (ho : o.op = .convert s d x) (h : sConv tab kp σ m s d (σ.ev x) = some (nds, v)) (hf : Facts Φ env m nds) : OP P E kp o (σ.den env) (v.den env) := by
  have hx := SS.ev_den env σ x
  have hgx := ev_good hg x
  unfold sConv at h
  split at h
  · rename_i S T hS hT
    obtain ⟨ds, is, zs, su, si, sz, s1, s2, s3, s4, s5, s6⟩ := tyGet_ok htab hS
    obtain ⟨dd, id', zd, du, di, dz, t1, t2, t3, t4, t5, t6⟩ := tyGet_ok htab hT
    split at h
    · rename_i k' k a hk e
      cases h
      rw [t4] at hk
      rw [kindD_int hk] at du
      obtain ⟨z, h1, h2⟩ := fact1i hf.1 rfl
      rw [e, SV.den, h1, encC_int] at hx
      rw [SV.den, ← Option.some.inj h2, encC_int]
      exact OP.convI ho su du hx
    · rename_i a hk e
      cases h
      rw [t4] at hk
      rw [kindD_str hk] at du
      rw [e] at hgx
      obtain ⟨z, h1⟩ := okC_str (show okC .str (a.den env) = true from hgx)
      rw [e, SV.den, h1, encC_str] at hx
      rw [SV.den, h1, encC_str]
      exact OP.conv ho hx (fun w => by cases ds <;> simp [convert, run_underlying su, run_underlying du])
    · rename_i hk _
      rw [t4] at hk
      rw [kindD_str hk] at du
      split at h
      · rename_i e he
        rw [s4] at he
        rw [kindD_slice he] at su
        split at h
        · rename_i F hF
          obtain ⟨df, jf, zf, fu, fi, fz', f1, f2, f3, f4, f5, f6⟩ := tyGet_ok htab hF
          split at h
          · rename_i hfk
            rw [f4] at hfk
            rw [kindD_int hfk] at fu
            have key : ∀ (a : At), Fact env m .bstr [a] → ∃ xs, a.den env = .l xs ∧ (∀ y ∈ xs, okE [.int .u8] y = true) ∧ (At.v m).den env = .s (bytesOf xs) := fun a ha => by
              obtain ⟨h1, h2⟩ := ha
              simp only [List.map_cons, List.map_nil, Pr.args, okZ, Bool.and_eq_true, Bool.and_true] at h1 h2
              obtain ⟨xs, e1, e2⟩ := okC_sl h2
              rw [e1] at h1
              exact ⟨xs, e1, e2, (Option.some.inj h1).symm⟩
            split at h
            · rename_i a e0
              cases h
              obtain ⟨xs, e1, e2, e3⟩ := key a hf.1
              rw [e0] at hgx
              rw [e0, SV.den, e1, encC_sl] at hx
              rw [SV.den, e3, encC_str, bytes_fold]
              exact OP.bstr ho su fu du (by rw [hx]; exact .fz (by rw [encR_length]; rfl)) (bytes_vals e2) (fun i k n s' h' => by rw [hx] at h'; cases h')
            · rename_i a e0
              cases h
              obtain ⟨xs, e1, e2, e3⟩ := key a hf.1
              rw [e0, SV.den, e1] at hx
              rw [SV.den, e3, encC_str, bytes_fold]
              exact OP.bstr ho su fu du (by rw [hx]; exact .fz (by rw [encR_length]; rfl)) (bytes_vals e2) (fun i k n s' h' => by rw [hx] at h'; cases h')
            · rename_i i lo n s' e0
              split at h
              · rename_i hb
                simp only [Bool.and_eq_true] at hb
                obtain ⟨⟨⟨b1, b2⟩, b3⟩, b4⟩ := hb
                obtain rfl := Nat.eq_of_beq_eq_true b1
                split at h
                · rename_i a n' hh
                  cases h
                  obtain ⟨xs, e1, e2, e3⟩ := key a hf.1
                  obtain ⟨e', a', n'', w1, w2⟩ := whole_inv hg b3
                  rw [hh] at w1
                  cases w1
                  rw [e0, SV.den, isZ_den b2, w2, e1] at hx
                  have hx' : (σ.den env).ev x = .sl i 0 xs.length 1 := by
                    rw [hx]
                    simp [D.nat, D.int, D.items]
                  have hgt : hget (σ.den env).H i = some (encR [.int .u8] xs) := by
                    show hget (denH env σ.H) i = _
                    rw [hget_denH, hh]
                    simp [SB.den, e1, D.items]
                  have hlen : (encR [.int .u8] xs).length = xs.length := by rw [encR_length]; simp
                  rw [SV.den, e3, encC_str, bytes_fold]
                  refine OP.bstr (m := xs.length) (news := ((encR [.int .u8] xs).drop 0).take (xs.length * 1)) ho su fu du (by rw [hx']; exact .sl hgt (by rw [hlen]; omega)) ?_ (fun i' k n s' h' => by rw [hx'] at h'; cases h'; exact b4)
                  rw [List.drop_zero, Nat.mul_one, ← hlen, List.take_length]
                  exact bytes_vals e2
                · cases h
              · cases h
            · cases h
          · cases h
        · cases h
      · cases h
    · cases h
  · cases h
theorem sField_ok {s : TypeId} {x : Operand} {f : Nat} (htab : TabOk P tab) (ho : o.op = .fieldAddr s x f) (h : sField tab s f (σ.ev x) = some v) : OP P E kp o (σ.den env) (v.den env) := by
  have hx := SS.ev_den env σ x
  unfold sField at h
  split at h
  · rename_i S hS
    obtain ⟨ds, is, zs, su, si, sz, s1, s2, s3, s4, s5, s6⟩ := tyGet_ok htab hS
    split at h
    · rename_i fs hk
      rw [s4] at hk
      obtain ⟨gs, rfl, rfl⟩ := kindD_struct hk
      split at h
      · rename_i ft off hfd
        simp only [List.getElem?_map, Option.map_eq_some_iff] at hfd
        obtain ⟨fd, hfd, e⟩ := hfd
        cases e
        have hfd' : gs[f]? = some fd := by simpa using hfd
        split at h
        · rename_i F hF
          obtain ⟨df, jf, zf, fu, fi, fz', f1, f2, f3, f4, f5, f6⟩ := tyGet_ok htab hF
          split at h
          · cases h
          · rename_i h0
            have h0' : jf.size ≠ 0 := by
              intro e
              rw [f1, e] at h0
              simp at h0
            split at h
            · rename_i i k e
              cases h
              rw [e] at hx
              exact OP.fieldAddr ho su hfd' fi h0' hx
            · rename_i i ix s' k e
              cases h
              rw [e] at hx
              have := OP.fieldAddr (P := P) (E := E) (σ := σ.den env) (kp := kp) ho su hfd' fi h0' hx
              rw [Nat.add_assoc] at this
              exact this
            · rename_i l e' a ix k e
              cases h
              rw [e] at hx
              have := OP.fieldAddrF (P := P) (E := E) (σ := σ.den env) (kp := kp) ho su hfd' fi h0' hx
              rw [List.drop_drop, Nat.add_assoc] at this
              exact this
            · cases h
        · cases h
      · cases h
    · cases h
  · cases h
theorem fact_len {e : List CK} {a : At} (h : Fact env m (.len e) [a]) : ∃ xs, a.den env = .l xs ∧ (At.v m).den env = .i xs.length := by
  obtain ⟨h1, h2⟩ := h
  simp only [List.map_cons, List.map_nil, Pr.args, okZ, Bool.and_eq_true, Bool.and_true] at h1 h2
  obtain ⟨xs, e1, e2⟩ := okC_sl h2
  rw [e1] at h1
  exact ⟨xs, e1, (Option.some.inj h1).symm⟩
theorem fact_ixc {k : IntKind} {z n : At} (h : Fact env m (.ixc k) [z, n]) : ∃ i c, z.den env = .i i ∧ n.den env = .i c ∧ 0 ≤ i ∧ i < c ∧ (At.v m).den env = .i i := by
  obtain ⟨i, c, h1, h2, h3⟩ := fact2i h rfl
  simp only [Pr.eval] at h3
  split at h3
  · rename_i hh
    exact ⟨i, c, h1, h2, hh.1, hh.2, (Option.some.inj h3).symm⟩
  · cases h3
theorem fact_plus {z n : At} (h : Fact env m .plus [z, n]) : ∃ i c, z.den env = .i i ∧ n.den env = .i c ∧ 0 ≤ i ∧ 0 ≤ c ∧ (At.v m).den env = .i (i + c) := by
  obtain ⟨i, c, h1, h2, h3⟩ := fact2i h rfl
  simp only [Pr.eval] at h3
  split at h3
  · rename_i hh
    exact ⟨i, c, h1, h2, hh.1, hh.2, (Option.some.inj h3).symm⟩
  · cases h3
theorem sIndex_ok {t : TypeId} {x z : Operand} (htab : TabOk P tab) (hg : σ.Good env) (ho : o.op = .indexAddr t x z) (h : sIndex tab m t (σ.ev x) (σ.ev z) = some (nds, v)) (hf : Facts Φ env m nds) : OP P E kp o (σ.den env) (v.den env) := by
  have hx := SS.ev_den env σ x
  have hz := SS.ev_den env σ z
  have hgx := ev_good hg x
  unfold sIndex at h
  split at h
  · rename_i T hT
    obtain ⟨dt, it, zt, tu, ti, tz, t1, t2, t3, t4, t5, t6⟩ := tyGet_ok htab hT
    split at h
    · rename_i e hk
      rw [t4] at hk
      rw [kindD_slice hk] at tu
      split at h
      · rename_i F hF
        obtain ⟨df, jf, zf, fu, fi, fz', f1, f2, f3, f4, f5, f6⟩ := tyGet_ok htab hF
        split at h
        · rename_i k za ez
          rw [ez] at hz
          split at h
          · rename_i i lo n s ex
            rw [ex] at hx hgx
            split at h
            · rename_i hs
              have hs := Nat.eq_of_beq_eq_true hs
              split at h
              · rename_i hlo
                cases h
                obtain ⟨zi, c, h1, h2, h3, h4, h5⟩ := fact_ixc hf.1
                rw [SV.den, h1, encC_int] at hz
                simp only [SV.den, isZ_den hlo, h2, D.nat, D.int, Int.toNat_zero, Nat.zero_mul] at hx
                have := OP.indexAddr (P := P) (E := E) (σ := σ.den env) (kp := kp) ho tu fi hx hz h3 (by omega)
                simp only [SV.den, h5, D.nat, D.int, Nat.add_zero]
                rw [hs, f1]
                simpa using this
              · cases h
                obtain ⟨zi, c, h1, h2, h3, h4, h5⟩ := fact_ixc hf.1
                obtain ⟨l0, c2, g1, g2, g3, g4, g5⟩ := fact_plus hf.2.1
                rw [h5] at g2
                cases g2
                rw [SV.den, h1, encC_int] at hz
                simp only [SV.den, g1, h2, D.nat, D.int] at hx
                have := OP.indexAddr (P := P) (E := E) (σ := σ.den env) (kp := kp) ho tu fi hx hz h3 (by omega)
                simp only [SV.den, g5, D.nat, D.int, Nat.add_zero]
                rw [show (l0 + zi).toNat = l0.toNat + zi.toNat by omega, Nat.add_mul]
                rw [hs, f1] at this ⊢
                exact this
            · cases h
          · rename_i nosl
            split at h
            · rename_i l e' a ea
              split at h
              · rename_i hs
                have hs := Nat.eq_of_beq_eq_true hs
                cases h
                obtain ⟨xs, h0, h0', hden⟩ := asSl_den ea hgx
                obtain ⟨xs', g1, g2⟩ := fact_len hf.1
                rw [h0] at g1
                cases g1
                obtain ⟨zi, c, h1, h2, h3, h4, h5⟩ := fact_ixc hf.2.1
                rw [g2] at h2
                cases h2
                rw [SV.den, h1, encC_int] at hz
                rw [hden, hs, f1] at hx
                have := OP.indexAddrF (P := P) (E := E) (σ := σ.den env) (kp := kp) ho tu fi hx hz h3 h4
                simp only [SV.den, h0, h5, D.nat, D.int, D.items, Nat.add_zero, hs, f1]
                exact this
              · cases h
            · cases h
        · cases h
      · cases h
    · cases h
  · cases h
theorem sLen_ok {t : TypeId} {x : Operand} (htab : TabOk P tab) (hg : σ.Good env) (ho : o.op = .call ⟨.builtin .len, #[x], #[t]⟩) (h : sLen tab σ m t (σ.ev x) = some (nds, v)) (hf : Facts Φ env m nds) : OP P E kp o (σ.den env) (v.den env) := by
  have hx := SS.ev_den env σ x
  have hgx := ev_good hg x
  unfold sLen at h
  split at h
  · rename_i T hT
    obtain ⟨dt, it, zt, tu, ti, tz, t1, t2, t3, t4, t5, t6⟩ := tyGet_ok htab hT
    split at h
    · rename_i e i lo n s hk ex
      rw [t4] at hk
      rw [kindD_slice hk] at tu
      rw [ex] at hx
      split at h
      · rename_i hw
        cases h
        obtain ⟨e', a', n', w1, w2⟩ := whole_inv hg hw
        have := OP.lenS (P := P) (E := E) (σ := σ.den env) (kp := kp) ho tu hx
        rw [w2] at this
        rw [SV.den, w2, encC_int]
        simpa [D.nat, D.int, goInt] using this
      · cases h
        obtain ⟨z, h1, h2⟩ := fact1i hf.1 rfl
        simp only [Pr.eval] at h2
        split at h2
        · rename_i hz
          have := OP.lenS (P := P) (E := E) (σ := σ.den env) (kp := kp) ho tu hx
          rw [h1] at this
          rw [SV.den, ← Option.some.inj h2, encC_int]
          simp only [D.nat, D.int, goInt] at this
          rw [Int.toNat_of_nonneg hz] at this
          exact this
        · cases h2
    · rename_i e hk ex
      cases h
      rw [t4] at hk
      rw [kindD_slice hk] at tu
      rw [ex] at hx
      have := OP.lenV (P := P) (E := E) (σ := σ.den env) (kp := kp) ho tu hx
      simpa [SV.den, At.den, encC_int, goInt] using this
    · rename_i e hk ex
      cases h
      rw [t4] at hk
      rw [kindD_slice hk] at tu
      rw [ex] at hx
      have := OP.lenE (P := P) (E := E) (σ := σ.den env) (kp := kp) ho tu hx
      simpa [SV.den, At.den, encC_int, goInt] using this
    · rename_i e hk _ _ _
      rw [t4] at hk
      rw [kindD_slice hk] at tu
      split at h
      · rename_i l e' a ea
        cases h
        obtain ⟨xs, h0, h0', hden⟩ := asSl_den ea hgx
        obtain ⟨xs', g1, g2⟩ := fact_len hf.1
        rw [h0] at g1
        cases g1
        rw [hden] at hx
        rw [SV.den, g2, encC_int]
        exact OP.lenF ho tu hx
      · cases h
    · rename_i a hk ex
      cases h
      rw [t4] at hk
      rw [kindD_str hk] at tu
      obtain ⟨h1, h2⟩ := hf.1
      simp only [List.map_cons, List.map_nil, Pr.args, okZ, Bool.and_eq_true, Bool.and_true] at h1 h2
      obtain ⟨z, e1⟩ := okC_str h2
      rw [e1] at h1
      rw [ex, SV.den, e1, encC_str] at hx
      rw [SV.den, ← Option.some.inj h1, encC_int]
      exact OP.lenStr ho tu hx
    · cases h
  · cases h
end
end Go.BH
