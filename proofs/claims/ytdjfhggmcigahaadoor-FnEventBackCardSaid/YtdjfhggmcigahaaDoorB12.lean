/- The plain operations on data. -/
import Derived.Test.YtdjfhggmcigahaaDoorB11
set_option linter.unusedVariables false
set_option linter.unusedSimpArgs false
namespace Go.BH
open Go.RowKit
inductive Pr where
  | bin (o : BinOp) (k : IntKind)
  | sh (o : BinOp) (k yk : IntKind)
  | cmp (o : BinOp) (k : IntKind)
  | cmpS (o : BinOp)
  | cat
  | not
  | and
  | or
  | eqb
  | nat (k : IntKind)
  | neg (k : IntKind)
  | com (k : IntKind)
  | conv (k k' : IntKind)
  | mx (k : IntKind)
  | mn (k : IntKind)
  | len (e : List CK)
  | lenS
  | get (e : List CK) (j : Nat)
  | ixc (k : IntKind)
  | cut (e : List CK) (k k' : IntKind)
  | cutS (k k' : IntKind)
  | rng (k k' : IntKind)
  | plus
  | idxS (k : IntKind)
  | app (e : List CK) (bytes : Nat)
  | mk (e : List CK) (n : Nat)
  | mkz (e : List CK) (k : IntKind) (bytes : Nat) (z : List D)
  | set (e : List CK) (j : Nat)
  | bstr
  | ite (k : CK)
  deriving Inhabited
def binI (o : BinOp) (k : IntKind) (x y : Int) : Option Int :=
  match o with
  | .add => some (k.wrap (x + y))
  | .sub => some (k.wrap (x - y))
  | .mul => some (k.wrap (x * y))
  | .quo => if y = 0 then none else some (k.wrap (x.tdiv y))
  | .rem => if y = 0 then none else some (x.tmod y)
  | .and => some (k.wrap (BitVec.ofInt k.bits x &&& BitVec.ofInt k.bits y).toNat)
  | .or => some (k.wrap (BitVec.ofInt k.bits x ||| BitVec.ofInt k.bits y).toNat)
  | .xor => some (k.wrap (BitVec.ofInt k.bits x ^^^ BitVec.ofInt k.bits y).toNat)
  | .andNot => some (k.wrap (BitVec.ofInt k.bits x &&& ~~~ BitVec.ofInt k.bits y).toNat)
  | _ => none
def shI (o : BinOp) (k : IntKind) (x y : Int) : Option Int :=
  if y < 0 then none else
  match o with
  | .shl => some (k.wrap (x * 2 ^ (min y.toNat k.bits)))
  | .shr => some (x.fdiv (2 ^ (min y.toNat k.bits)))
  | _ => none
def cmpI (o : BinOp) (x y : Int) : Option Bool :=
  match o with
  | .eql => some (x == y)
  | .neq => some (x != y)
  | .lss => some (decide (x < y))
  | .leq => some (decide (x ≤ y))
  | .gtr => some (decide (x > y))
  | .geq => some (decide (x ≥ y))
  | _ => none
def cmpT (o : BinOp) (x y : ByteArray) : Option Bool :=
  match o with
  | .eql => some (x.toList == y.toList)
  | .neq => some (!(x.toList == y.toList))
  | .lss => some (Op.bytesLess x.toList y.toList)
  | .leq => some (Op.bytesLess x.toList y.toList || x.toList == y.toList)
  | .gtr => some (!(Op.bytesLess x.toList y.toList || x.toList == y.toList))
  | .geq => some (!(Op.bytesLess x.toList y.toList))
  | _ => none
/-- n elements of |e| cells each. -/
def rowsOf (e : List CK) : Nat → List D → List D
  | 0, _ => []
  | n + 1, ds => unrow e (ds.take e.length) :: rowsOf e n (ds.drop e.length)
def setRow (e : List CK) (j : Nat) (x d : D) : D := unrow e ((row e d).set j x)
def bytesOf (xs : List D) : ByteArray := xs.foldl (fun r d => r.push (UInt8.ofNat d.nat)) ByteArray.empty
def Pr.eval : Pr → List D → Option D
  | .bin o k, [.i x, .i y] => (binI o k x y).map .i
  | .sh o k _, [.i x, .i y] => (shI o k x y).map .i
  | .cmp o _, [.i x, .i y] => (cmpI o x y).map .b
  | .cmpS o, [.s x, .s y] => (cmpT o x y).map .b
  | .cat, [.s x, .s y] => if ((x.size + y.size : Nat) : Int) > 9223372036854775807 then none else some (.s (x ++ y))
  | .not, [.b x] => some (.b (!x))
  | .and, [.b x, .b y] => some (.b (x && y))
  | .or, [.b x, .b y] => some (.b (x || y))
  | .eqb, [.b x, .b y] => some (.b (x == y))
  | .nat _, [.i x] => if 0 ≤ x then some (.i x) else none
  | .neg k, [.i x] => some (.i (k.wrap (0 - x)))
  | .com k, [.i x] => some (.i (k.wrap (BitVec.ofInt k.bits (if k.signed then -1 else k.max) ^^^ BitVec.ofInt k.bits x).toNat))
  | .conv _ k', [.i x] => some (.i (k'.wrap x))
  | .mx _, [.i x, .i y] => some (.i (if y > x then y else x))
  | .mn _, [.i x, .i y] => some (.i (if y < x then y else x))
  | .len _, [.l xs] => some (.i xs.length)
  | .lenS, [.s x] => some (.i x.size)
  | .get e j, [.l xs, .i i] => if i < 0 then none else (xs[i.toNat]?).bind fun d => (row e d)[j]?
  | .ixc _, [.i i, .i n] => if 0 ≤ i ∧ i < n then some (.i i) else none
  | .cut _ _ _, [.l xs, .i l, .i h] => if 0 ≤ l ∧ l ≤ h ∧ h ≤ xs.length then some (.l ((xs.drop l.toNat).take (h.toNat - l.toNat))) else none
  | .cutS _ _, [.s x, .i l, .i h] => if 0 ≤ l ∧ l ≤ h ∧ h ≤ x.size then some (.s (x.extract l.toNat h.toNat)) else none
  | .rng _ _, [.i l, .i h, .i n] => if 0 ≤ l ∧ l ≤ h ∧ h ≤ n then some (.i (h - l)) else none
  | .plus, [.i x, .i y] => if 0 ≤ x ∧ 0 ≤ y then some (.i (x + y)) else none
  | .idxS _, [.s x, .i i] => if i < 0 then none else (x[i.toNat]?).map fun b => .i b.toNat
  | .app _ bytes, [.l xs, .l ys] => if (xs.length + ys.length) * bytes ≤ 140737488355328 ∧ xs.length + ys.length < 9223372036854775808 then some (.l (xs ++ ys)) else none
  | .mk e n, ds => some (.l (rowsOf e n ds))
  | .mkz e _ bytes z, [.i n] => if 0 ≤ n ∧ bytes * n.toNat ≤ 281474976710656 ∧ n < 9223372036854775808 then some (.l (List.replicate n.toNat (unrow e z))) else none
  | .set e j, [.l xs, .i i, x] => if 0 ≤ i ∧ i < xs.length then some (.l (xs.modify i.toNat (setRow e j x))) else none
  | .bstr, [.l xs] => some (.s (bytesOf xs))
  | .ite _, [.b c, x, y] => some (if c then x else y)
  | _, _ => none
def Pr.args : Pr → List CK
  | .bin _ k => [.int k, .int k]
  | .sh _ k yk => [.int k, .int yk]
  | .cmp _ k => [.int k, .int k]
  | .cmpS _ => [.str, .str]
  | .cat => [.str, .str]
  | .not => [.bool]
  | .and => [.bool, .bool]
  | .or => [.bool, .bool]
  | .eqb => [.bool, .bool]
  | .nat k => [.int k]
  | .neg k => [.int k]
  | .com k => [.int k]
  | .conv k _ => [.int k]
  | .mx k => [.int k, .int k]
  | .mn k => [.int k, .int k]
  | .len e => [.sl e]
  | .lenS => [.str]
  | .get e _ => [.sl e, .int .i64]
  | .ixc k => [.int k, .int .i64]
  | .cut e k k' => [.sl e, .int k, .int k']
  | .cutS k k' => [.str, .int k, .int k']
  | .rng k k' => [.int k, .int k', .int .i64]
  | .plus => [.int .i64, .int .i64]
  | .idxS k => [.str, .int k]
  | .app e _ => [.sl e, .sl e]
  | .mk e n => (List.replicate n e).flatten
  | .mkz _ k _ _ => [.int k]
  | .set e j => [.sl e, .int .i64, e.getD j .bool]
  | .bstr => [.sl [.int .u8]]
  | .ite k => [.bool, k, k]
def Pr.ty : Pr → CK
  | .bin _ k => .int k
  | .sh _ k _ => .int k
  | .cmp _ _ => .bool
  | .cmpS _ => .bool
  | .cat => .str
  | .not => .bool
  | .and => .bool
  | .or => .bool
  | .eqb => .bool
  | .nat _ => .int .i64
  | .neg k => .int k
  | .com k => .int k
  | .conv _ k => .int k
  | .mx k => .int k
  | .mn k => .int k
  | .len _ => .int .i64
  | .lenS => .int .i64
  | .get e j => e.getD j .bool
  | .ixc _ => .int .i64
  | .cut e _ _ => .sl e
  | .cutS _ _ => .str
  | .rng _ _ => .int .i64
  | .plus => .int .i64
  | .idxS _ => .int .u8
  | .app e _ => .sl e
  | .mk e _ => .sl e
  | .mkz e _ _ _ => .sl e
  | .set e _ => .sl e
  | .bstr => .str
  | .ite k => k
/-- What is asked of an operation itself. -/
def Pr.wf : Pr → Bool
  | .get e j => Nat.blt j e.length
  | .set e j => Nat.blt j e.length
  | .mkz e _ _ z => okZ e z
  | _ => true
theorem okZ_append : ∀ {a b : List CK} {ds : List D}, okZ (a ++ b) ds = true → okZ a (ds.take a.length) = true ∧ okZ b (ds.drop a.length) = true
  | [], b, ds, h => by simpa [okZ] using h
  | k :: ks, b, [], h => by simp [okZ] at h
  | k :: ks, b, d :: ds, h => by
    simp only [List.cons_append, okZ, Bool.and_eq_true] at h
    obtain ⟨h1, h2⟩ := okZ_append h.2
    simp only [List.length_cons, List.take_succ_cons, List.drop_succ_cons, okZ, Bool.and_eq_true]
    exact ⟨⟨h.1, h1⟩, h2⟩
theorem rowsOf_ok {e : List CK} : ∀ (n : Nat) (ds : List D), okZ (List.replicate n e).flatten ds = true → ∀ x ∈ rowsOf e n ds, okE e x = true
  | 0, ds, _, x, hx => by simp [rowsOf] at hx
  | n + 1, ds, h, x, hx => by
    simp only [List.replicate_succ, List.flatten_cons] at h
    obtain ⟨h1, h2⟩ := okZ_append h
    simp only [rowsOf, List.mem_cons] at hx
    rcases hx with rfl | hx
    · exact okE_unrow h1
    · exact rowsOf_ok n _ h2 x hx
theorem okZ_set : ∀ {e : List CK} {ds : List D} (j : Nat) {x : D}, okZ e ds = true → okC (e.getD j .bool) x = true → okZ e (ds.set j x) = true
  | [], [], _, _, _, _ => rfl
  | [], _ :: _, _, _, h, _ => by simp [okZ] at h
  | _ :: _, [], _, _, h, _ => by simp [okZ] at h
  | k :: ks, d :: ds, 0, x, h, hx => by
    simp only [okZ, Bool.and_eq_true] at h
    simp only [List.set_cons_zero, okZ, Bool.and_eq_true]
    exact ⟨by simpa using hx, h.2⟩
  | k :: ks, d :: ds, j + 1, x, h, hx => by
    simp only [okZ, Bool.and_eq_true] at h
    simp only [List.set_cons_succ, okZ, Bool.and_eq_true]
    exact ⟨h.1, okZ_set j h.2 (by simpa using hx)⟩
theorem setRow_ok {e : List CK} {j : Nat} {x d : D} (h : okE e d = true) (hx : okC (e.getD j .bool) x = true) : okE e (setRow e j x d) = true :=
  okE_unrow (okZ_set j h hx)
theorem mem_modify {α : Type} {f : α → α} : ∀ {l : List α} {i : Nat} {x : α}, x ∈ l.modify i f → x ∈ l ∨ ∃ y ∈ l, x = f y
  | [], i, x, h => by simp at h
  | y :: ys, 0, x, h => by
    simp at h
    rcases h with rfl | h
    · exact .inr ⟨y, List.mem_cons_self, rfl⟩
    · exact .inl (List.mem_cons_of_mem _ h)
  | y :: ys, i + 1, x, h => by
    simp at h
    rcases h with rfl | h
    · exact .inl List.mem_cons_self
    · rcases mem_modify h with h | ⟨z, hz, h⟩
      · exact .inl (List.mem_cons_of_mem _ h)
      · exact .inr ⟨z, List.mem_cons_of_mem _ hz, h⟩
/-- What an operation leaves is of its kind. -/
theorem Pr.ok {p : Pr} {ds : List D} {d : D} (hw : p.wf = true) (h : okZ p.args ds = true) (he : p.eval ds = some d) : okC p.ty d = true := by
  unfold Pr.eval at he
  split at he <;> simp only [Pr.args, Pr.ty, Pr.wf, okZ, Bool.and_eq_true, Bool.and_true] at h hw ⊢
  all_goals first
    | (simp only [Option.map_eq_some_iff] at he; obtain ⟨a, _, rfl⟩ := he; rfl)
    | (obtain rfl := Option.some.inj he; rfl)
    | (split at he <;> first | (cases he; done) | (obtain rfl := Option.some.inj he; rfl))
    | skip
  · -- get
    rename_i e j xs i
    split at he
    · cases he
    · cases hx : xs[i.toNat]? with
      | none => rw [hx] at he; cases he
      | some x =>
        rw [hx] at he
        simp only [Option.bind_some] at he
        obtain ⟨ys, e1, h2⟩ := okC_sl h.1
        cases e1
        have hx' := h2 x (List.mem_of_getElem? hx)
        have hj : j < e.length := by simpa using hw
        obtain ⟨d', h3, h4⟩ := okZ_get hx' j _ (List.getElem?_eq_getElem hj)
        rw [h3] at he
        obtain rfl := Option.some.inj he
        simpa [List.getD, hj] using h4
  · -- cut
    rename_i e k k' xs l hh
    split at he
    · obtain rfl := Option.some.inj he
      obtain ⟨ys, e1, h2⟩ := okC_sl h.1
      cases e1
      exact okC_mk (fun x hx => h2 x (List.mem_of_mem_drop (List.mem_of_mem_take hx)))
    · cases he
  · -- idxS
    split at he
    · cases he
    · simp only [Option.map_eq_some_iff] at he
      obtain ⟨a, _, rfl⟩ := he
      rfl
  · -- app
    split at he
    · obtain rfl := Option.some.inj he
      obtain ⟨xs, e1, h2⟩ := okC_sl h.1
      obtain ⟨ys, e2, h3⟩ := okC_sl h.2
      cases e1
      cases e2
      exact okC_mk (fun x hx => by
        rcases List.mem_append.1 hx with g | g
        · exact h2 x g
        · exact h3 x g)
    · cases he
  · -- mk
    obtain rfl := Option.some.inj he
    exact okC_mk (rowsOf_ok _ _ h)
  · -- mkz
    split at he
    · obtain rfl := Option.some.inj he
      exact okC_mk (fun x hx => by
        rw [(List.mem_replicate.1 hx).2]
        exact okE_unrow hw)
    · cases he
  · -- set
    split at he
    · obtain rfl := Option.some.inj he
      obtain ⟨xs, e1, h2⟩ := okC_sl h.1
      cases e1
      refine okC_mk (fun x hx => ?_)
      rcases mem_modify hx with g | ⟨y, g, rfl⟩
      · exact h2 x g
      · exact setRow_ok (h2 y g) h.2.2
    · cases he
  · -- ite
    obtain rfl := Option.some.inj he
    split
    · exact h.2.1
    · exact h.2.2
  · cases he
end Go.BH
