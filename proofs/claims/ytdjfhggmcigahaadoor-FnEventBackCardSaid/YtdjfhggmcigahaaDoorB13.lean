/- What is known of a call's state, in letters: values over the data named so far. -/
import Derived.Test.YtdjfhggmcigahaaDoorB12
import Derived.Laws.StructEq
set_option linter.unusedVariables false
set_option linter.unusedSimpArgs false
namespace Go.BH
open Go.RowKit
inductive TyK where
  | slice (e : TypeId)
  | struct (fs : List (TypeId × Nat))
  | array (n : Nat) (e : TypeId)
  | str
  | int (k : IntKind)
  | bool
  | iface
  | other
/-- What is needed of a type. (row: what the cells hold: a hint alone.) -/
structure Ty where
  size : Nat
  bytes : Nat
  agg : Bool
  kind : TyK
  zero : List Value
  row : List CK
  eqi : Bool
def kindD : TypeDesc → TyK
  | .slice e => .slice e
  | .struct fs => .struct (fs.toList.map fun f => (f.type, f.offset))
  | .array n e => .array n e
  | .string => .str
  | .int k => .int k
  | .bool => .bool
  | .interface _ => .iface
  | _ => .other
def intF (P : Program) (f : Field) : Bool := match P.underlying f.type with
  | some (.int _) => f.name != "_"
  | _ => false
/-- A struct of n whole numbers. -/
def eqIntsB (P : Program) (t : TypeId) (n : Nat) : Bool :=
  !P.eqGuardType P.depth t && !P.stoodInHeld t && (match P.underlying t with
    | some (.struct fs) => fs.toList.map (·.offset) == List.range' 0 n && fs.toList.all (intF P)
    | _ => false)
def TyOk (P : Program) (t : TypeId) (T : Ty) : Prop := ∃ d i z, P.underlying t = some d ∧ P.info? t = some i ∧ i.zero = some z ∧ T.size = i.size ∧ T.bytes = i.bytes ∧ T.agg = aggD d ∧ T.kind = kindD d ∧ T.zero = z.cells.toList ∧ (T.eqi = true → eqIntsB P t T.size = true)
abbrev TyTab := List (TypeId × Ty)
def tyGet : TyTab → TypeId → Option Ty
  | [], _ => none
  | (u, T) :: r, t => if Nat.beq u t = true then some T else tyGet r t
def TabOk (P : Program) (tab : TyTab) : Prop := ∀ p ∈ tab, TyOk P p.1 p.2
theorem tyGet_ok {P : Program} : ∀ {tab : TyTab} {t : TypeId} {T : Ty}, TabOk P tab → tyGet tab t = some T → TyOk P t T
  | [], t, T, _, h => by cases h
  | (u, U) :: r, t, T, hk, h => by
    simp only [tyGet] at h
    split at h
    · rename_i e
      obtain rfl := Option.some.inj h
      have := hk (u, U) List.mem_cons_self
      rwa [Nat.eq_of_beq_eq_true e] at this
    · exact tyGet_ok (fun p hp => hk p (List.mem_cons_of_mem _ hp)) h
/-- A datum by its letter, or written out. -/
inductive At where
  | v (i : Nat)
  | k (d : D)
  deriving Inhabited
def At.den (env : List D) : At → D
  | .v i => (env[i]?).getD (.l [])
  | .k d => d
inductive SV where
  | any
  | dat (k : CK) (a : At)
  | lz (e : List CK) (a : At)
  | K (v : Value)
  | nilS
  | e0
  | ifc (a : At)
  | ptr (i o : Nat)
  | ptrE (i : Nat) (ix : At) (s off : Nat)
  | sl (i : Nat) (lo n : At) (s : Nat)
  | pfz (l : Bool) (e : List CK) (a ix : At) (off : Nat)
  | agg (xs : List SV)
  | tup (xs : List SV)
  | fn (f : Nat) (xs : List SV)
  deriving Inhabited
/-- nil, or an interface value that is not. -/
def ifcA : D → AV
  | .b true => .v .nilIface
  | _ => .ifs
mutual
def SV.den (env : List D) : SV → AV
  | .any => .any
  | .dat k a => encC k (a.den env)
  | .lz e a => .fz true e.length (a.den env).items.length (encR e (a.den env).items)
  | .K v => .v v
  | .nilS => .v (.slice none 0 0)
  | .e0 => .e0
  | .ifc a => ifcA (a.den env)
  | .ptr i o => .ptr i o
  | .ptrE i ix s off => .ptr i ((ix.den env).nat * s + off)
  | .sl i lo n s => .sl i ((lo.den env).nat * s) (n.den env).nat s
  | .pfz l e a ix off => .pfz l ((encR e (a.den env).items).drop ((ix.den env).nat * e.length + off))
  | .agg xs => .agg (SV.dens env xs)
  | .tup xs => .tup (SV.dens env xs)
  | .fn f xs => .fn (.func f) (SV.dens env xs)
def SV.dens (env : List D) : List SV → List AV
  | [] => []
  | x :: xs => SV.den env x :: SV.dens env xs
end
theorem dens_map (env : List D) (l : List SV) : SV.dens env l = l.map (SV.den env) := by
  induction l with
  | nil => rfl
  | cons x xs ih => simp [SV.dens, ih]
/-- A block: its cells; or a list of elements, and how many. -/
inductive SB where
  | cells (xs : List SV)
  | arr (e : List CK) (a n : At)
  deriving Inhabited
def SB.den (env : List D) : SB → List AV
  | .cells xs => SV.dens env xs
  | .arr e a _ => encR e (a.den env).items
structure SS where
  T : List (Nat × SV)
  H : List (Nat × SB)
  nx : Nat
  deriving Inhabited
def denT (env : List D) : List (Nat × SV) → List (Nat × AV)
  | [] => []
  | (t, x) :: r => (t, x.den env) :: denT env r
def denH (env : List D) : List (Nat × SB) → Hp
  | [] => []
  | (i, b) :: r => (i, b.den env) :: denH env r
def SS.den (env : List D) (σ : SS) : St := ⟨denT env σ.T, denH env σ.H, σ.nx⟩
def tkS : List (Nat × SV) → Nat → SV
  | [], _ => .any
  | (d, v) :: r, t => if Nat.beq d t = true then v else tkS r t
theorem tk_denT (env : List D) (t : Nat) : ∀ T : List (Nat × SV), tk (denT env T) t = (tkS T t).den env
  | [] => rfl
  | (d, x) :: r => by
    simp only [denT, tk, tkS]
    split
    · rfl
    · exact tk_denT env t r
def hgetS : List (Nat × SB) → Nat → Option SB
  | [], _ => none
  | (k, b) :: r, n => if Nat.beq k n = true then some b else hgetS r n
theorem hget_denH (env : List D) (t : Nat) : ∀ H : List (Nat × SB), hget (denH env H) t = (hgetS H t).map (SB.den env)
  | [] => rfl
  | (d, x) :: r => by
    simp only [denH, hget, hgetS]
    split
    · rfl
    · exact hget_denH env t r
def hputS : List (Nat × SB) → Nat → SB → List (Nat × SB)
  | [], _, _ => []
  | (k, d) :: r, n, b => if Nat.beq k n = true then (n, b) :: r else (k, d) :: hputS r n b
theorem denH_put (env : List D) (i : Nat) (b : SB) : ∀ H : List (Nat × SB), denH env (hputS H i b) = hput (denH env H) i (b.den env)
  | [] => rfl
  | (d, x) :: r => by
    simp only [denH, hput, hputS]
    split
    · rfl
    · simp only [denH]; rw [denH_put env i b r]
def hdelS : List (Nat × SB) → Nat → List (Nat × SB)
  | [], _ => []
  | (k, d) :: r, n => if Nat.beq k n = true then hdelS r n else (k, d) :: hdelS r n
theorem denH_del (env : List D) (i : Nat) : ∀ H : List (Nat × SB), denH env (hdelS H i) = hdel (denH env H) i
  | [] => rfl
  | (d, x) :: r => by
    simp only [denH, hdel, hdelS]
    split
    · exact denH_del env i r
    · simp only [denH]; rw [denH_del env i r]
theorem denH_snoc (env : List D) (i : Nat) (b : SB) : ∀ H : List (Nat × SB), denH env (H ++ [(i, b)]) = denH env H ++ [(i, b.den env)]
  | [] => rfl
  | (d, x) :: r => by simp only [List.cons_append, denH]; rw [denH_snoc env i b r]
/-- A value of the model's, in letters. -/
def zSV : Value → SV
  | .int k z => .dat (.int k) (.k (.i z))
  | .bool b => .dat .bool (.k (.b b))
  | .string s => .dat .str (.k (.s s))
  | .slice none 0 0 => .nilS
  | v => .K v
theorem zSV_den (env : List D) (v : Value) : (zSV v).den env = .v v := by
  unfold zSV
  split <;> simp [SV.den, encC, At.den]
def SS.ev (σ : SS) : Operand → SV
  | .tmp t => tkS σ.T t
  | .const v => zSV v
  | .global _ => .any
  | .func f => .fn f []
theorem SS.ev_den (env : List D) (σ : SS) (x : Operand) : (σ.den env).ev x = (σ.ev x).den env := by
  cases x with
  | tmp t => exact tk_denT env t σ.T
  | const v => exact (zSV_den env v).symm
  | global g => rfl
  | func f => rfl
def SS.put (σ : SS) (d : Option Tmp) (v : SV) : SS :=
  match d with
  | some t => ⟨(t, v) :: σ.T, σ.H, σ.nx⟩
  | none => σ
theorem SS.put_den (env : List D) (σ : SS) (d : Option Tmp) (v : SV) : (σ.put d v).den env = (σ.den env).put d (v.den env) := by
  cases d <;> rfl
/-! ### kinds -/
mutual
def CK.beq : CK → CK → Bool
  | .int k, .int k' => decide (k = k')
  | .bool, .bool => true
  | .str, .str => true
  | .sl e, .sl e' => CK.beqs e e'
  | _, _ => false
def CK.beqs : List CK → List CK → Bool
  | [], [] => true
  | x :: xs, y :: ys => CK.beq x y && CK.beqs xs ys
  | _, _ => false
end
mutual
theorem CK.beq_eq : ∀ {a b : CK}, CK.beq a b = true → a = b
  | .int k, .int k', h => by simp [CK.beq] at h; rw [h]
  | .bool, .bool, _ => rfl
  | .str, .str, _ => rfl
  | .sl e, .sl e', h => by
    simp only [CK.beq] at h
    rw [CK.beqs_eq h]
  | .int _, .bool, h => by simp [CK.beq] at h
  | .int _, .str, h => by simp [CK.beq] at h
  | .int _, .sl _, h => by simp [CK.beq] at h
  | .bool, .int _, h => by simp [CK.beq] at h
  | .bool, .str, h => by simp [CK.beq] at h
  | .bool, .sl _, h => by simp [CK.beq] at h
  | .str, .int _, h => by simp [CK.beq] at h
  | .str, .bool, h => by simp [CK.beq] at h
  | .str, .sl _, h => by simp [CK.beq] at h
  | .sl _, .int _, h => by simp [CK.beq] at h
  | .sl _, .bool, h => by simp [CK.beq] at h
  | .sl _, .str, h => by simp [CK.beq] at h
theorem CK.beqs_eq : ∀ {a b : List CK}, CK.beqs a b = true → a = b
  | [], [], _ => rfl
  | [], _ :: _, h => by simp [CK.beqs] at h
  | _ :: _, [], h => by simp [CK.beqs] at h
  | x :: xs, y :: ys, h => by
    simp only [CK.beqs, Bool.and_eq_true] at h
    rw [CK.beq_eq h.1, CK.beqs_eq h.2]
end
/-- Is the datum of this kind, by the kinds G of those named so far? -/
def tyA (G : List CK) : At → CK → Bool
  | .v i, k => match G[i]? with
    | some k' => CK.beq k' k
    | none => false
  | .k d, k => okC k d
def tyAs (G : List CK) : List At → List CK → Bool
  | [], [] => true
  | a :: as, k :: ks => tyA G a k && tyAs G as ks
  | _, _ => false
theorem tyA_ok {G : List CK} {env : List D} (h : okZ G env = true) {a : At} {k : CK} (ha : tyA G a k = true) : okC k (a.den env) = true := by
  cases a with
  | v i =>
    simp only [tyA] at ha
    split at ha
    · rename_i k' e
      obtain ⟨d, h1, h2⟩ := okZ_get h i k' e
      rw [CK.beq_eq ha] at h2
      simp [At.den, h1, h2]
    · cases ha
  | k d => exact ha
theorem tyA_ext {G : List CK} {env : List D} (h : okZ G env = true) {a : At} {k : CK} (ha : tyA G a k = true) (ds : List D) : a.den (env ++ ds) = a.den env := by
  cases a with
  | v i =>
    simp only [tyA] at ha
    split at ha
    · rename_i k' e
      obtain ⟨d, h1, h2⟩ := okZ_get h i k' e
      simp [At.den, h1, List.getElem?_append_left (show i < env.length by
        rcases Nat.lt_or_ge i env.length with g | g
        · exact g
        · rw [List.getElem?_eq_none g] at h1; cases h1)]
    · cases ha
  | k d => rfl
theorem tyAs_ok {G : List CK} {env : List D} (h : okZ G env = true) : ∀ {as : List At} {ks : List CK}, tyAs G as ks = true → okZ ks (as.map (At.den env)) = true
  | [], [], _ => rfl
  | [], _ :: _, h => by simp [tyAs] at h
  | _ :: _, [], h => by simp [tyAs] at h
  | a :: as, k :: ks, h' => by
    simp only [tyAs, Bool.and_eq_true] at h'
    simp only [List.map_cons, okZ, Bool.and_eq_true]
    exact ⟨tyA_ok h h'.1, tyAs_ok h h'.2⟩
theorem okZ_snoc : ∀ {G : List CK} {env : List D} {k : CK} {d : D}, okZ G env = true → okC k d = true → okZ (G ++ [k]) (env ++ [d]) = true
  | [], [], k, d, _, h => by simp [okZ, h]
  | [], _ :: _, _, _, h, _ => by simp [okZ] at h
  | _ :: _, [], _, _, h, _ => by simp [okZ] at h
  | g :: gs, x :: xs, k, d, h, hk => by
    simp only [okZ, Bool.and_eq_true, List.cons_append] at h ⊢
    exact ⟨h.1, okZ_snoc h.2 hk⟩
theorem okZ_app : ∀ {G K : List CK} {env ds : List D}, okZ G env = true → okZ K ds = true → okZ (G ++ K) (env ++ ds) = true
  | [], K, [], ds, _, h => by simpa using h
  | [], _, _ :: _, _, h, _ => by simp [okZ] at h
  | _ :: _, _, [], _, h, _ => by simp [okZ] at h
  | g :: gs, K, x :: xs, ds, h, hk => by
    simp only [okZ, Bool.and_eq_true, List.cons_append] at h ⊢
    exact ⟨h.1, okZ_app h.2 hk⟩
/-! ### letters in use -/
mutual
/-- All data named in it are named already, and of the kinds said. -/
def SV.wt (G : List CK) : SV → Bool
  | .dat k a => tyA G a k
  | .lz e a => tyA G a (.sl e)
  | .ifc a => tyA G a .bool
  | .ptrE _ ix _ _ => tyA G ix (.int .i64)
  | .sl _ lo m _ => tyA G lo (.int .i64) && tyA G m (.int .i64)
  | .pfz _ e a ix _ => tyA G a (.sl e) && tyA G ix (.int .i64)
  | .agg xs => SV.wts G xs
  | .tup xs => SV.wts G xs
  | .fn _ xs => SV.wts G xs
  | _ => true
def SV.wts (G : List CK) : List SV → Bool
  | [] => true
  | x :: xs => SV.wt G x && SV.wts G xs
end
mutual
/-- The data are of the kinds said. -/
def SV.good (env : List D) : SV → Bool
  | .dat k a => okC k (a.den env)
  | .lz e a => okC (.sl e) (a.den env)
  | .ifc a => okC .bool (a.den env)
  | .ptrE _ ix _ _ => okC (.int .i64) (ix.den env)
  | .sl _ lo m _ => okC (.int .i64) (lo.den env) && okC (.int .i64) (m.den env)
  | .pfz _ e a ix _ => okC (.sl e) (a.den env) && okC (.int .i64) (ix.den env)
  | .agg xs => SV.goods env xs
  | .tup xs => SV.goods env xs
  | .fn _ xs => SV.goods env xs
  | _ => true
def SV.goods (env : List D) : List SV → Bool
  | [] => true
  | x :: xs => SV.good env x && SV.goods env xs
end
theorem goods_iff {env : List D} {l : List SV} : SV.goods env l = true ↔ ∀ x ∈ l, x.good env = true := by
  induction l with
  | nil => simp [SV.goods]
  | cons x xs ih => simp [SV.goods, ih]
mutual
theorem SV.wt_good {G : List CK} {env : List D} (h : okZ G env = true) : ∀ {x : SV}, x.wt G = true → x.good env = true
  | .any, _ => rfl
  | .dat k a, k' => by simp only [SV.wt] at k'; simp only [SV.good]; exact tyA_ok h k'
  | .lz e a, k' => by simp only [SV.wt] at k'; simp only [SV.good]; exact tyA_ok h k'
  | .K v, _ => rfl
  | .nilS, _ => rfl
  | .e0, _ => rfl
  | .ifc a, k' => by simp only [SV.wt] at k'; simp only [SV.good]; exact tyA_ok h k'
  | .ptr i o, _ => rfl
  | .ptrE i ix s off, k' => by simp only [SV.wt] at k'; simp only [SV.good]; exact tyA_ok h k'
  | .sl i lo m s, k' => by
    simp only [SV.wt, Bool.and_eq_true] at k'
    simp only [SV.good, Bool.and_eq_true]
    exact ⟨tyA_ok h k'.1, tyA_ok h k'.2⟩
  | .pfz l e a ix off, k' => by
    simp only [SV.wt, Bool.and_eq_true] at k'
    simp only [SV.good, Bool.and_eq_true]
    exact ⟨tyA_ok h k'.1, tyA_ok h k'.2⟩
  | .agg xs, k' => SV.wts_good h k'
  | .tup xs, k' => SV.wts_good h k'
  | .fn f xs, k' => SV.wts_good h k'
theorem SV.wts_good {G : List CK} {env : List D} (h : okZ G env = true) : ∀ {xs : List SV}, SV.wts G xs = true → SV.goods env xs = true
  | [], _ => rfl
  | x :: xs, k' => by
    simp only [SV.wts, Bool.and_eq_true] at k'
    simp only [SV.goods, Bool.and_eq_true]
    exact ⟨SV.wt_good h k'.1, SV.wts_good h k'.2⟩
end
mutual
theorem SV.wt_ext {G : List CK} {env : List D} (h : okZ G env = true) (ds : List D) : ∀ {x : SV}, x.wt G = true → x.den (env ++ ds) = x.den env
  | .any, _ => rfl
  | .dat k a, k' => by simp only [SV.wt] at k'; simp only [SV.den]; rw [tyA_ext h k']
  | .lz e a, k' => by simp only [SV.wt] at k'; simp only [SV.den]; rw [tyA_ext h k']
  | .K v, _ => rfl
  | .nilS, _ => rfl
  | .e0, _ => rfl
  | .ifc a, k' => by simp only [SV.wt] at k'; simp only [SV.den]; rw [tyA_ext h k']
  | .ptr i o, _ => rfl
  | .ptrE i ix s off, k' => by simp only [SV.wt] at k'; simp only [SV.den]; rw [tyA_ext h k']
  | .sl i lo m s, k' => by
    simp only [SV.wt, Bool.and_eq_true] at k'
    simp only [SV.den]
    rw [tyA_ext h k'.1, tyA_ext h k'.2]
  | .pfz l e a ix off, k' => by
    simp only [SV.wt, Bool.and_eq_true] at k'
    simp only [SV.den]
    rw [tyA_ext h k'.1, tyA_ext h k'.2]
  | .agg xs, k' => by simp only [SV.wt] at k'; simp only [SV.den]; rw [SV.wts_ext h ds k']
  | .tup xs, k' => by simp only [SV.wt] at k'; simp only [SV.den]; rw [SV.wts_ext h ds k']
  | .fn f xs, k' => by simp only [SV.wt] at k'; simp only [SV.den]; rw [SV.wts_ext h ds k']
theorem SV.wts_ext {G : List CK} {env : List D} (h : okZ G env = true) (ds : List D) : ∀ {xs : List SV}, SV.wts G xs = true → SV.dens (env ++ ds) xs = SV.dens env xs
  | [], _ => rfl
  | x :: xs, k' => by
    simp only [SV.wts, Bool.and_eq_true] at k'
    simp only [SV.dens]
    rw [SV.wt_ext h ds k'.1, SV.wts_ext h ds k'.2]
end
mutual
theorem SV.good_ext {G : List CK} {env : List D} (h : okZ G env = true) (ds : List D) : ∀ {x : SV}, x.wt G = true → x.good (env ++ ds) = true
  | .any, _ => rfl
  | .dat k a, k' => by simp only [SV.wt] at k'; simp only [SV.good]; rw [tyA_ext h k']; exact tyA_ok h k'
  | .lz e a, k' => by simp only [SV.wt] at k'; simp only [SV.good]; rw [tyA_ext h k']; exact tyA_ok h k'
  | .K v, _ => rfl
  | .nilS, _ => rfl
  | .e0, _ => rfl
  | .ifc a, k' => by simp only [SV.wt] at k'; simp only [SV.good]; rw [tyA_ext h k']; exact tyA_ok h k'
  | .ptr i o, _ => rfl
  | .ptrE i ix s off, k' => by simp only [SV.wt] at k'; simp only [SV.good]; rw [tyA_ext h k']; exact tyA_ok h k'
  | .sl i lo m s, k' => by
    simp only [SV.wt, Bool.and_eq_true] at k'
    simp only [SV.good, Bool.and_eq_true]
    rw [tyA_ext h k'.1, tyA_ext h k'.2]
    exact ⟨tyA_ok h k'.1, tyA_ok h k'.2⟩
  | .pfz l e a ix off, k' => by
    simp only [SV.wt, Bool.and_eq_true] at k'
    simp only [SV.good, Bool.and_eq_true]
    rw [tyA_ext h k'.1, tyA_ext h k'.2]
    exact ⟨tyA_ok h k'.1, tyA_ok h k'.2⟩
  | .agg xs, k' => SV.goods_ext h ds k'
  | .tup xs, k' => SV.goods_ext h ds k'
  | .fn f xs, k' => SV.goods_ext h ds k'
theorem SV.goods_ext {G : List CK} {env : List D} (h : okZ G env = true) (ds : List D) : ∀ {xs : List SV}, SV.wts G xs = true → SV.goods (env ++ ds) xs = true
  | [], _ => rfl
  | x :: xs, k' => by
    simp only [SV.wts, Bool.and_eq_true] at k'
    simp only [SV.goods, Bool.and_eq_true]
    exact ⟨SV.good_ext h ds k'.1, SV.goods_ext h ds k'.2⟩
end
def SB.wt (G : List CK) : SB → Bool
  | .cells xs => SV.wts G xs
  | .arr e a m => tyA G a (.sl e) && tyA G m (.int .i64)
def wtT (G : List CK) : List (Nat × SV) → Bool
  | [] => true
  | (_, x) :: r => x.wt G && wtT G r
def wtH (G : List CK) : List (Nat × SB) → Bool
  | [] => true
  | (_, b) :: r => b.wt G && wtH G r
def SS.wt (G : List CK) (σ : SS) : Bool := wtT G σ.T && wtH G σ.H
/-- The state is of the kinds said. -/
structure SS.Good (env : List D) (σ : SS) : Prop where
  T : ∀ t, (tkS σ.T t).good env = true
  C : ∀ i xs, hgetS σ.H i = some (.cells xs) → SV.goods env xs = true
  A : ∀ i e a n, hgetS σ.H i = some (.arr e a n) → okC (.sl e) (a.den env) = true ∧ n.den env = .i (a.den env).items.length
/-- How many elements a block has, as said. -/
def SInv (env : List D) (σ : SS) : Prop := ∀ i e a n, hgetS σ.H i = some (.arr e a n) → n.den env = .i (a.den env).items.length
theorem wtT_get {G : List CK} : ∀ {T : List (Nat × SV)}, wtT G T = true → ∀ t, (tkS T t).wt G = true
  | [], _, t => rfl
  | (d, x) :: r, h, t => by
    simp only [wtT, Bool.and_eq_true] at h
    simp only [tkS]
    split
    · exact h.1
    · exact wtT_get h.2 t
theorem wtH_get {G : List CK} : ∀ {H : List (Nat × SB)}, wtH G H = true → ∀ i b, hgetS H i = some b → b.wt G = true
  | [], _, i, b, hb => by cases hb
  | (d, x) :: r, h, i, b, hb => by
    simp only [wtH, Bool.and_eq_true] at h
    simp only [hgetS] at hb
    split at hb
    · obtain rfl := Option.some.inj hb; exact h.1
    · exact wtH_get h.2 i b hb
theorem SS.wt_good {G : List CK} {env : List D} (h : okZ G env = true) {σ : SS} (hw : σ.wt G = true) (hi : SInv env σ) (ds : List D) : σ.den (env ++ ds) = σ.den env ∧ σ.Good (env ++ ds) := by
  simp only [SS.wt, Bool.and_eq_true] at hw
  have h1 : ∀ T, wtT G T = true → denT (env ++ ds) T = denT env T := by
    intro T
    induction T with
    | nil => intro _; rfl
    | cons p r ih =>
      obtain ⟨t, x⟩ := p
      intro h'
      simp only [wtT, Bool.and_eq_true] at h'
      simp only [denT]
      rw [SV.wt_ext h ds h'.1, ih h'.2]
  have h2 : ∀ H, wtH G H = true → denH (env ++ ds) H = denH env H := by
    intro H
    induction H with
    | nil => intro _; rfl
    | cons p r ih =>
      obtain ⟨t, x⟩ := p
      intro h'
      simp only [wtH, Bool.and_eq_true] at h'
      simp only [denH]
      rw [ih h'.2]
      congr 2
      cases x with
      | cells xs => exact SV.wts_ext h ds h'.1
      | arr e a n =>
        have h'' := h'.1
        simp only [SB.wt, Bool.and_eq_true] at h''
        simp only [SB.den]
        rw [tyA_ext h h''.1]
  refine ⟨by simp only [SS.den]; rw [h1 _ hw.1, h2 _ hw.2], fun t => SV.good_ext h ds (wtT_get hw.1 t), fun i xs hx => SV.goods_ext h ds (wtH_get hw.2 i _ hx), fun i e a n hx => ?_⟩
  have h' := wtH_get hw.2 i _ hx
  simp only [SB.wt, Bool.and_eq_true] at h'
  rw [tyA_ext h h'.1, tyA_ext h h'.2]
  exact ⟨tyA_ok h h'.1, hi i e a n hx⟩
theorem okZ_len {G : List CK} {env : List D} (h : okZ G env = true) : G.length = env.length := (okZ_length h).symm
end Go.BH
