/- Data, and how it lies in memory; the plain operations on data. -/
import Derived.Test.YtdjfhggmcigahaaDoorB10
set_option linter.unusedVariables false
set_option linter.unusedSimpArgs false
namespace Go.BH
open Go.RowKit
/-- Data: a whole number, a truth, a text, a list (of elements, or of a struct's cells). -/
inductive D where
  | i (n : Int)
  | b (x : Bool)
  | s (x : ByteArray)
  | l (xs : List D)
  deriving Inhabited
/-- What a cell holds; a slice by what an element's cells hold. -/
inductive CK where
  | int (k : IntKind)
  | bool
  | str
  | sl (e : List CK)
  deriving Inhabited
def D.items : D → List D
  | .l xs => xs
  | _ => []
def D.int : D → Int
  | .i n => n
  | _ => 0
def D.nat (d : D) : Nat := d.int.toNat
def D.tr : D → Bool
  | .b x => x
  | _ => false
def D.st : D → ByteArray
  | .s x => x
  | _ => .empty
/-- An element's cells: an element of one cell is that cell. -/
def row (e : List CK) (d : D) : List D :=
  match e with
  | [_] => [d]
  | _ => d.items
def unrow (e : List CK) (ds : List D) : D :=
  match e, ds with
  | [_], [d] => d
  | _, ds => .l ds
mutual
def okC : CK → D → Bool
  | .int _, .i _ => true
  | .bool, .b _ => true
  | .str, .s _ => true
  | .sl e, .l xs => xs.all fun d => okZ e (row e d)
  | _, _ => false
def okZ : List CK → List D → Bool
  | [], [] => true
  | k :: ks, d :: ds => okC k d && okZ ks ds
  | _, _ => false
end
/-- Is d an element of a slice whose elements' cells hold e? -/
def okE (e : List CK) (d : D) : Bool := okZ e (row e d)
mutual
def encC : CK → D → AV
  | .int k, .i n => .v (.int k n)
  | .bool, .b x => .v (.bool x)
  | .str, .s x => .v (.string x)
  | .sl e, .l xs => .fz false e.length xs.length (xs.flatMap fun d => encZ e (row e d))
  | _, _ => .any
def encZ : List CK → List D → List AV
  | [], _ => []
  | k :: ks, [] => .any :: encZ ks []
  | k :: ks, d :: ds => encC k d :: encZ ks ds
end
theorem encZ_length : ∀ (e : List CK) (ds : List D), (encZ e ds).length = e.length
  | [], _ => by simp [encZ]
  | k :: ks, [] => by simp [encZ, encZ_length ks]
  | k :: ks, d :: ds => by simp [encZ, encZ_length ks]
/-- A list of elements, cell by cell. -/
def encR (e : List CK) (xs : List D) : List AV := xs.flatMap fun d => encZ e (row e d)
theorem encR_length (e : List CK) (xs : List D) : (encR e xs).length = xs.length * e.length := by
  induction xs with
  | nil => simp [encR]
  | cons d ds ih => simp only [encR, List.flatMap_cons, List.length_append, encZ_length, List.length_cons] at ih ⊢; rw [ih, Nat.add_mul]; omega
theorem encR_append (e : List CK) (xs ys : List D) : encR e (xs ++ ys) = encR e xs ++ encR e ys := by simp [encR]
theorem encR_drop (e : List CK) : ∀ (n : Nat) (xs : List D), (encR e xs).drop (n * e.length) = encR e (xs.drop n)
  | 0, xs => by simp
  | n + 1, [] => by simp [encR]
  | n + 1, d :: ds => by
    have := encR_drop e n ds
    simp only [encR, List.flatMap_cons, List.drop_succ_cons] at this ⊢
    rw [List.drop_append, encZ_length, Nat.add_mul, Nat.one_mul, List.drop_eq_nil_of_le (by rw [encZ_length]; omega), List.nil_append, Nat.add_sub_cancel]
    exact this
theorem encR_take (e : List CK) : ∀ (n : Nat) (xs : List D), (encR e xs).take (n * e.length) = encR e (xs.take n)
  | 0, xs => by simp [encR]
  | n + 1, [] => by simp [encR]
  | n + 1, d :: ds => by
    have := encR_take e n ds
    simp only [encR, List.flatMap_cons, List.take_succ_cons] at this ⊢
    rw [List.take_append, encZ_length, Nat.add_mul, Nat.one_mul, List.take_of_length_le (by rw [encZ_length]; omega), Nat.add_sub_cancel, this]
theorem encZ_drop : ∀ (n : Nat) (e : List CK) (ds : List D), (encZ e ds).drop n = encZ (e.drop n) (ds.drop n)
  | 0, e, ds => by simp
  | n + 1, [], ds => by simp [encZ]
  | n + 1, k :: ks, [] => by simp only [encZ, List.drop_succ_cons, List.drop_nil]; rw [encZ_drop n ks []]; simp
  | n + 1, k :: ks, d :: ds => by simp only [encZ, List.drop_succ_cons]; exact encZ_drop n ks ds
theorem okZ_length : ∀ {e : List CK} {ds : List D}, okZ e ds = true → ds.length = e.length
  | [], [], _ => rfl
  | [], _ :: _, h => by simp [okZ] at h
  | _ :: _, [], h => by simp [okZ] at h
  | k :: ks, d :: ds, h => by
    simp only [okZ, Bool.and_eq_true] at h
    simp [okZ_length h.2]
theorem okZ_get : ∀ {e : List CK} {ds : List D}, okZ e ds = true → ∀ (j : Nat) (k : CK), e[j]? = some k → ∃ d, ds[j]? = some d ∧ okC k d = true
  | [], ds, _, j, k, h => by simp at h
  | _ :: _, [], h, _, _, _ => by simp [okZ] at h
  | k :: ks, d :: ds, h, 0, k', hk => by
    simp only [okZ, Bool.and_eq_true] at h
    simp at hk
    subst hk
    exact ⟨d, rfl, h.1⟩
  | k :: ks, d :: ds, h, j + 1, k', hk => by
    simp only [okZ, Bool.and_eq_true] at h
    simpa using okZ_get h.2 j k' (by simpa using hk)
theorem okZ_of : ∀ {e : List CK} {ds : List D}, ds.length = e.length → (∀ (j : Nat) (k : CK) (d : D), e[j]? = some k → ds[j]? = some d → okC k d = true) → okZ e ds = true
  | [], [], _, _ => rfl
  | [], _ :: _, h, _ => by simp at h
  | _ :: _, [], h, _ => by simp at h
  | k :: ks, d :: ds, h, hk => by
    simp only [okZ, Bool.and_eq_true]
    exact ⟨hk 0 k d rfl rfl, okZ_of (by simpa using h) (fun j k' d' h1 h2 => hk (j + 1) k' d' (by simpa using h1) (by simpa using h2))⟩
theorem okC_sl {e : List CK} {d : D} (h : okC (.sl e) d = true) : ∃ xs, d = .l xs ∧ ∀ x ∈ xs, okE e x = true := by
  cases d with
  | l xs => exact ⟨xs, rfl, by simpa [okC, okE] using h⟩
  | _ => simp [okC] at h
theorem okC_mk {e : List CK} {xs : List D} (h : ∀ x ∈ xs, okE e x = true) : okC (.sl e) (.l xs) = true := by simpa [okC, okE] using h
theorem okC_int {k : IntKind} {d : D} (h : okC (.int k) d = true) : ∃ n, d = .i n := by
  cases d <;> simp [okC] at h
  exact ⟨_, rfl⟩
theorem okC_bool {d : D} (h : okC .bool d = true) : ∃ n, d = .b n := by
  cases d <;> simp [okC] at h
  exact ⟨_, rfl⟩
theorem okC_str {d : D} (h : okC .str d = true) : ∃ n, d = .s n := by
  cases d <;> simp [okC] at h
  exact ⟨_, rfl⟩
theorem row_unrow {e : List CK} {ds : List D} (h : ds.length = e.length) : row e (unrow e ds) = ds := by
  match e, ds, h with
  | [], [], _ => rfl
  | [k], [d], _ => rfl
  | _ :: _ :: _, ds, _ => rfl
theorem okE_unrow {e : List CK} {ds : List D} (h : okZ e ds = true) : okE e (unrow e ds) = true := by
  unfold okE
  rw [row_unrow (okZ_length h)]
  exact h
theorem encC_one {k : CK} {d : D} (h : okC k d = true) : (encC k d).one = true := by
  cases k <;> cases d <;> simp_all [okC, encC, AV.one, Value.oneCell']
theorem encC_cells (k : CK) (d : D) : (encC k d).cells = [encC k d] := by
  cases k <;> cases d <;> simp [encC, AV.cells]
theorem encZ_ones : ∀ {e : List CK} {ds : List D}, okZ e ds = true → ones (encZ e ds) = true
  | [], [], _ => rfl
  | [], _ :: _, h => by simp [okZ] at h
  | _ :: _, [], h => by simp [okZ] at h
  | k :: ks, d :: ds, h => by
    simp only [okZ, Bool.and_eq_true] at h
    have := encZ_ones h.2
    simp only [ones, encZ, List.all_cons, Bool.and_eq_true] at this ⊢
    exact ⟨encC_one h.1, this⟩
theorem encR_ones {e : List CK} {xs : List D} (h : ∀ x ∈ xs, okE e x = true) : ones (encR e xs) = true := by
  rw [ones_iff]
  intro y hy
  simp only [encR, List.mem_flatMap] at hy
  obtain ⟨d, hd, hy⟩ := hy
  exact ones_iff.1 (encZ_ones (h d hd)) y hy
theorem encR_get {e : List CK} {xs : List D} {i j : Nat} {d : D} (hi : xs[i]? = some d) (hj : j < e.length) : (encR e xs)[i * e.length + j]? = (encZ e (row e d))[j]? := by
  have h1 := encR_drop e i xs
  have h2 : xs.drop i = d :: xs.drop (i + 1) := by
    have hlt : i < xs.length := by
      rcases Nat.lt_or_ge i xs.length with g | g
      · exact g
      · rw [List.getElem?_eq_none g] at hi; cases hi
    rw [List.drop_eq_getElem_cons hlt]
    rw [List.getElem?_eq_getElem hlt] at hi
    rw [Option.some.inj hi]
  rw [h2] at h1
  have h3 := congrArg (fun l => l[j]?) h1
  simp only [List.getElem?_drop] at h3
  rw [h3]
  simp only [encR, List.flatMap_cons]
  rw [List.getElem?_append_left (by rw [encZ_length]; exact hj)]
theorem encZ_get : ∀ {e : List CK} {ds : List D} (j : Nat) {k : CK} {d : D}, e[j]? = some k → ds[j]? = some d → (encZ e ds)[j]? = some (encC k d)
  | [], ds, j, k, d, h, _ => by simp at h
  | _ :: _, [], j, k, d, _, h => by simp at h
  | k :: ks, d :: ds, 0, k', d', h1, h2 => by simp at h1 h2; subst h1; subst h2; rfl
  | k :: ks, d :: ds, j + 1, k', d', h1, h2 => by
    simp only [encZ, List.getElem?_cons_succ]
    exact encZ_get j (by simpa using h1) (by simpa using h2)
mutual
theorem encC_nl : ∀ (k : CK) (d : D), (encC k d).nl = true
  | .int k, .i n => rfl
  | .bool, .b x => rfl
  | .str, .s x => rfl
  | .sl e, .l xs => by
    simp only [encC, AV.nl, Bool.not_false, Bool.true_and]
    exact nls_iff.2 (fun y hy => by
      simp only [List.mem_flatMap] at hy
      obtain ⟨d, hd, hy⟩ := hy
      exact encZ_nl e _ y hy)
  | .int _, .b _ => rfl
  | .int _, .s _ => rfl
  | .int _, .l _ => rfl
  | .bool, .i _ => rfl
  | .bool, .s _ => rfl
  | .bool, .l _ => rfl
  | .str, .i _ => rfl
  | .str, .b _ => rfl
  | .str, .l _ => rfl
  | .sl _, .i _ => rfl
  | .sl _, .b _ => rfl
  | .sl _, .s _ => rfl
theorem encZ_nl : ∀ (e : List CK) (ds : List D), ∀ y ∈ encZ e ds, y.nl = true
  | [], _, y, h => by simp [encZ] at h
  | k :: ks, [], y, h => by
    simp only [encZ, List.mem_cons] at h
    rcases h with rfl | h
    · rfl
    · exact encZ_nl ks [] y h
  | k :: ks, d :: ds, y, h => by
    simp only [encZ, List.mem_cons] at h
    rcases h with rfl | h
    · exact encC_nl k d
    · exact encZ_nl ks ds y h
end
mutual
theorem encC_ren (f : Nat → Nat) : ∀ (k : CK) (d : D), (encC k d).ren f = encC k d
  | .int k, .i n => rfl
  | .bool, .b x => rfl
  | .str, .s x => rfl
  | .sl e, .l xs => by
    simp only [encC, AV.ren]
    congr 1
    rw [rens_map, List.map_flatMap]
    congr 1
    funext d
    exact encZ_ren f e _
  | .int _, .b _ => rfl
  | .int _, .s _ => rfl
  | .int _, .l _ => rfl
  | .bool, .i _ => rfl
  | .bool, .s _ => rfl
  | .bool, .l _ => rfl
  | .str, .i _ => rfl
  | .str, .b _ => rfl
  | .str, .l _ => rfl
  | .sl _, .i _ => rfl
  | .sl _, .b _ => rfl
  | .sl _, .s _ => rfl
theorem encZ_ren (f : Nat → Nat) : ∀ (e : List CK) (ds : List D), (encZ e ds).map (AV.ren f) = encZ e ds
  | [], _ => by simp [encZ]
  | k :: ks, [] => by simp [encZ, encZ_ren f ks, AV.ren]
  | k :: ks, d :: ds => by simp [encZ, encZ_ren f ks, encC_ren f k]
end
theorem encR_ren (f : Nat → Nat) (e : List CK) (xs : List D) : AV.rens f (encR e xs) = encR e xs := by
  rw [rens_map, encR, List.map_flatMap]
  congr 1
  funext d
  exact encZ_ren f e _
theorem encR_nl (e : List CK) (xs : List D) : AV.nls (encR e xs) = true := nls_iff.2 (fun y hy => by
  simp only [encR, List.mem_flatMap] at hy
  obtain ⟨d, hd, hy⟩ := hy
  exact encZ_nl e _ y hy)
end Go.BH
