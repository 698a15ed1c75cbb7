/- The text that impl.FactText gives, and that it gives it. -/
import Derived.Test.YtdjfhggmcigahaaDoorWK
import Derived.Test.YtdjfhggmcigahaaDoorB2
set_option linter.unusedVariables false
namespace Go.Proofs
open Go.RowKit Go.Sort
def factW (k : Int) : ByteArray := if k = 1 then ⟨#[116, 97, 107, 101, 110]⟩ else if k = 2 then ⟨#[103, 105, 118, 101, 110]⟩ else if k = 3 then ⟨#[114, 101, 102, 117, 115, 101, 100]⟩ else if k = 4 then ⟨#[119, 114, 111, 110, 103]⟩ else ⟨#[110, 111, 110, 101]⟩
theorem words4 {w : World} {a b c d : Int} (ha : Okn a) (hb : Okn b) (hc : Okn c) (hd : Okn d) (htab : Lib.TabIs Tryd.prog w "internal/strconv.uint64pow10" .u64 Lib.pow10Tab) (s : ByteArray) (hs : s.size ≤ 1000000) (W : World) (hw : Below w.heap.size w W) (h : W.heap[w.heap.size + 1]? = some (.cells #[.int .i64 a, .int .i64 b, .int .i64 c, .int .i64 d] 3 (0, 0))) :
    Calls Tryd.prog 28 #[.string s, .slice (some ⟨w.heap.size + 1, 0, none⟩) 4 4] W fun e w' => e = .returned (.string (wordsT s [a, b, c, d])) ∧ Below w.heap.size w w' := by
  have hlt : w.heap.size + 1 < W.heap.size := (Array.getElem?_eq_some_iff.1 h).1
  refine (words_walk s (some ⟨w.heap.size + 1, 0, none⟩) 4 [a, b, c, d] W hs (by simp) (by simp) (by simp; exact ⟨ha, hb, hc, hd⟩) (fun j n hj => ⟨_, _, rfl, hlt, ?_⟩) ((Lib.tabBelow_of_tabIs htab).on hw).here).mono ?_
  · have hc : ∀ j, W.cell? ⟨w.heap.size + 1, j, none⟩ = (#[Value.int .i64 a, .int .i64 b, .int .i64 c, .int .i64 d])[j]? := fun j => Lib.cell_of_heap h j
    rw [hc]
    match j, hj with
    | 0, hj => simp at hj ⊢; exact hj
    | 1, hj => simp at hj ⊢; exact hj
    | 2, hj => simp at hj ⊢; exact hj
    | 3, hj => simp at hj ⊢; exact hj
    | j + 4, hj => simp at hj
  · rintro e w' ⟨rfl, hb⟩
    have hs := hw.size
    exact ⟨rfl, hw.trans (hb.mono (by omega))⟩
def words5 : Value := .agg #[.string ⟨#[]⟩, .string ⟨#[116, 97, 107, 101, 110]⟩, .string ⟨#[103, 105, 118, 101, 110]⟩, .string ⟨#[114, 101, 102, 117, 115, 101, 100]⟩, .string ⟨#[119, 114, 111, 110, 103]⟩]
theorem index_words (k : Int) (hk : k = 1 ∨ k = 2 ∨ k = 3 ∨ k = 4) (W : World) : (Instr.index 55 (.agg #[.string ⟨#[]⟩, .string ⟨#[116, 97, 107, 101, 110]⟩, .string ⟨#[103, 105, 118, 101, 110]⟩, .string ⟨#[114, 101, 102, 117, 115, 101, 100]⟩, .string ⟨#[119, 114, 111, 110, 103]⟩]) (.int .i64 k)).run Tryd.prog W = .ok (.string (factW k)) W := by
  rcases hk with rfl | rfl | rfl | rfl <;> simp [Instr.index, asIntOf, run_underlying Tryd.underlying55, factW, Tryd.sizeOf9, Tryd.isAgg9, part]
set_option maxHeartbeats 4000000 in
set_option maxRecDepth 1000000 in
theorem fact_walk (k a b c d : Int) (w : World) (hk : Okn k) (ha : Okn a) (hb : Okn b) (hc : Okn c) (hd : Okn d)
    (htab : Lib.TabIs Tryd.prog w "internal/strconv.uint64pow10" .u64 Lib.pow10Tab) :
    Calls Tryd.prog 9 #[.agg #[.int .i64 k, .int .i64 a, .int .i64 b, .int .i64 c, .int .i64 d]] w fun e w' => e = .returned (.string (wordsT (factW k) [a, b, c, d])) ∧ Below w.heap.size w w' := by
  have hT := Lib.tabBelow_of_tabIs htab
  go_enter Tryd.func9, Tryd.ntmps9
  have hb2 : Below w.heap.size w ((w.alloc (Obj.cells #[.int .i64 k, .int .i64 a, .int .i64 b, .int .i64 c, .int .i64 d] 25)).alloc (Obj.cells #[.int .i64 a, .int .i64 b, .int .i64 c, .int .i64 d] 3)) := ((Below.refl _ w).alloc (Nat.le_refl _) _).alloc (by simp) _
  have hg2 : ((w.alloc (Obj.cells #[.int .i64 k, .int .i64 a, .int .i64 b, .int .i64 c, .int .i64 d] 25)).alloc (Obj.cells #[.int .i64 a, .int .i64 b, .int .i64 c, .int .i64 d] 3)).heap[w.heap.size + 1]? = some (.cells #[.int .i64 a, .int .i64 b, .int .i64 c, .int .i64 d] 3 (0, 0)) := by
    have := BH.alloc_self (w.alloc (Obj.cells #[.int .i64 k, .int .i64 a, .int .i64 b, .int .i64 c, .int .i64 d] 25)) #[.int .i64 a, .int .i64 b, .int .i64 c, .int .i64 d] 3
    simpa using this
  by_cases h1 : k < 1
  · have hf : factW k = ⟨#[110, 111, 110, 101]⟩ := by unfold factW; rw [if_neg (by omega), if_neg (by omega), if_neg (by omega), if_neg (by omega)]
    rw [hf]
    go_wp2_with (first | (go_at_call 28; refine (words4 ha hb hc hd htab _ (by decide) _ hb2 hg2).mono ?_; rintro e w4 ⟨rfl, b4⟩) | go_in)
    go_ret
    exact ⟨rfl, b4⟩
  · by_cases h4 : 4 < k
    · have hf : factW k = ⟨#[110, 111, 110, 101]⟩ := by unfold factW; rw [if_neg (by omega), if_neg (by omega), if_neg (by omega), if_neg (by omega)]
      rw [hf]
      go_wp2_with (first | (go_at_call 28; refine (words4 ha hb hc hd htab _ (by decide) _ hb2 hg2).mono ?_; rintro e w4 ⟨rfl, b4⟩) | go_in)
      go_ret
      exact ⟨rfl, b4⟩
    · have hk4 : k = 1 ∨ k = 2 ∨ k = 3 ∨ k = 4 := by omega
      clear h1 h4 hk
      have hk5 := hk4
      rcases hk4 with rfl | rfl | rfl | rfl
      all_goals
        have hix := index_words _ hk5
        go_wp2_with (first | (go_at_call 28; refine (words4 ha hb hc hd htab _ (by decide) _ hb2 hg2).mono ?_; rintro e w4 ⟨rfl, b4⟩) | go_in)
        go_ret
        exact ⟨rfl, b4⟩
end Go.Proofs
