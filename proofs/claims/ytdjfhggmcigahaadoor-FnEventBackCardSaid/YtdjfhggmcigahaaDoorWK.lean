/- The text that impl.words gives, and that it gives it. -/
import Derived.Test.YtdjfhggmcigahaaDoorSH
import Derived.Lib.ItoaLen
import Derived.Lib.AppendIntMem
import Derived.Lib.Hide
import Derived.WalkKit
import Derived.BigCall
set_option linter.unusedVariables false
namespace Go.Proofs
open Go.RowKit Go.Sort
/-- The numbers, each behind a blank. -/
def numsT : List Int → List UInt8
  | [] => []
  | n :: ns => 32 :: (Lib.itoa n ++ numsT ns)
def wordsT (s : ByteArray) (ns : List Int) : ByteArray := ⟨(s.data.toList ++ numsT ns).toArray⟩
theorem numsT_snoc (l : List Int) (n : Int) : numsT (l ++ [n]) = numsT l ++ 32 :: Lib.itoa n := by
  induction l with
  | nil => simp [numsT]
  | cons x xs ih => simp [numsT, ih]
def Okn (n : Int) : Prop := -9223372036854775808 ≤ n ∧ n ≤ 9223372036854775807
theorem numsT_length : ∀ (l : List Int), (∀ n ∈ l, Okn n) → (numsT l).length ≤ 22 * l.length
  | [], _ => by simp [numsT]
  | n :: ns, h => by
    have h1 := h n List.mem_cons_self
    have := Lib.itoa_length_le n h1.1 h1.2
    have := numsT_length ns (fun m hm => h m (List.mem_cons_of_mem _ hm))
    simp [numsT]
    omega
theorem builder_grow {T e : TypeId} {B b : Nat} {bs : List Value} {w : World} (h : Lib.IsBuilderF T e B b bs w) (os : Array Obj) : Lib.IsBuilderF T e B b bs (grow w os) := by
  obtain ⟨l⟩ := os
  have key : ∀ (l : List Obj) (w : World), Lib.IsBuilderF T e B b bs w → Lib.IsBuilderF T e B b bs (grow w l.toArray) := by
    intro l
    induction l with
    | nil => intro w h; rw [show (([] : List Obj).toArray) = #[] from rfl, grow_empty]; exact h
    | cons o l ih =>
      intro w h
      have := ih (w.alloc o) (h.alloc o)
      rw [alloc_eq_grow, grow_grow] at this
      simpa using this
  exact key l w h
theorem below_grow {B : Nat} {a w : World} (h : Below B a w) (hB : B ≤ w.heap.size) (os : Array Obj) : Below B a (grow w os) :=
  h.trans ⟨rfl, rfl, rfl, by simp, fun k hk => heap_grow_old w os (by omega)⟩
set_option maxHeartbeats 4000000 in
set_option maxRecDepth 1000000 in
theorem words_walk (s : ByteArray) (A : Option Addr) (c : Nat) (ns : List Int) (w : World) (hs : s.size ≤ 1000000) (hn : ns.length ≤ 1000000) (hc : ns.length ≤ c) (hok : ∀ n ∈ ns, Okn n)
    (hcell : ∀ (j : Nat) (n : Int), ns[j]? = some n → ∃ b o, A = some ⟨b, o, none⟩ ∧ b < w.heap.size ∧ w.cell? ⟨b, o + j, none⟩ = some (.int .i64 n))
    (htab : Lib.TabIs Tryd.prog w "internal/strconv.uint64pow10" .u64 Lib.pow10Tab) :
    Calls Tryd.prog 28 #[.string s, .slice A ns.length c] w fun e w' => e = .returned (.string (wordsT s ns)) ∧ Below w.heap.size w w' := by
  have hT := Lib.tabBelow_of_tabIs htab
  have hsz : s.data.toList.length = s.size := by rw [Array.length_toList]; rfl
  go_enter Tryd.func28, Tryd.ntmps28
  go_wp2_with (go_at_call 45; refine (Tryd.Builder_WriteString_k w.heap.size w.heap.size [] s _ (Lib.IsBuilderF.of (Lib.fresh_isBuilder 70 5 w)) (by simp; omega) (by simp)).mono ?_; rintro e w1 ⟨rfl, i1, b1, -⟩; refine Hid.out ?_)
  refine Lib.hid ?_
  have hb1 : Below w.heap.size w w1 := ((Below.refl _ w).alloc (Nat.le_refl _) _).trans b1
  have j1 : Lib.IsBuilderF 70 5 w.heap.size w.heap.size (Lib.byteCells (s.data.toList ++ numsT (ns.take 0))) w1 := by
    rw [List.take_zero, show numsT [] = [] from rfl, List.append_nil]
    exact Or.inr i1
  clear b1 i1
  go_wp2
  go_loopw [12] (fun iv wr => ∃ k : Nat, k ≤ ns.length ∧ iv = .int .i64 k ∧ Lib.IsBuilderF 70 5 w.heap.size w.heap.size (Lib.byteCells (s.data.toList ++ numsT (ns.take k))) wr ∧ Below w.heap.size w wr) (fun iv _ => ns.length - (RowKit.intOf iv).toNat)
  case atStart => exact ⟨0, Nat.zero_le _, rfl, j1, hb1⟩
  case round =>
    obtain ⟨k, hk, rfl, hI, hbw⟩ := hrel
    by_cases hlt : k < ns.length
    · obtain ⟨b, o, rfl, hb, hcl⟩ := hcell k ns[k] (List.getElem?_eq_getElem hlt)
      have hcl' : wr.cell? ⟨b, o + k, none⟩ = some (.int .i64 ns[k]) := by rw [hbw.cell (by exact hb)]; exact hcl
      have hokk := hok ns[k] (List.getElem_mem hlt)
      have hT2 := (hT.on hbw).here
      have hlen := numsT_length (ns.take k) (fun n hn => hok n (List.mem_of_mem_take hn))
      have hlk : (ns.take k).length = k := by simp; omega
      have hil := Lib.itoa_length_le ns[k] hokk.1 hokk.2
      have hwsz := hbw.size
      go_wp2_with (first
        | (go_at_call 46; refine (Tryd.strconv_Itoa ns[k] hokk.1 hokk.2 _ hT2).mono ?_; rintro e w2 ⟨rfl, n2, os, rfl⟩; refine Hid.out ?_))
      refine Lib.hid ?_
      have I2 : Lib.IsBuilderF 70 5 w.heap.size w.heap.size (Lib.byteCells (s.data.toList ++ numsT (ns.take k))) (grow (wr.drewN n2) os) := builder_grow (w := wr.drewN n2) hI os
      have bw2 : Below w.heap.size w (grow (wr.drewN n2) os) := below_grow (w := wr.drewN n2) ⟨hbw.os, hbw.tape, hbw.output, hbw.size, hbw.block⟩ hwsz os
      have hsum : (Lib.byteCells (s.data.toList ++ numsT (ns.take k))).length + (({ data := #[32] } : ByteArray) ++ { data := (Lib.itoa ns[k]).toArray }).size ≤ 140737488355328 := by
        have e32 : (({ data := #[32] } : ByteArray) ++ { data := (Lib.itoa ns[k]).toArray }).size = 1 + (Lib.itoa ns[k]).length := by
          rw [ByteArray.size_append]
          rfl
        rw [e32, Lib.byteCells_length, List.length_append]
        omega
      go_wp2_with (go_at_call 45; refine (Tryd.Builder_WriteString_k w.heap.size w.heap.size _ _ _ I2 hsum bw2.size).mono ?_; rintro e w3 ⟨rfl, i3, b3, -⟩)
      go_roundw
      case rel =>
        refine ⟨k + 1, by omega, by go_num, ?_, bw2.trans b3⟩
        have e1 : Lib.byteCells (s.data.toList ++ numsT (ns.take k)) ++ Lib.strCells (({ data := #[32] } : ByteArray) ++ { data := (Lib.itoa ns[k]).toArray }) = Lib.byteCells (s.data.toList ++ numsT (ns.take (k + 1))) := by
          rw [List.take_add_one, List.getElem?_eq_getElem hlt, Option.toList_some, numsT_snoc, Lib.strCells_eq, ← Lib.byteCells_append]
          simp
        rw [← e1]
        exact Or.inr i3
      case measure => simp [RowKit.intOf]; omega
    · go_wp2_with (go_at_call 47; refine (Tryd.Builder_String_any_k w.heap.size w.heap.size _ _ hI hbw.size).mono ?_; rintro e w4 ⟨rfl, -, b4, -⟩)
      go_wp2
      go_ret
      have hke : k = ns.length := by omega
      subst hke
      rw [List.take_length]
      exact ⟨rfl, hbw.trans b4⟩
end Go.Proofs
