/- The plain picture of a call's memory, 18: make and append by type facts. -/
import Derived.Test.YtcphdfjoodebiaaAH17
import Derived.Laws.OwnMore
set_option linter.unusedVariables false
set_option linter.unusedSimpArgs false
namespace Go.AH
open Go.RowKit
/-- n zero elements. -/
def zeros (z : List Value) (n : Nat) : List Value := (List.range (n * z.length)).map fun j => z[j % z.length]!
theorem zeros_len (z : List Value) (n : Nat) : (zeros z n).length = n * z.length := by simp [zeros]
theorem zeros_one (v : Value) (n : Nat) : zeros [v] n = List.replicate n v := by
  refine List.ext_getElem (by simp [zeros]) (fun j h1 h2 => ?_)
  simp [zeros, Nat.mod_one]
section
variable {P : Program} {base : Nat} {E : En} {σ : St} {o : Oper} {kp : Id → Bool}
theorem OX.mk {t e : TypeId} {lx cx : Operand} {T F : Ty} {k k' : IntKind} (n : Nat) {R : AV → St → Prop} (ho : o.op = .makeSlice t lx cx) (hT : tyOf P t = some T) (hk : T.kind = .slice e) (hF : tyOf P e = some F) (hz : F.zero.length = F.size) (hl : σ.ev lx = .v (.int k n)) (hc : σ.ev cx = .v (.int k' n)) (hn : n < 9223372036854775808) (hb : F.bytes * n ≤ 281474976710656)
    (hR : R (.sl (.g σ.H.g.length) 0 n F.size) ⟨σ.T, ⟨σ.H.g ++ [.own (vals (zeros F.zero n))], σ.H.l⟩⟩) : OX P base E kp o σ R := by
  obtain ⟨d, info, z, hu, hi, hz', rfl⟩ := tyOf_spec hT
  obtain ⟨d', info', z', hu', hi', hz'', rfl⟩ := tyOf_spec hF
  simp only at hk hz hb hR
  rw [kindD_slice hk] at hu
  refine (OS.makeSlice (base := base) (E := E) (σ := σ) (kp := kp) ho hu hi' hz'' hl hc hn hb).ox ?_
  have : zer z'.cells info'.size n = vals (zeros z'.cells.toList n) := by
    unfold zer zeros madeCells
    rw [Array.toList_map, Array.toList_range, hz]
    congr 1
    refine List.map_congr_left (fun j _ => ?_)
    have h2 : z'.cells.size = info'.size := by simpa using hz
    rw [h2, ← Array.getElem!_toList]
  rw [this]
  exact hR
/-- A guarded call. -/
theorem OT.gsC {f : FuncId} {args : List Operand} {tys : Array TypeId} {ops : Array Oper} {K : St → Prop} {r : List Oper} (ho : o.op = .call ⟨.value (.func f), args.toArray, tys⟩) (hd : okD E.n o.dst = true) (h : gv ops o σ (fun σ' => OX P base E (fun _ => false) o σ' (fun v σ'' => OT P base E ops r K (σ''.put o.dst v))) (fun σ' => OT P base E ops r K (σ'.put o.dst (.tup [])))) : OT P base E ops (o :: r) K σ := OT.gs hd h
/-- A piece of code leaves a truth; what else is known behind it. -/
theorem CT.test {x y : Code} {Q : Exit → St → Prop} (d : Nat) (T : List (Nat × AV)) (H : Hp) (b : Bool) (h : CT P base E x (nxt (fun σ' => ∃ z, Le σ' ⟨(d, .v (.bool z)) :: T, H⟩ ∧ z = b) Q) σ) (k : CT P base E y Q ⟨(d, .v (.bool b)) :: T, H⟩) : CT P base E (.seq x y) Q σ :=
  .cut (fun z : Bool => ⟨(d, .v (.bool z)) :: T, H⟩) (fun z => z = b) (h.mono (fun e σ' hq => by
    cases e with
    | normal => obtain ⟨z, h1, h2⟩ := hq; exact ⟨z, h2, h1⟩
    | _ => exact hq)) (fun z hz => by subst hz; exact k)
end
end Go.AH
