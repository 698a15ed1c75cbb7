/- Functions, and tables of them. -/
import Derived.Test.YtdjfhggmcigahaaDoorB29
set_option linter.unusedVariables false
set_option linter.unusedSimpArgs false
namespace Go.BH
open Go.RowKit
/-! ### trees of the right kinds -/
def ksAt : List (Nat × List CK) → Nat → Option (List CK)
  | [], _ => none
  | (e, k) :: r, n => if Nat.beq e n = true then some k else ksAt r n
def chkTr (S : Kinds) : List (Nat × List CK) → List CK → Tr → Bool
  | L, G, .out e xs => match ksAt L e with
    | some k => tyAs G xs k
    | none => false
  | L, G, .nd n t => chkN S G [n] && chkTr S L (G ++ n.tys) t
  | L, G, .ite a t f => chkTr S L G t && chkTr S L G f
  | L, G, .seq ps a b => chkTr S ((0, ps) :: L) G a && chkTr S L (G ++ ps) b
  | L, G, .loop ps xs b => tyAs G xs ps && chkTr S ((0, ps) :: L) (G ++ ps) b
  | L, G, .blk e ps a b => chkTr S ((0, ps) :: (e, ps) :: L) G a && chkTr S L (G ++ ps) b
  | L, G, .both a t f => chkTr S L G t && chkTr S L G f
section
variable {S : Kinds} {Φ : Fns}
def OutOk (L : List (Nat × List CK)) (o : Nat × List D) : Prop := ∃ k, ksAt L o.1 = some k ∧ okZ k o.2 = true
theorem OutOk.cons {L : List (Nat × List CK)} {e : Nat} {ps : List CK} {o : Nat × List D} (h : OutOk ((e, ps) :: L) o) : (o.1 = e ∧ okZ ps o.2 = true) ∨ (o.1 ≠ e ∧ OutOk L o) := by
  obtain ⟨k, h1, h2⟩ := h
  simp only [ksAt] at h1
  split at h1
  · rename_i g
    cases h1
    exact .inl ⟨(Nat.eq_of_beq_eq_true g).symm, h2⟩
  · rename_i g
    refine .inr ⟨fun e => g ?_, k, h1, h2⟩
    rw [e]; simp
theorem iter_ok {body : List D → Option (Nat × List D)} {ps : List CK} {L : List (Nat × List CK)} (hb : ∀ vs o, okZ ps vs = true → body vs = some o → OutOk ((0, ps) :: L) o) : ∀ (k : Nat) {vs : List D} {o : Nat × List D}, okZ ps vs = true → iter body k vs = some o → o.1 ≠ 0 ∧ OutOk L o
  | 0, vs, o, _, h => by cases h
  | k + 1, vs, o, hv, h => by
    simp only [iter] at h
    cases hbv : body vs with
    | none => rw [hbv] at h; cases h
    | some q =>
      rw [hbv] at h
      obtain ⟨e, ws⟩ := q
      have := (hb vs _ hv hbv).cons
      cases e with
      | zero =>
        rcases this with ⟨_, g⟩ | ⟨g, _⟩
        · exact iter_ok hb k g h
        · exact absurd rfl g
      | succ e =>
        cases h
        rcases this with ⟨g, _⟩ | g
        · cases g
        · exact g
theorem chkTr_ok (hF : FnsOk S Φ) {k : Nat} : ∀ {t : Tr} {L : List (Nat × List CK)} {G : List CK} {env : List D} {o : Nat × List D}, chkTr S L G t = true → okZ G env = true → t.den Φ k env = some o → OutOk L o
  | .out e xs, L, G, env, o, h, hz, hd => by
    simp only [chkTr] at h
    split at h
    · rename_i ks hk
      cases hd
      exact ⟨ks, hk, tyAs_ok hz h⟩
    · cases h
  | .nd n t, L, G, env, o, h, hz, hd => by
    simp only [chkTr, Bool.and_eq_true] at h
    simp only [Tr.den] at hd
    split at hd
    · rename_i ds hr
      obtain ⟨k1, _, _⟩ := runNds_facts hF h.1 hz (env' := env ++ ds) (by simp [runNds, hr])
      exact chkTr_ok hF h.2 (by simpa [tysOf] using k1) hd
    · cases hd
  | .ite a t f, L, G, env, o, h, hz, hd => by
    simp only [chkTr, Bool.and_eq_true] at h
    simp only [Tr.den] at hd
    split at hd
    · exact chkTr_ok hF h.1 hz hd
    · exact chkTr_ok hF h.2 hz hd
    · cases hd
  | .seq ps a b, L, G, env, o, h, hz, hd => by
    simp only [chkTr, Bool.and_eq_true] at h
    simp only [Tr.den] at hd
    cases ha : a.den Φ k env with
    | none => rw [ha] at hd; cases hd
    | some q =>
      rw [ha] at hd
      obtain ⟨e, vs⟩ := q
      have := (chkTr_ok hF h.1 hz ha).cons
      cases e with
      | zero =>
        rcases this with ⟨_, g⟩ | ⟨g, _⟩
        · exact chkTr_ok hF h.2 (okZ_app hz g) hd
        · exact absurd rfl g
      | succ e =>
        cases hd
        rcases this with ⟨g, _⟩ | g
        · cases g
        · exact g.2
  | .loop ps xs b, L, G, env, o, h, hz, hd => by
    simp only [chkTr, Bool.and_eq_true] at h
    simp only [Tr.den] at hd
    exact (iter_ok (fun vs o hv hb => chkTr_ok hF h.2 (okZ_app hz hv) hb) k (tyAs_ok hz h.1) hd).2
  | .blk e ps a b, L, G, env, o, h, hz, hd => by
    simp only [chkTr, Bool.and_eq_true] at h
    simp only [Tr.den] at hd
    cases ha : a.den Φ k env with
    | none => rw [ha] at hd; cases hd
    | some q =>
      rw [ha] at hd
      obtain ⟨e', vs⟩ := q
      have := (chkTr_ok hF h.1 hz ha).cons
      cases e' with
      | zero =>
        rcases this with ⟨_, g⟩ | ⟨g, _⟩
        · exact chkTr_ok hF h.2 (okZ_app hz g) hd
        · exact absurd rfl g
      | succ e' =>
        rcases this with ⟨g, _⟩ | ⟨_, g⟩
        · cases g
        · simp only at hd
          rcases g.cons with ⟨g1, g2⟩ | ⟨g1, g2⟩
          · simp only at g1
            rw [g1] at hd
            simp only [Nat.beq_refl, if_true] at hd
            exact chkTr_ok hF h.2 (okZ_app hz g2) hd
          · split at hd
            · rename_i hb
              exact absurd (Nat.eq_of_beq_eq_true hb) g1
            · cases hd
              exact g2
  | .both a t f, L, G, env, o, h, hz, hd => by
    simp only [chkTr, Bool.and_eq_true] at h
    simp only [Tr.den] at hd
    split at hd
    · exact chkTr_ok hF h.2 hz (agree_some hd).2
    · exact chkTr_ok hF h.2 hz hd
end
/-! ### what is handed back -/
mutual
def SV.nl : SV → Bool
  | .lz _ _ => false
  | .pfz l _ _ _ _ => !l
  | .agg xs => SV.nls xs
  | .tup xs => SV.nls xs
  | .fn _ xs => SV.nls xs
  | .any => true
  | .dat _ _ => true
  | .K _ => true
  | .nilS => true
  | .e0 => true
  | .ifc _ => true
  | .ptr _ _ => true
  | .ptrE _ _ _ _ => true
  | .sl _ _ _ _ => true
def SV.nls : List SV → Bool
  | [] => true
  | x :: xs => SV.nl x && SV.nls xs
end
mutual
theorem SV.nl_ok {env : List D} : ∀ {x : SV}, x.nl = true → (x.den env).nl = true
  | .lz _ _, h => by cases h
  | .pfz l e a ix o, h => by
    simp only [SV.nl] at h
    simp only [SV.den, AV.nl, h, Bool.true_and]
    exact nls_iff.2 (fun y hy => nls_iff.1 (encR_nl _ _) y (List.mem_of_mem_drop hy))
  | .agg xs, h => SV.nls_ok (xs := xs) h
  | .tup xs, h => SV.nls_ok (xs := xs) h
  | .fn _ xs, h => SV.nls_ok (xs := xs) h
  | .any, _ => rfl
  | .dat k a, _ => encC_nl _ _
  | .K _, _ => rfl
  | .nilS, _ => rfl
  | .e0, _ => rfl
  | .ifc a, _ => by
    simp only [SV.den]
    unfold ifcA
    split <;> rfl
  | .ptr _ _, _ => rfl
  | .ptrE _ _ _ _, _ => rfl
  | .sl _ _ _ _, _ => rfl
theorem SV.nls_ok {env : List D} : ∀ {xs : List SV}, SV.nls xs = true → AV.nls (SV.dens env xs) = true
  | [], _ => rfl
  | x :: xs, h => by
    simp only [SV.nls, Bool.and_eq_true] at h
    simp only [SV.dens, AV.nls, Bool.and_eq_true]
    exact ⟨SV.nl_ok h.1, SV.nls_ok h.2⟩
end
def nlH : List (Nat × SB) → Bool
  | [] => true
  | (_, .cells xs) :: r => SV.nls xs && nlH r
  | (_, .arr _ _ _) :: r => nlH r
theorem nlH_ok {env : List D} : ∀ {H : List (Nat × SB)}, nlH H = true → ∀ i cs, hget (denH env H) i = some cs → AV.nls cs = true
  | [], _, i, cs, h => by cases h
  | (q, .cells xs) :: r, hn, i, cs, h => by
    simp only [nlH, Bool.and_eq_true] at hn
    simp only [denH, hget] at h
    split at h
    · cases h; exact SV.nls_ok hn.1
    · exact nlH_ok hn.2 i cs h
  | (q, .arr e a n) :: r, hn, i, cs, h => by
    simp only [nlH] at hn
    simp only [denH, hget] at h
    split at h
    · cases h; exact encR_nl _ _
    · exact nlH_ok hn i cs h
def resOk (tab : TyTab) (T : List (Nat × SV)) (H : List (Nat × SB)) : List ResultVar → List SV → Bool
  | [], [] => true
  | .tmp t :: r, v :: vs => SV.beq (tkS T t) v && resOk tab T H r vs
  | .cell a t :: r, v :: vs => (match tyGet tab t, tkS T a with
    | some ty, .ptr i k => (match hgetS H i with
      | some (.cells xs) => if ty.agg = true then !Nat.beq ty.size 0 && Nat.ble (k + ty.size) xs.length && SV.beq (.agg ((xs.drop k).take ty.size)) v else (match xs[k]? with
        | some x => SV.beq x v
        | none => false)
      | _ => false)
    | _, _ => false) && resOk tab T H r vs
  | _, _ => false
theorem resOk_ok {P : Program} {tab : TyTab} (htab : TabOk P tab) {env : List D} {T : List (Nat × SV)} {H : List (Nat × SB)} {nx : Nat} : ∀ {rs : List ResultVar} {vs : List SV}, resOk tab T H rs vs = true → RVs P ⟨denT env T, denH env H, nx⟩ rs (SV.dens env vs)
  | [], [], _ => .nil
  | [], _ :: _, h => by simp [resOk] at h
  | .tmp t :: r, [], h => by simp [resOk] at h
  | .cell a t :: r, [], h => by simp [resOk] at h
  | .tmp t :: r, v :: vs, h => by
    simp only [resOk, Bool.and_eq_true] at h
    refine .cons (.tmp t ?_) (resOk_ok htab h.2)
    rw [← SV.beq_eq h.1]
    exact tk_denT _ _ _
  | .cell a t :: r, v :: vs, h => by
    simp only [resOk, Bool.and_eq_true] at h
    refine .cons ?_ (resOk_ok htab h.2)
    have h1 := h.1
    split at h1
    · rename_i ty i k hty hp
      obtain ⟨d, info, z, t1, t2, t3, t4, t5, t6, t7⟩ := tyGet_ok htab hty
      have hpd : tk (denT env T) a = .ptr i k := by rw [tk_denT, hp]; rfl
      split at h1
      · rename_i xs hh
        have hg : hget (denH env H) i = some (SV.dens env xs) := by rw [hget_denH, hh]; rfl
        split at h1
        · rename_i ha
          simp only [Bool.and_eq_true, Bool.not_eq_true'] at h1
          rw [← SV.beq_eq h1.2]
          rw [t6] at ha
          have hsz := Nat.le_of_ble_eq_true h1.1.2
          rw [t4] at hsz
          refine .cellN (info := info) (k := k) t1 ha t2 (fun g => ?_) hpd hg (by rw [dens_map, List.length_map]; exact hsz) ?_
          · rw [t4, g] at h1
            simp at h1
          · rw [t4, dens_map, dens_map, List.map_take, List.map_drop]
        · rename_i ha
          rw [t6] at ha
          split at h1
          · rename_i x hx
            rw [← SV.beq_eq h1]
            exact .cell1 t1 (by simpa using ha) hpd hg (by rw [dens_map, List.getElem?_map, hx]; rfl)
          · cases h1
      · cases h1
    · cases h1
/-! ### a function -/
def argTS : Nat → List SV → List (Nat × SV)
  | _, [] => []
  | n, x :: xs => (n, x) :: argTS (n + 1) xs
theorem argTS_den {env : List D} : ∀ (n : Nat) (xs : List SV), denT env (argTS n xs) = argT n (SV.dens env xs)
  | _, [] => rfl
  | n, x :: xs => by simp only [argTS, denT, SV.dens, argT, argTS_den (n + 1) xs]
/-- A function of the table: its sign; hints; what its result variables need; its tree (or: what it is taken to do). -/
structure Fe where
  sig : Sig
  hs : Hn
  rT : List (Nat × SV)
  tr : Option Tr
  prim : List D → Option (List D)
def sigsOf (fes : List Fe) : List Sig := fes.map (·.sig)
def kindsOf (fes : List Fe) : Kinds := fun i => match (sigsOf fes)[i]? with
  | some s => some (s.ps, s.rs)
  | none => none
def Fe.ret (fe : Fe) : Shp := ⟨fe.sig.rs, fe.rT, fe.sig.H', fe.sig.nx'⟩
def Fe.G (fe : Fe) : List CK := fe.sig.ps ++ tysOf (lenNds fe.sig.H)
/-- The function's tree, by its text. -/
def Fe.tree (tab : TyTab) (sigs : List Sig) (S : Kinds) (n : Nat) (c : Code) (fe : Fe) : Option Tr :=
  sx ⟨tab, sigs, winH fe.hs⟩ S n fe.sig.H.length fe.hs c 1 ⟨argTS 0 fe.sig.args, fe.sig.H, fe.sig.H.length⟩ fe.G [(1, fe.sig.ps, fe.ret)] (leaf fe.sig.H.length 1 fe.sig.ps fe.ret)
def Fe.ok (P : Program) (tab : TyTab) (sigs : List Sig) (S : Kinds) (fe : Fe) : Bool :=
  match P.funcs[fe.sig.fid]?, fe.tr with
  | some fn, some t => (match fn.body with
    | some c => fn.name != "runtime.NumGoroutine" && Nat.ble fe.sig.args.length fn.ntmps && resOk tab fe.rT fe.sig.H' fn.results.toList fe.sig.res && SV.nls fe.sig.res && nlH fe.sig.H' && arrsOk fe.sig.ps fe.sig.H && lensIx fe.sig.ps.length fe.sig.H && chkTr S [(1, fe.sig.rs)] fe.G t && (match fe.tree tab sigs S fn.ntmps c with
      | some t' => Tr.beq t' t
      | none => false)
    | none => false)
  | _, _ => false
def outF : Option (Nat × List D) → Option (List D)
  | some (1, vs) => some vs
  | _ => none
/-- What the table computes. -/
noncomputable def semF (fes : List Fe) : Nat → Fns
  | 0 => fun _ _ => none
  | k + 1 => fun i vs => match fes[i]? with
    | some fe => (match fe.tr with
      | some t => outF (t.den (semF fes k) k (envA fe.sig vs))
      | none => fe.prim vs)
    | none => none
section
variable {P : Program} {tab : TyTab}
theorem Fe.sigOk {fe : Fe} {sigs : List Sig} {S : Kinds} {Φ : Fns} {k i : Nat} {t : Tr} (hm : P.follows .mixedOrders = true) (htab : TabOk P tab) (hS : ∀ (j : Nat) (s : Sig), sigs[j]? = some s → SigOk P Φ j s) (hF : FnsOk S Φ) (h : fe.ok P tab sigs S = true) (ht : fe.tr = some t) {Ψ : Fns} (hΨ : ∀ vs, Ψ i vs = outF (t.den Φ k (envA fe.sig vs))) : SigOk P Ψ i fe.sig := by
  unfold Fe.ok at h
  split at h
  · rename_i fn t' hfn ht'
    rw [ht] at ht'
    cases ht'
    split at h
    · rename_i c hc
      simp only [Bool.and_eq_true] at h
      obtain ⟨⟨⟨⟨⟨⟨⟨⟨h1, h2⟩, h3⟩, h4⟩, h5⟩, h6⟩, h7⟩, h8⟩, h9⟩ := h
      refine ⟨?_, fun vs rsv hv hr => ?_⟩
      · simp only [knownB, hfn, hc, h1, Option.isSome_some, Bool.and_self]
      split at h9
      · rename_i t'' ht''
        obtain rfl := Tr.beq_eq h9
        rw [hΨ] at hr
        generalize hd : t''.den Φ k (envA fe.sig vs) = o at hr
        unfold outF at hr
        split at hr
        · rename_i ws
          cases hr
          have hzl : okZ (tysOf (lenNds fe.sig.H)) (lensOf vs fe.sig.H) = true := by
            have key : ∀ H : List (Nat × SB), okZ (tysOf (lenNds H)) (lensOf vs H) = true := by
              intro H
              induction H with
              | nil => rfl
              | cons b r ih =>
                obtain ⟨q, b⟩ := b
                cases b with
                | cells xs => exact ih
                | arr e a n =>
                  simp only [lenNds, tysOf, Nd.tys, lensOf, List.cons_append, List.nil_append, okZ, Bool.and_eq_true]
                  exact ⟨rfl, ih⟩
            exact key _
          have hz : okZ fe.G (envA fe.sig vs) = true := okZ_app hv hzl
          obtain ⟨ks, hk1, hk2⟩ := chkTr_ok hF h8 hz hd
          simp only [ksAt, Nat.beq_refl, if_true] at hk1
          cases hk1
          refine ⟨hk2, ?_⟩
          have hi : SInv (envA fe.sig vs) ⟨argTS 0 fe.sig.args, fe.sig.H, fe.sig.H.length⟩ := by
            intro j e a n hh
            have e1 := lensIx_ok (e1 := vs) (l := envA fe.sig vs) h7 (fun k d hd => by
              simp only [At.den, envA]
              rw [okZ_len hv, List.getElem?_append_right (by omega), Nat.add_sub_cancel_left, hd]
              rfl) j e a n hh
            rw [e1, envA, tyA_ext hv (arrsOk_get h6 j e a n hh)]
          have htake : (envA fe.sig vs).take fe.sig.ps.length = vs := by rw [envA, okZ_len hv, List.take_left]
          have hx : XOk [(1, fe.sig.ps, fe.ret)] (envA fe.sig vs) := fun q G0 sh he => by
            simp only [entOf] at he
            split at he
            · cases he
              rw [htake]; exact hv
            · cases he
          refine FT.of_body hfn hc (by rw [dens_map, List.length_map]; exact Nat.le_of_ble_eq_true h2) (fun μ w g => ?_)
          let E : En := ⟨μ, w, mayH μ (denH (envA fe.sig vs) fe.sig.H), fn.ntmps, fe.sig.H.length, g⟩
          have key := sx_ok (P := P) (E := E) (C := ⟨tab, sigs, winH fe.hs⟩) (Φ := Φ) (S := S) (k := k) (N := fun τ => ∃ τ', GS E τ τ' ∧ τ' = shSt fe.ret vs rsv) rfl rfl hm htab hS hF ht'' hz hi hx hd (fun σ' G' t' env' e1 h' hz' hi' hd' => by
            have htk : env'.take fe.sig.ps.length = vs := by rw [take_ext (by rw [htake]; exact hv) e1, htake]
            obtain ⟨g1, g2, g3, g4⟩ := leaf_ok (E := E) rfl h' (by rw [htk]; exact hv) hz' hi' hd'
            rw [htk] at g4
            exact ⟨_, g4, rfl⟩)
          simp only [SS.den, argTS_den] at key
          have fin : ∀ e : Exit, (e = .ret ∨ e = .normal) → RQ P fn.results.toList (fun r H' nx => r = oneOf (SV.dens (envR fe.sig vs rsv) fe.sig.res) ∧ H' = denH (envR fe.sig vs rsv) fe.sig.H' ∧ nx = fe.sig.nx') e (shSt fe.ret vs rsv) := fun e he =>
            ⟨he, nlH_ok h5, _, resOk_ok htab h3, SV.nls_ok h4, rfl, rfl, rfl⟩
          refine CT.gsQ (key.mono (fun e τ q => ?_))
          cases e with
          | normal =>
            obtain ⟨τ', q1, rfl⟩ := q
            exact ⟨_, .inr q1, fin _ (.inr rfl)⟩
          | ret =>
            obtain ⟨n, q1, q2, G0, sh, q3, q4, q5, q6⟩ := q
            cases q1
            simp only [entOf, Nat.beq_refl, if_true] at q3
            cases q3
            rw [htake] at q6
            exact ⟨_, .inl rfl, by rw [q6]; exact fin _ (.inl rfl)⟩
          | exit j =>
            obtain ⟨n, q1, q2, _⟩ := q
            cases q1
            simp only at q2
            omega
          | _ =>
            obtain ⟨n, q1, _⟩ := q
            cases q1
        · cases hr
      · cases h9
    · cases h
  · cases h
def Fe.known (P : Program) (fe : Fe) : Prop := knownB P fe.sig.fid = true
theorem known_of_ok {fe : Fe} {sigs : List Sig} {S : Kinds} (h : fe.ok P tab sigs S = true) : knownB P fe.sig.fid = true := by
  unfold Fe.ok at h
  split at h
  · rename_i fn t' hfn ht'
    split at h
    · rename_i c hc
      simp only [Bool.and_eq_true] at h
      simp only [knownB, hfn, hc, h.1.1.1.1.1.1.1.1, Option.isSome_some, Bool.and_self]
    · cases h
  · cases h
/-- A table whose functions do as they say. -/
def FeOk (P : Program) (tab : TyTab) (fes : List Fe) (i : Nat) (fe : Fe) : Prop :=
  match fe.tr with
  | some _ => fe.ok P tab (sigsOf fes) (kindsOf fes) = true
  | none => SigOk P (fun _ vs => fe.prim vs) i fe.sig
theorem table_ok {fes : List Fe} (hm : P.follows .mixedOrders = true) (htab : TabOk P tab) (h : ∀ (i : Nat) (fe : Fe), fes[i]? = some fe → FeOk P tab fes i fe) : ∀ (k i : Nat) (s : Sig), (sigsOf fes)[i]? = some s → SigOk P (semF fes k) i s := by
  intro k
  induction k with
  | zero =>
    intro i s hs
    simp only [sigsOf, List.getElem?_map] at hs
    obtain ⟨fe, h1, rfl⟩ := Option.map_eq_some_iff.1 hs
    refine ⟨?_, fun vs rsv hv hr => by cases hr⟩
    have := h i fe h1
    unfold FeOk at this
    split at this
    · exact known_of_ok this
    · exact this.1
  | succ k ih =>
    intro i s hs
    simp only [sigsOf, List.getElem?_map] at hs
    obtain ⟨fe, h1, rfl⟩ := Option.map_eq_some_iff.1 hs
    have hF : FnsOk (kindsOf fes) (semF fes k) := fun f ps rs hf vs ws hv hw => by
      unfold kindsOf at hf
      split at hf
      · rename_i s' hs'
        cases hf
        exact ((ih f s' hs').2 vs ws hv hw).1
      · cases hf
    have hi := h i fe h1
    unfold FeOk at hi
    split at hi
    · rename_i t ht
      exact Fe.sigOk hm htab ih hF hi ht (k := k) (fun vs => by simp only [semF, h1, ht])
    · rename_i ht
      refine ⟨hi.1, fun vs rsv hv hr => hi.2 vs rsv hv ?_⟩
      simp only [semF, h1, ht] at hr
      exact hr
/-! ### reckoning with trees -/
/-- The tree leaves with o, whatever bound is large enough. -/
def Ev (fes : List Fe) (t : Tr) (env : List D) (o : Nat × List D) : Prop := ∃ k0, ∀ k, k0 ≤ k → t.den (semF fes k) k env = some o
/-- The function gives ws. -/
def EvF (fes : List Fe) (i : Nat) (vs ws : List D) : Prop := ∃ k0, ∀ k, k0 ≤ k → semF fes k i vs = some ws
def EvI (fes : List Fe) (b : Tr) (env vs : List D) (o : Nat × List D) : Prop := ∃ k0, ∀ k, k0 ≤ k → ∀ j, k0 ≤ j → iter (fun vs => b.den (semF fes k) k (env ++ vs)) j vs = some o
variable {fes : List Fe} {env : List D} {o : Nat × List D}
theorem EvF.mk {i : Nat} {fe : Fe} {t : Tr} {vs ws : List D} (h1 : fes[i]? = some fe) (h2 : fe.tr = some t) (h : Ev fes t (envA fe.sig vs) (1, ws)) : EvF fes i vs ws := by
  obtain ⟨k0, h⟩ := h
  refine ⟨k0 + 1, fun k hk => ?_⟩
  cases k with
  | zero => omega
  | succ k =>
    simp only [semF, h1, h2]
    rw [h k (by omega)]
    rfl
theorem EvF.prim {i : Nat} {fe : Fe} {vs ws : List D} (h1 : fes[i]? = some fe) (h2 : fe.tr = none) (h : fe.prim vs = some ws) : EvF fes i vs ws := by
  refine ⟨1, fun k hk => ?_⟩
  cases k with
  | zero => omega
  | succ k =>
    simp only [semF, h1, h2]
    exact h
theorem EvF.get (hm : P.follows .mixedOrders = true) (htab : TabOk P tab) (h : ∀ (i : Nat) (fe : Fe), fes[i]? = some fe → FeOk P tab fes i fe) {i : Nat} {fe : Fe} {vs ws : List D} (h1 : fes[i]? = some fe) (hv : okZ fe.sig.ps vs = true) (he : EvF fes i vs ws) : okZ fe.sig.rs ws = true ∧
    FT P fe.sig.fid (SV.dens (envA fe.sig vs) fe.sig.args) (denH (envA fe.sig vs) fe.sig.H) fe.sig.H.length (fun r H' nx => r = oneOf (SV.dens (envR fe.sig vs ws) fe.sig.res) ∧ H' = denH (envR fe.sig vs ws) fe.sig.H' ∧ nx = fe.sig.nx') := by
  obtain ⟨k0, he⟩ := he
  exact (table_ok hm htab h k0 i fe.sig (by simp [sigsOf, h1])).2 vs ws hv (he k0 (Nat.le_refl _))
theorem Ev.out {e : Nat} {xs : List At} {vs : List D} (h : xs.map (At.den env) = vs) : Ev fes (.out e xs) env (e, vs) := ⟨0, fun k _ => by rw [Tr.den, h]⟩
theorem Ev.pr {p : Pr} {xs : List At} {t : Tr} {d : D} (h : p.eval (xs.map (At.den env)) = some d) (k : Ev fes t (env ++ [d]) o) : Ev fes (.nd (.pr p xs) t) env o := by
  obtain ⟨k0, k⟩ := k
  exact ⟨k0, fun n hn => by simp only [Tr.den, runNd, h]; exact k n hn⟩
theorem Ev.call {f : Nat} {xs : List At} {ps tys : List CK} {t : Tr} {ds : List D} (h : EvF fes f (xs.map (At.den env)) ds) (k : Ev fes t (env ++ ds) o) : Ev fes (.nd (.call f xs ps tys) t) env o := by
  obtain ⟨k0, k⟩ := k
  obtain ⟨k1, h⟩ := h
  exact ⟨k0 + k1, fun n hn => by simp only [Tr.den, runNd, h n (by omega)]; exact k n (by omega)⟩
theorem Ev.iteT {a : At} {t f : Tr} (h : a.den env = .b true) (k : Ev fes t env o) : Ev fes (.ite a t f) env o := by
  obtain ⟨k0, k⟩ := k
  exact ⟨k0, fun n hn => by simp only [Tr.den, h]; exact k n hn⟩
theorem Ev.iteF {a : At} {t f : Tr} (h : a.den env = .b false) (k : Ev fes f env o) : Ev fes (.ite a t f) env o := by
  obtain ⟨k0, k⟩ := k
  exact ⟨k0, fun n hn => by simp only [Tr.den, h]; exact k n hn⟩
theorem Ev.ite {a : At} {t f : Tr} {c : Bool} (h : a.den env = .b c) (k : c = true → Ev fes t env o) (l : c = false → Ev fes f env o) : Ev fes (.ite a t f) env o := by
  cases c with
  | true => exact .iteT h (k rfl)
  | false => exact .iteF h (l rfl)
theorem Ev.both {a : At} {t f : Tr} (h : (a.den env).isE = true) (k : Ev fes t env o) (l : Ev fes f env o) : Ev fes (.both a t f) env o := by
  obtain ⟨k0, k⟩ := k
  obtain ⟨k1, l⟩ := l
  exact ⟨k0 + k1, fun n hn => by simp only [Tr.den, h, if_true, k n (by omega), l n (by omega), agree_self]⟩
theorem Ev.bothF {a : At} {t f : Tr} (h : (a.den env).isE = false) (l : Ev fes f env o) : Ev fes (.both a t f) env o := by
  obtain ⟨k1, l⟩ := l
  exact ⟨k1, fun n hn => by simp only [Tr.den, h, Bool.false_eq_true, if_false]; exact l n hn⟩
theorem Ev.seq {ps : List CK} {a b : Tr} {vs : List D} (h : Ev fes a env (0, vs)) (k : Ev fes b (env ++ vs) o) : Ev fes (.seq ps a b) env o := by
  obtain ⟨k0, k⟩ := k
  obtain ⟨k1, h⟩ := h
  exact ⟨k0 + k1, fun n hn => by simp only [Tr.den, h n (by omega)]; exact k n (by omega)⟩
theorem Ev.seqX {ps : List CK} {a b : Tr} {e : Nat} {vs : List D} (h : Ev fes a env (e + 1, vs)) : Ev fes (.seq ps a b) env (e + 1, vs) := by
  obtain ⟨k1, h⟩ := h
  exact ⟨k1, fun n hn => by simp only [Tr.den, h n (by omega)]⟩
theorem Ev.blk {e : Nat} {ps : List CK} {a b : Tr} {vs : List D} (h : Ev fes a env (0, vs)) (k : Ev fes b (env ++ vs) o) : Ev fes (.blk e ps a b) env o := by
  obtain ⟨k0, k⟩ := k
  obtain ⟨k1, h⟩ := h
  exact ⟨k0 + k1, fun n hn => by simp only [Tr.den, h n (by omega)]; exact k n (by omega)⟩
theorem Ev.blkE {e : Nat} {ps : List CK} {a b : Tr} {vs : List D} (h : Ev fes a env (e + 1, vs)) (k : Ev fes b (env ++ vs) o) : Ev fes (.blk (e + 1) ps a b) env o := by
  obtain ⟨k0, k⟩ := k
  obtain ⟨k1, h⟩ := h
  exact ⟨k0 + k1, fun n hn => by simp only [Tr.den, h n (by omega), Nat.beq_refl, if_true]; exact k n (by omega)⟩
theorem Ev.blkX {e e' : Nat} {ps : List CK} {a b : Tr} {vs : List D} (h : Ev fes a env (e' + 1, vs)) (hne : Nat.beq (e' + 1) e = false) : Ev fes (.blk e ps a b) env (e' + 1, vs) := by
  obtain ⟨k1, h⟩ := h
  exact ⟨k1, fun n hn => by simp only [Tr.den, h n (by omega), hne]; rfl⟩
theorem Ev.loop {ps : List CK} {xs : List At} {b : Tr} {vs : List D} (hv : xs.map (At.den env) = vs) (h : EvI fes b env vs o) : Ev fes (.loop ps xs b) env o := by
  obtain ⟨k0, h⟩ := h
  exact ⟨k0, fun n hn => by simp only [Tr.den, hv]; exact h n hn n hn⟩
theorem EvI.go {b : Tr} {vs ws : List D} (h : Ev fes b (env ++ vs) (0, ws)) (k : EvI fes b env ws o) : EvI fes b env vs o := by
  obtain ⟨k0, k⟩ := k
  obtain ⟨k1, h⟩ := h
  refine ⟨k0 + k1 + 1, fun n hn j hj => ?_⟩
  cases j with
  | zero => omega
  | succ j =>
    simp only [iter, h n (by omega)]
    exact k n (by omega) j (by omega)
theorem EvI.end {b : Tr} {vs ws : List D} {e : Nat} (h : Ev fes b (env ++ vs) (e + 1, ws)) : EvI fes b env vs (e + 1, ws) := by
  obtain ⟨k1, h⟩ := h
  refine ⟨k1 + 1, fun n hn j hj => ?_⟩
  cases j with
  | zero => omega
  | succ j => simp only [iter, h n (by omega)]
end
end Go.BH
