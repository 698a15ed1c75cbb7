/- What the functions behind FnExactFactText compute, as trees; that they do is checked by the kernel. Printed by bench/Bench.lean. -/
import Derived.Test.YtdjfhggmcigahaaDoorB33
import Derived.Test.YtdjfhggmcigahaaDoorPR
import Derived.Test.YtdjfhggmcigahaaDoorProg
set_option maxRecDepth 100000
set_option linter.unusedVariables false
namespace Go.Proofs.YtdjfhggmcigahaaDoor.FText
open Go.BH
def tab : TyTab := [(3, ⟨1, 8, false, (.int .i64), [(.int .i64 (0))], [ki64], false⟩),
 (5, ⟨1, 1, false, (.int .u8), [(.int .u8 (0))], [ku8], false⟩),
 (9, ⟨1, 16, false, .str, [(.string ⟨#[]⟩)], [ks], false⟩),
 (23, ⟨5, 40, true, (.struct [(3, 0), (3, 1), (3, 2), (3, 3), (3, 4)]), [(.int .i64 (0)), (.int .i64 (0)), (.int .i64 (0)), (.int .i64 (0)), (.int .i64 (0))], [ki64, ki64, ki64, ki64, ki64], true⟩),
 (25, ⟨5, 40, true, (.struct [(3, 0), (3, 1), (3, 2), (3, 3), (3, 4)]), [(.int .i64 (0)), (.int .i64 (0)), (.int .i64 (0)), (.int .i64 (0)), (.int .i64 (0))], [ki64, ki64, ki64, ki64, ki64], true⟩),
 (28, ⟨1, 24, false, (.slice 3), [(.slice none 0 0)], [(.sl [ki64])], false⟩),
 (45, ⟨1, 24, false, (.slice 5), [(.slice none 0 0)], [(.sl [ku8])], false⟩),
 (52, ⟨1, 24, false, (.slice 9), [(.slice none 0 0)], [(.sl [ks])], false⟩),
 (55, ⟨5, 80, true, (.array 5 9), [(.string ⟨#[]⟩), (.string ⟨#[]⟩), (.string ⟨#[]⟩), (.string ⟨#[]⟩), (.string ⟨#[]⟩)], [ks, ks, ks, ks, ks], false⟩)]
/-- loop.example/g00709/laws.toFact -/
def t0 : Tr :=
(.out 1 [])
def e0 : Fe := ⟨⟨8, [ki64, ki64, ki64, ki64, ki64], [(.agg [(.dat ki64 (.v 0)), (.dat ki64 (.v 1)), (.dat ki64 (.v 2)), (.dat ki64 (.v 3)), (.dat ki64 (.v 4))])], [], [], [(.agg [(.dat ki64 (.v 0)), (.dat ki64 (.v 1)), (.dat ki64 (.v 2)), (.dat ki64 (.v 3)), (.dat ki64 (.v 4))])], [(0, (.cells [(.dat ki64 (.v 0)), (.dat ki64 (.v 1)), (.dat ki64 (.v 2)), (.dat ki64 (.v 3)), (.dat ki64 (.v 4))]))], 1⟩,
 ⟨[], []⟩,
 [(2, (.ptr 0 0))], some t0, fun _ => none⟩
/-- loop.example/g00709/spec.l15Num -/
def t1 : Tr :=
(.nd (.pr (.cmp .eql .i64) [(.v 0), (.k (.i 0))])
(.ite (.v 1)
 (.out 1 [(.k (.s ⟨#[48]⟩))])
 (.blk 2 [(.sl [ku8])]
  (.loop [ki64, (.sl [ku8])] [(.v 0), (.k (.l []))]
   (.nd (.pr (.len [ku8]) [(.v 3)])
   (.nd (.pr (.cmp .neq .i64) [(.v 2), (.k (.i 0))])
   (.ite (.v 5)
    (.blk 3 [(.sl [ku8])]
     (.nd (.pr (.bin .rem .i64) [(.v 2), (.k (.i 10))])
     (.seq [ki64]
      (.nd (.pr (.cmp .lss .i64) [(.v 6), (.k (.i 0))])
      (.ite (.v 7)
       (.nd (.pr (.neg .i64) [(.v 6)])
       (.out 0 [(.v 8)]))
       (.out 0 [(.v 6)])))
     (.nd (.pr (.len [ku8]) [(.v 3)])
     (.nd (.pr (.bin .add .i64) [(.k (.i 48)), (.v 7)])
     (.nd (.pr (.conv .i64 .u8) [(.v 9)])
     (.nd (.pr (.mk [ku8] 1) [(.v 10)])
     (.nd (.pr (.app [ku8] 1) [(.v 11), (.v 3)])
     (.nd (.pr (.len [ku8]) [(.v 12)])
     (.out 0 [(.v 12)])))))))))
    (.nd (.pr (.len [ku8]) [(.v 6)])
    (.nd (.pr (.bin .quo .i64) [(.v 2), (.k (.i 10))])
    (.out 0 [(.v 8), (.v 6)]))))
    (.out 2 [(.v 3)])))))
 (.nd (.pr (.len [ku8]) [(.v 2)])
 (.seq [(.sl [ku8])]
  (.nd (.pr (.cmp .lss .i64) [(.v 0), (.k (.i 0))])
  (.ite (.v 4)
   (.nd (.pr (.mk [ku8] 1) [(.k (.i 45))])
   (.nd (.pr (.app [ku8] 1) [(.v 5), (.v 2)])
   (.nd (.pr (.len [ku8]) [(.v 6)])
   (.out 0 [(.v 6)]))))
   (.out 0 [(.v 2)])))
 (.nd (.pr (.len [ku8]) [(.v 4)])
 (.nd (.pr .bstr [(.v 4)])
 (.out 1 [(.v 6)]))))))))
def e1 : Fe := ⟨⟨26, [ki64], [(.dat ki64 (.v 0))], [], [ks], [(.dat ks (.v 1))], [], 0⟩,
 ⟨[(31, ⟨[(.sl [ku8])], [(3, (.sl 0 (.k (.i 0)) (.v 5) 1))], [(0, (.arr [ku8] (.v 4) (.v 5)))], 1⟩), (61, ⟨[(.sl [ku8])], [(0, (.dat ki64 (.v 0))), (3, (.sl 0 (.k (.i 0)) (.v 3) 1))], [(0, (.arr [ku8] (.v 2) (.v 3)))], 1⟩), (122, ⟨[ki64, (.sl [ku8])], [(0, (.dat ki64 (.v 0))), (3, (.sl 0 (.k (.i 0)) (.v 4) 1)), (4, (.dat ki64 (.v 2)))], [(0, (.arr [ku8] (.v 3) (.v 4)))], 1⟩), (978, ⟨[(.sl [ku8])], [(0, (.dat ki64 (.v 0))), (3, (.sl 0 (.k (.i 0)) (.v 7) 1)), (4, (.dat ki64 (.v 2)))], [(0, (.arr [ku8] (.v 6) (.v 7)))], 1⟩), (3913, ⟨[ki64], [(0, (.dat ki64 (.v 0))), (3, (.sl 0 (.k (.i 0)) (.v 8) 1)), (4, (.dat ki64 (.v 2))), (5, (.dat ki64 (.v 7)))], [(0, (.arr [ku8] (.v 3) (.v 8)))], 1⟩)], []⟩,
 [(2, (.dat ks (.v 1)))], some t1, fun _ => none⟩
/-- loop.example/g00709/spec.FactText -/
def t2 : Tr :=
(.seq [ks]
 (.seq [kb]
  (.nd (.pr (.cmp .geq .i64) [(.v 0), (.k (.i 1))])
  (.ite (.v 5)
   (.nd (.pr (.cmp .leq .i64) [(.v 0), (.k (.i 4))])
   (.out 0 [(.v 6)]))
   (.out 0 [(.k (.b false))])))
 (.ite (.v 5)
  (.nd (.pr (.mk [ks] 4) [(.k (.s ⟨#[116, 97, 107, 101, 110]⟩)), (.k (.s ⟨#[103, 105, 118, 101, 110]⟩)), (.k (.s ⟨#[114, 101, 102, 117, 115, 101, 100]⟩)), (.k (.s ⟨#[119, 114, 111, 110, 103]⟩))])
  (.nd (.pr (.bin .sub .i64) [(.v 0), (.k (.i 1))])
  (.nd (.pr (.ixc .i64) [(.v 7), (.k (.i 4))])
  (.nd (.pr (.get [ks] 0) [(.v 6), (.v 8)])
  (.out 0 [(.v 9)])))))
  (.out 0 [(.k (.s ⟨#[110, 111, 110, 101]⟩))])))
(.nd (.pr .cat [(.v 5), (.k (.s ⟨#[32]⟩))])
(.nd (.call 1 [(.v 1)] [ki64] [ks])
(.nd (.pr .cat [(.v 6), (.v 7)])
(.nd (.pr .cat [(.v 8), (.k (.s ⟨#[32]⟩))])
(.nd (.call 1 [(.v 2)] [ki64] [ks])
(.nd (.pr .cat [(.v 9), (.v 10)])
(.nd (.pr .cat [(.v 11), (.k (.s ⟨#[32]⟩))])
(.nd (.call 1 [(.v 3)] [ki64] [ks])
(.nd (.pr .cat [(.v 12), (.v 13)])
(.nd (.pr .cat [(.v 14), (.k (.s ⟨#[32]⟩))])
(.nd (.call 1 [(.v 4)] [ki64] [ks])
(.nd (.pr .cat [(.v 15), (.v 16)])
(.out 1 [(.v 17)]))))))))))))))
def e2 : Fe := ⟨⟨7, [ki64, ki64, ki64, ki64, ki64], [(.agg [(.dat ki64 (.v 0)), (.dat ki64 (.v 1)), (.dat ki64 (.v 2)), (.dat ki64 (.v 3)), (.dat ki64 (.v 4))])], [], [ks], [(.dat ks (.v 5))], [], 0⟩,
 ⟨[(7, ⟨[ks], [(1, (.ptr 0 0)), (3, (.dat ks (.v 5)))], [(0, (.cells [(.dat ki64 (.v 0)), (.dat ki64 (.v 1)), (.dat ki64 (.v 2)), (.dat ki64 (.v 3)), (.dat ki64 (.v 4))]))], 1⟩), (14, ⟨[kb], [(1, (.ptr 0 0)), (3, (.dat ks (.k (.s ⟨#[110, 111, 110, 101]⟩)))), (11, (.dat kb (.v 5)))], [(0, (.cells [(.dat ki64 (.v 0)), (.dat ki64 (.v 1)), (.dat ki64 (.v 2)), (.dat ki64 (.v 3)), (.dat ki64 (.v 4))]))], 1⟩)], []⟩,
 [(2, (.dat ks (.v 5)))], some t2, fun _ => none⟩
/-- loop.example/g00709/impl.FactText -/
def t3 : Tr := .out 0 []
def e3 : Fe := ⟨⟨9, [ki64, ki64, ki64, ki64, ki64], [(.agg [(.dat ki64 (.v 0)), (.dat ki64 (.v 1)), (.dat ki64 (.v 2)), (.dat ki64 (.v 3)), (.dat ki64 (.v 4))])], [], [ks], [(.dat ks (.v 5))], [], 0⟩,
 ⟨[], []⟩,
 [], none, prim9⟩
/-- loop.example/g00709/laws.FnExactFactText -/
def t4 : Tr :=
(.nd (.call 0 [(.v 0), (.v 1), (.v 2), (.v 3), (.v 4)] [ki64, ki64, ki64, ki64, ki64] [])
(.nd (.call 2 [(.v 0), (.v 1), (.v 2), (.v 3), (.v 4)] [ki64, ki64, ki64, ki64, ki64] [ks])
(.nd (.call 0 [(.v 0), (.v 1), (.v 2), (.v 3), (.v 4)] [ki64, ki64, ki64, ki64, ki64] [])
(.nd (.call 3 [(.v 0), (.v 1), (.v 2), (.v 3), (.v 4)] [ki64, ki64, ki64, ki64, ki64] [ks])
(.nd (.pr (.cmpS .neq) [(.v 6), (.v 5)])
(.ite (.v 7)
 (.out 1 [(.k (.b false))])
 (.out 1 [(.k (.b true))])))))))
def e4 : Fe := ⟨⟨3, [ki64, ki64, ki64, ki64, ki64], [(.agg [(.dat ki64 (.v 0)), (.dat ki64 (.v 1)), (.dat ki64 (.v 2)), (.dat ki64 (.v 3)), (.dat ki64 (.v 4))])], [], [kb], [(.dat kb (.v 5))], [], 0⟩,
 ⟨[], []⟩,
 [(2, (.dat kb (.v 5)))], some t4, fun _ => none⟩
def fes : List Fe := [e0, e1, e2, e3, e4]
theorem tabOk : TabOk Tryd.prog tab := tabB_ok (by kernel_rfl)
theorem ok0 : e0.ok Tryd.prog tab (sigsOf fes) (kindsOf fes) = true := by kernel_rfl
theorem ok1 : e1.ok Tryd.prog tab (sigsOf fes) (kindsOf fes) = true := by kernel_rfl
theorem ok2 : e2.ok Tryd.prog tab (sigsOf fes) (kindsOf fes) = true := by kernel_rfl
theorem ok3 : FeOk Tryd.prog tab fes 3 e3 := prim9_ok 3
theorem ok4 : e4.ok Tryd.prog tab (sigsOf fes) (kindsOf fes) = true := by kernel_rfl
theorem fesOk : FeL Tryd.prog tab fes 0 fes := ⟨ok0, ok1, ok2, ok3, ok4, trivial⟩
end Go.Proofs.YtdjfhggmcigahaaDoor.FText
