/- What the functions behind FnSema compute, as trees; that they do is checked by the kernel. Printed by bench/Bench.lean. -/
import Derived.Test.YtbacblphkppigaaB33
import Derived.Test.YtbacblphkppigaaProg
set_option maxRecDepth 100000
set_option linter.unusedVariables false
namespace Go.Proofs.Ytbacblphkppigaa.Sema
open Go.BH
def tab : TyTab := [(3, ⟨1, 8, false, (.int .i64), [(.int .i64 (0))], [ki64], false⟩),
 (4, ⟨1, 1, false, .bool, [(.bool false)], [kb], false⟩),
 (5, ⟨1, 1, false, (.int .u8), [(.int .u8 (0))], [ku8], false⟩),
 (22, ⟨1, 24, false, (.slice 5), [(.slice none 0 0)], [(.sl [ku8])], false⟩),
 (26, ⟨3, 24, true, (.struct [(3, 0), (3, 1), (3, 2)]), [(.int .i64 (0)), (.int .i64 (0)), (.int .i64 (0))], [ki64, ki64, ki64], true⟩),
 (27, ⟨1, 24, false, (.slice 3), [(.slice none 0 0)], [(.sl [ki64])], false⟩)]
/-- loop.example/g00709/laws.big -/
def t0 : Tr :=
(.nd (.pr (.len [ku8]) [(.v 0)])
(.nd (.pr (.cmp .gtr .i64) [(.v 1), (.k (.i 1048576))])
(.out 1 [(.v 2)])))
def e0 : Fe := ⟨⟨13, [(.sl [ku8])], [(.dat (.sl [ku8]) (.v 0))], [], [kb], [(.dat kb (.v 1))], [], 0⟩,
 ⟨[], []⟩,
 [(2, (.dat kb (.v 1)))], some t0, fun _ => none⟩
/-- loop.example/g00709/laws.pick -/
def t1 : Tr :=
(.seq [kb]
 (.nd (.pr (.len [ku8]) [(.v 0)])
 (.nd (.pr (.cmp .eql .i64) [(.v 3), (.k (.i 0))])
 (.ite (.v 4)
  (.out 0 [(.k (.b true))])
  (.nd (.pr (.cmp .lss .i64) [(.v 2), (.k (.i 2))])
  (.out 0 [(.v 5)])))))
(.ite (.v 3)
 (.out 1 [(.k (.i 0))])
 (.blk 2 [ki64]
  (.loop [ki64, ki64] [(.k (.i 0)), (.k (.i 0))]
   (.nd (.pr (.cmp .lss .i64) [(.v 5), (.k (.i 3))])
   (.ite (.v 6)
    (.blk 3 [ki64]
     (.nd (.pr (.bin .mul .i64) [(.k (.i 31)), (.v 4)])
     (.nd (.pr (.bin .add .i64) [(.v 1), (.v 5)])
     (.nd (.pr (.len [ku8]) [(.v 0)])
     (.nd (.pr (.bin .rem .i64) [(.v 8), (.v 9)])
     (.nd (.pr (.len [ku8]) [(.v 0)])
     (.nd (.pr (.ixc .i64) [(.v 10), (.v 11)])
     (.nd (.pr (.get [ku8] 0) [(.v 0), (.v 12)])
     (.nd (.pr (.conv .u8 .i64) [(.v 13)])
     (.nd (.pr (.bin .add .i64) [(.v 7), (.v 14)])
     (.out 0 [(.v 15)]))))))))))
    (.nd (.pr (.bin .add .i64) [(.v 5), (.k (.i 1))])
    (.out 0 [(.v 7), (.v 8)])))
    (.out 2 [(.v 4)]))))
 (.nd (.pr (.bin .add .i64) [(.v 4), (.v 1)])
 (.nd (.pr (.bin .rem .i64) [(.v 5), (.v 2)])
 (.out 1 [(.v 6)]))))))
def e1 : Fe := ⟨⟨14, [(.sl [ku8]), ki64, ki64], [(.dat (.sl [ku8]) (.v 0)), (.dat ki64 (.v 1)), (.dat ki64 (.v 2))], [], [ki64], [(.dat ki64 (.v 3))], [], 0⟩,
 ⟨[(61, ⟨[ki64], [(1, (.dat ki64 (.v 1))), (2, (.dat ki64 (.v 2))), (7, (.dat ki64 (.v 4)))], [], 0⟩), (122, ⟨[ki64, ki64], [(0, (.dat (.sl [ku8]) (.v 0))), (1, (.dat ki64 (.v 1))), (2, (.dat ki64 (.v 2))), (7, (.dat ki64 (.v 4))), (8, (.dat ki64 (.v 5)))], [], 0⟩), (978, ⟨[ki64], [(0, (.dat (.sl [ku8]) (.v 0))), (1, (.dat ki64 (.v 1))), (2, (.dat ki64 (.v 2))), (7, (.dat ki64 (.v 7))), (8, (.dat ki64 (.v 5)))], [], 0⟩), (6, ⟨[kb], [(0, (.dat (.sl [ku8]) (.v 0))), (1, (.dat ki64 (.v 1))), (2, (.dat ki64 (.v 2))), (15, (.dat kb (.v 3)))], [], 0⟩)], []⟩,
 [(6, (.dat ki64 (.v 3)))], some t1, fun _ => none⟩
/-- loop.example/g00709/impl.within -/
def t2 : Tr :=
(.seq [kb]
 (.nd (.pr (.cmp .geq .i64) [(.v 0), (.v 1)])
 (.ite (.v 3)
  (.nd (.pr (.cmp .leq .i64) [(.v 0), (.v 2)])
  (.out 0 [(.v 4)]))
  (.out 0 [(.k (.b false))])))
(.out 1 [(.v 3)]))
def e2 : Fe := ⟨⟨70, [ki64, ki64, ki64], [(.dat ki64 (.v 0)), (.dat ki64 (.v 1)), (.dat ki64 (.v 2))], [], [kb], [(.dat kb (.v 3))], [], 0⟩,
 ⟨[(3, ⟨[kb], [(6, (.dat kb (.v 3)))], [], 0⟩)], []⟩,
 [(6, (.dat kb (.v 3)))], some t2, fun _ => none⟩
/-- loop.example/g00709/impl.isSema -/
def t3 : Tr :=
(.seq [kb]
 (.nd (.call 2 [(.v 0), (.k (.i 0)), (.k (.i 1000))] [ki64, ki64, ki64] [kb])
 (.ite (.v 3)
  (.nd (.call 2 [(.v 1), (.k (.i 0)), (.k (.i 1000))] [ki64, ki64, ki64] [kb])
  (.ite (.v 4)
   (.nd (.call 2 [(.v 2), (.k (.i 0)), (.k (.i 1000))] [ki64, ki64, ki64] [kb])
   (.ite (.v 5)
    (.nd (.pr (.bin .add .i64) [(.v 0), (.v 1)])
    (.nd (.pr (.cmp .leq .i64) [(.v 2), (.v 6)])
    (.out 0 [(.v 7)])))
    (.out 0 [(.k (.b false))])))
   (.out 0 [(.k (.b false))])))
  (.out 0 [(.k (.b false))])))
(.out 1 [(.v 3)]))
def e3 : Fe := ⟨⟨69, [ki64, ki64, ki64], [(.agg [(.dat ki64 (.v 0)), (.dat ki64 (.v 1)), (.dat ki64 (.v 2))])], [], [kb], [(.dat kb (.v 3))], [], 0⟩,
 ⟨[(3, ⟨[kb], [(2, (.dat kb (.v 3)))], [], 0⟩)], []⟩,
 [(2, (.dat kb (.v 3)))], some t3, fun _ => none⟩
/-- loop.example/g00709/impl.SemaWant -/
def t4 : Tr :=
(.seq [kb]
 (.nd (.call 3 [(.v 0), (.v 1), (.v 2)] [ki64, ki64, ki64] [kb])
 (.nd (.pr .not [(.v 5)])
 (.ite (.v 6)
  (.out 0 [(.k (.b true))])
  (.nd (.call 2 [(.v 3), (.k (.i 1)), (.k (.i 1000))] [ki64, ki64, ki64] [kb])
  (.nd (.pr .not [(.v 7)])
  (.ite (.v 8)
   (.out 0 [(.k (.b true))])
   (.nd (.call 2 [(.v 4), (.k (.i 1)), (.k (.i 1000))] [ki64, ki64, ki64] [kb])
   (.nd (.pr .not [(.v 9)])
   (.out 0 [(.v 10)])))))))))
(.ite (.v 5)
 (.out 1 [(.k (.i 0)), (.k (.i 0)), (.k (.i 0)), (.k (.i 0))])
 (.blk 2 [ki64, ki64, ki64, ki64]
  (.nd (.pr (.bin .sub .i64) [(.v 0), (.v 2)])
  (.nd (.pr (.cmp .geq .i64) [(.v 6), (.v 3)])
  (.ite (.v 7)
   (.nd (.pr (.bin .sub .i64) [(.v 0), (.v 3)])
   (.out 0 [(.k (.i 1)), (.v 8), (.v 1), (.v 2)]))
   (.nd (.pr (.bin .add .i64) [(.v 0), (.v 1)])
   (.nd (.pr (.bin .sub .i64) [(.v 8), (.v 2)])
   (.nd (.pr (.cmp .geq .i64) [(.v 9), (.v 3)])
   (.ite (.v 10)
    (.nd (.pr (.bin .add .i64) [(.v 2), (.v 3)])
    (.out 0 [(.k (.i 2)), (.v 0), (.v 1), (.v 11)]))
    (.nd (.pr (.cmp .geq .i64) [(.v 4), (.v 3)])
    (.ite (.v 11)
     (.nd (.pr (.bin .add .i64) [(.v 1), (.v 4)])
     (.nd (.pr (.bin .add .i64) [(.v 2), (.v 3)])
     (.out 0 [(.k (.i 3)), (.v 0), (.v 12), (.v 13)])))
     (.out 1 [(.k (.i 0)), (.k (.i 0)), (.k (.i 0)), (.k (.i 0))]))))))))))
 (.nd (.call 3 [(.v 7), (.v 8), (.v 9)] [ki64, ki64, ki64] [kb])
 (.nd (.pr .not [(.v 10)])
 (.ite (.v 11)
  (.out 1 [(.k (.i 0)), (.k (.i 0)), (.k (.i 0)), (.k (.i 0))])
  (.out 1 [(.v 6), (.v 7), (.v 8), (.v 9)])))))))
def e4 : Fe := ⟨⟨15, [ki64, ki64, ki64, ki64, ki64], [(.agg [(.dat ki64 (.v 0)), (.dat ki64 (.v 1)), (.dat ki64 (.v 2))]), (.dat ki64 (.v 3)), (.dat ki64 (.v 4))], [], [ki64, ki64, ki64, ki64], [(.agg [(.dat ki64 (.v 6)), (.dat ki64 (.v 7)), (.dat ki64 (.v 8))]), (.dat ki64 (.v 5))], [(0, (.cells [(.dat ki64 (.v 6)), (.dat ki64 (.v 7)), (.dat ki64 (.v 8))]))], 1⟩,
 ⟨[(30, ⟨[ki64, ki64, ki64, ki64], [(3, (.ptr 0 0)), (6, (.ptr 1 0)), (8, (.dat ki64 (.v 6)))], [(0, (.cells [(.dat ki64 (.v 7)), (.dat ki64 (.v 8)), (.dat ki64 (.v 9))])), (1, (.cells [(.dat ki64 (.k (.i 0))), (.dat ki64 (.k (.i 0))), (.dat ki64 (.k (.i 0)))]))], 2⟩), (6, ⟨[kb], [(1, (.dat ki64 (.v 3))), (2, (.dat ki64 (.v 4))), (3, (.ptr 0 0)), (6, (.ptr 1 0)), (21, (.dat kb (.v 5)))], [(0, (.cells [(.dat ki64 (.v 0)), (.dat ki64 (.v 1)), (.dat ki64 (.v 2))])), (1, (.cells [(.dat ki64 (.k (.i 0))), (.dat ki64 (.k (.i 0))), (.dat ki64 (.k (.i 0)))]))], 2⟩)], []⟩,
 [(6, (.ptr 0 0)), (7, (.dat ki64 (.v 5)))], some t4, fun _ => none⟩
/-- loop.example/g00709/spec.l11Num -/
def t5 : Tr :=
(.seq [kb]
 (.nd (.pr (.cmp .geq .i64) [(.v 0), (.k (.i 0))])
 (.ite (.v 1)
  (.nd (.pr (.cmp .leq .i64) [(.v 0), (.k (.i 1000))])
  (.out 0 [(.v 2)]))
  (.out 0 [(.k (.b false))])))
(.out 1 [(.v 1)]))
def e5 : Fe := ⟨⟨74, [ki64], [(.dat ki64 (.v 0))], [], [kb], [(.dat kb (.v 1))], [], 0⟩,
 ⟨[(3, ⟨[kb], [(2, (.dat kb (.v 1)))], [], 0⟩)], []⟩,
 [(2, (.dat kb (.v 1)))], some t5, fun _ => none⟩
/-- loop.example/g00709/spec.SemaOk -/
def t6 : Tr :=
(.seq [kb]
 (.nd (.call 5 [(.v 0)] [ki64] [kb])
 (.ite (.v 3)
  (.nd (.call 5 [(.v 1)] [ki64] [kb])
  (.ite (.v 4)
   (.nd (.call 5 [(.v 2)] [ki64] [kb])
   (.ite (.v 5)
    (.nd (.pr (.bin .add .i64) [(.v 0), (.v 1)])
    (.nd (.pr (.cmp .leq .i64) [(.v 2), (.v 6)])
    (.out 0 [(.v 7)])))
    (.out 0 [(.k (.b false))])))
   (.out 0 [(.k (.b false))])))
  (.out 0 [(.k (.b false))])))
(.out 1 [(.v 3)]))
def e6 : Fe := ⟨⟨19, [ki64, ki64, ki64], [(.agg [(.dat ki64 (.v 0)), (.dat ki64 (.v 1)), (.dat ki64 (.v 2))])], [], [kb], [(.dat kb (.v 3))], [], 0⟩,
 ⟨[(3, ⟨[kb], [(2, (.dat kb (.v 3)))], [], 0⟩)], []⟩,
 [(2, (.dat kb (.v 3)))], some t6, fun _ => none⟩
/-- loop.example/g00709/spec.l11One -/
def t7 : Tr :=
(.seq [kb]
 (.nd (.pr (.cmp .geq .i64) [(.v 0), (.k (.i 1))])
 (.ite (.v 1)
  (.nd (.pr (.cmp .leq .i64) [(.v 0), (.k (.i 1000))])
  (.out 0 [(.v 2)]))
  (.out 0 [(.k (.b false))])))
(.out 1 [(.v 1)]))
def e7 : Fe := ⟨⟨71, [ki64], [(.dat ki64 (.v 0))], [], [kb], [(.dat kb (.v 1))], [], 0⟩,
 ⟨[(3, ⟨[kb], [(2, (.dat kb (.v 1)))], [], 0⟩)], []⟩,
 [(2, (.dat kb (.v 1)))], some t7, fun _ => none⟩
/-- loop.example/g00709/spec.SemaLeft -/
def t8 : Tr :=
(.nd (.call 6 [(.v 0), (.v 1), (.v 2)] [ki64, ki64, ki64] [kb])
(.nd (.pr .not [(.v 3)])
(.ite (.v 4)
 (.out 1 [(.k (.i (-1)))])
 (.nd (.pr (.bin .add .i64) [(.v 0), (.v 1)])
 (.nd (.pr (.bin .sub .i64) [(.v 5), (.v 2)])
 (.out 1 [(.v 6)]))))))
def e8 : Fe := ⟨⟨72, [ki64, ki64, ki64], [(.agg [(.dat ki64 (.v 0)), (.dat ki64 (.v 1)), (.dat ki64 (.v 2))])], [], [ki64], [(.dat ki64 (.v 3))], [], 0⟩,
 ⟨[], []⟩,
 [(2, (.dat ki64 (.v 3)))], some t8, fun _ => none⟩
/-- loop.example/g00709/spec.SemaWant -/
def t9 : Tr :=
(.seq [kb]
 (.nd (.call 6 [(.v 0), (.v 1), (.v 2)] [ki64, ki64, ki64] [kb])
 (.nd (.pr .not [(.v 5)])
 (.ite (.v 6)
  (.out 0 [(.k (.b true))])
  (.nd (.call 7 [(.v 3)] [ki64] [kb])
  (.nd (.pr .not [(.v 7)])
  (.ite (.v 8)
   (.out 0 [(.k (.b true))])
   (.nd (.call 7 [(.v 4)] [ki64] [kb])
   (.nd (.pr .not [(.v 9)])
   (.out 0 [(.v 10)])))))))))
(.ite (.v 5)
 (.out 1 [(.k (.i 0)), (.k (.i 0)), (.k (.i 0)), (.k (.i 0))])
 (.blk 2 [ki64, ki64, ki64, ki64]
  (.nd (.pr (.bin .sub .i64) [(.v 0), (.v 2)])
  (.nd (.pr (.cmp .geq .i64) [(.v 6), (.v 3)])
  (.ite (.v 7)
   (.nd (.pr (.bin .sub .i64) [(.v 0), (.v 3)])
   (.out 0 [(.k (.i 1)), (.v 8), (.v 1), (.v 2)]))
   (.nd (.call 8 [(.v 0), (.v 1), (.v 2)] [ki64, ki64, ki64] [ki64])
   (.nd (.pr (.cmp .geq .i64) [(.v 8), (.v 3)])
   (.ite (.v 9)
    (.nd (.pr (.bin .add .i64) [(.v 2), (.v 3)])
    (.out 0 [(.k (.i 2)), (.v 0), (.v 1), (.v 10)]))
    (.nd (.pr (.cmp .geq .i64) [(.v 4), (.v 3)])
    (.ite (.v 10)
     (.nd (.pr (.bin .add .i64) [(.v 1), (.v 4)])
     (.nd (.pr (.bin .add .i64) [(.v 2), (.v 3)])
     (.out 0 [(.k (.i 3)), (.v 0), (.v 11), (.v 12)])))
     (.out 0 [(.k (.i 0)), (.v 0), (.v 1), (.v 2)])))))))))
 (.seq [kb]
  (.nd (.pr (.cmp .eql .i64) [(.v 6), (.k (.i 0))])
  (.ite (.v 10)
   (.out 0 [(.k (.b true))])
   (.nd (.call 6 [(.v 7), (.v 8), (.v 9)] [ki64, ki64, ki64] [kb])
   (.nd (.pr .not [(.v 11)])
   (.out 0 [(.v 12)])))))
 (.ite (.v 10)
  (.out 1 [(.k (.i 0)), (.k (.i 0)), (.k (.i 0)), (.k (.i 0))])
  (.out 1 [(.v 6), (.v 7), (.v 8), (.v 9)]))))))
def e9 : Fe := ⟨⟨16, [ki64, ki64, ki64, ki64, ki64], [(.agg [(.dat ki64 (.v 0)), (.dat ki64 (.v 1)), (.dat ki64 (.v 2))]), (.dat ki64 (.v 3)), (.dat ki64 (.v 4))], [], [ki64, ki64, ki64, ki64], [(.agg [(.dat ki64 (.v 6)), (.dat ki64 (.v 7)), (.dat ki64 (.v 8))]), (.dat ki64 (.v 5))], [(0, (.cells [(.dat ki64 (.v 6)), (.dat ki64 (.v 7)), (.dat ki64 (.v 8))]))], 1⟩,
 ⟨[(62, ⟨[kb], [(3, (.ptr 0 0)), (6, (.ptr 1 0)), (8, (.dat ki64 (.v 6))), (66, (.dat kb (.v 10)))], [(0, (.cells [(.dat ki64 (.v 7)), (.dat ki64 (.v 8)), (.dat ki64 (.v 9))])), (1, (.cells [(.dat ki64 (.k (.i 0))), (.dat ki64 (.k (.i 0))), (.dat ki64 (.k (.i 0)))]))], 2⟩), (30, ⟨[ki64, ki64, ki64, ki64], [(3, (.ptr 0 0)), (6, (.ptr 1 0)), (8, (.dat ki64 (.v 6)))], [(0, (.cells [(.dat ki64 (.v 7)), (.dat ki64 (.v 8)), (.dat ki64 (.v 9))])), (1, (.cells [(.dat ki64 (.k (.i 0))), (.dat ki64 (.k (.i 0))), (.dat ki64 (.k (.i 0)))]))], 2⟩), (6, ⟨[kb], [(1, (.dat ki64 (.v 3))), (2, (.dat ki64 (.v 4))), (3, (.ptr 0 0)), (6, (.ptr 1 0)), (21, (.dat kb (.v 5)))], [(0, (.cells [(.dat ki64 (.v 0)), (.dat ki64 (.v 1)), (.dat ki64 (.v 2))])), (1, (.cells [(.dat ki64 (.k (.i 0))), (.dat ki64 (.k (.i 0))), (.dat ki64 (.k (.i 0)))]))], 2⟩)], []⟩,
 [(6, (.ptr 0 0)), (7, (.dat ki64 (.v 5)))], some t9, fun _ => none⟩
/-- loop.example/g00709/impl.checkedSema -/
def t10 : Tr :=
(.nd (.call 3 [(.v 0), (.v 1), (.v 2)] [ki64, ki64, ki64] [kb])
(.nd (.pr .not [(.v 3)])
(.ite (.v 4)
 (.out 1 [(.k (.b false)), (.k (.i 0)), (.k (.i 0)), (.k (.i 0))])
 (.out 1 [(.k (.b true)), (.v 0), (.v 1), (.v 2)]))))
def e10 : Fe := ⟨⟨73, [ki64, ki64, ki64], [(.agg [(.dat ki64 (.v 0)), (.dat ki64 (.v 1)), (.dat ki64 (.v 2))])], [], [kb, ki64, ki64, ki64], [(.agg [(.dat ki64 (.v 4)), (.dat ki64 (.v 5)), (.dat ki64 (.v 6))]), (.dat kb (.v 3))], [(0, (.cells [(.dat ki64 (.v 4)), (.dat ki64 (.v 5)), (.dat ki64 (.v 6))]))], 1⟩,
 ⟨[], []⟩,
 [(2, (.ptr 0 0)), (3, (.dat kb (.v 3)))], some t10, fun _ => none⟩
/-- loop.example/g00709/impl.SemaPost -/
def t11 : Tr :=
(.seq [kb]
 (.nd (.call 3 [(.v 0), (.v 1), (.v 2)] [ki64, ki64, ki64] [kb])
 (.nd (.pr .not [(.v 4)])
 (.ite (.v 5)
  (.out 0 [(.k (.b true))])
  (.nd (.call 2 [(.v 3), (.k (.i 1)), (.k (.i 1000))] [ki64, ki64, ki64] [kb])
  (.nd (.pr .not [(.v 6)])
  (.out 0 [(.v 7)]))))))
(.ite (.v 4)
 (.out 1 [(.k (.b false)), (.k (.i 0)), (.k (.i 0)), (.k (.i 0))])
 (.nd (.pr (.bin .add .i64) [(.v 0), (.v 3)])
 (.nd (.pr (.bin .sub .i64) [(.v 1), (.v 3)])
 (.nd (.call 10 [(.v 5), (.v 6), (.v 2)] [ki64, ki64, ki64] [kb, ki64, ki64, ki64])
 (.out 1 [(.v 7), (.v 8), (.v 9), (.v 10)]))))))
def e11 : Fe := ⟨⟨17, [ki64, ki64, ki64, ki64], [(.agg [(.dat ki64 (.v 0)), (.dat ki64 (.v 1)), (.dat ki64 (.v 2))]), (.dat ki64 (.v 3))], [], [kb, ki64, ki64, ki64], [(.agg [(.dat ki64 (.v 5)), (.dat ki64 (.v 6)), (.dat ki64 (.v 7))]), (.dat kb (.v 4))], [(0, (.cells [(.dat ki64 (.v 5)), (.dat ki64 (.v 6)), (.dat ki64 (.v 7))]))], 1⟩,
 ⟨[(6, ⟨[kb], [(1, (.dat ki64 (.v 3))), (2, (.ptr 0 0)), (4, (.ptr 1 0)), (13, (.dat kb (.v 4)))], [(0, (.cells [(.dat ki64 (.v 0)), (.dat ki64 (.v 1)), (.dat ki64 (.v 2))])), (1, (.cells [(.dat ki64 (.k (.i 0))), (.dat ki64 (.k (.i 0))), (.dat ki64 (.k (.i 0)))]))], 2⟩)], []⟩,
 [(4, (.ptr 0 0)), (5, (.dat kb (.v 4)))], some t11, fun _ => none⟩
/-- loop.example/g00709/impl.SemaServe -/
def t12 : Tr :=
(.seq [kb]
 (.nd (.call 3 [(.v 0), (.v 1), (.v 2)] [ki64, ki64, ki64] [kb])
 (.nd (.pr .not [(.v 4)])
 (.ite (.v 5)
  (.out 0 [(.k (.b true))])
  (.nd (.call 2 [(.v 3), (.k (.i 1)), (.k (.i 1000))] [ki64, ki64, ki64] [kb])
  (.nd (.pr .not [(.v 6)])
  (.out 0 [(.v 7)]))))))
(.ite (.v 4)
 (.out 1 [(.k (.b false)), (.k (.i 0)), (.k (.i 0)), (.k (.i 0))])
 (.nd (.pr (.bin .sub .i64) [(.v 0), (.v 3)])
 (.nd (.pr (.bin .sub .i64) [(.v 2), (.v 3)])
 (.nd (.call 10 [(.v 5), (.v 1), (.v 6)] [ki64, ki64, ki64] [kb, ki64, ki64, ki64])
 (.out 1 [(.v 7), (.v 8), (.v 9), (.v 10)]))))))
def e12 : Fe := ⟨⟨18, [ki64, ki64, ki64, ki64], [(.agg [(.dat ki64 (.v 0)), (.dat ki64 (.v 1)), (.dat ki64 (.v 2))]), (.dat ki64 (.v 3))], [], [kb, ki64, ki64, ki64], [(.agg [(.dat ki64 (.v 5)), (.dat ki64 (.v 6)), (.dat ki64 (.v 7))]), (.dat kb (.v 4))], [(0, (.cells [(.dat ki64 (.v 5)), (.dat ki64 (.v 6)), (.dat ki64 (.v 7))]))], 1⟩,
 ⟨[(6, ⟨[kb], [(1, (.dat ki64 (.v 3))), (2, (.ptr 0 0)), (4, (.ptr 1 0)), (13, (.dat kb (.v 4)))], [(0, (.cells [(.dat ki64 (.v 0)), (.dat ki64 (.v 1)), (.dat ki64 (.v 2))])), (1, (.cells [(.dat ki64 (.k (.i 0))), (.dat ki64 (.k (.i 0))), (.dat ki64 (.k (.i 0)))]))], 2⟩)], []⟩,
 [(4, (.ptr 0 0)), (5, (.dat kb (.v 4)))], some t12, fun _ => none⟩
/-- loop.example/g00709/laws.FnSema -/
def t13 : Tr :=
(.nd (.call 0 [(.v 0)] [(.sl [ku8])] [kb])
(.ite (.v 1)
 (.out 1 [(.k (.b true))])
 (.nd (.call 1 [(.v 0), (.k (.i 3)), (.k (.i 9))] [(.sl [ku8]), ki64, ki64] [ki64])
 (.blk 2 []
  (.loop [ki64, ki64, ki64, ki64, ki64, ki64, ki64, (.sl [ki64])] [(.v 2), (.k (.i 0)), (.k (.i 0)), (.k (.i 0)), (.v 2), (.k (.i 0)), (.k (.i 0)), (.k (.l []))]
   (.nd (.pr (.len [ki64]) [(.v 10)])
   (.nd (.pr (.len [ku8]) [(.v 0)])
   (.nd (.pr (.mn .i64) [(.k (.i 30)), (.v 12)])
   (.nd (.pr (.cmp .lss .i64) [(.v 6), (.v 13)])
   (.ite (.v 14)
    (.blk 3 [ki64, ki64, ki64, ki64, ki64, ki64, (.sl [ki64])]
     (.nd (.call 1 [(.v 0), (.v 6), (.k (.i 5))] [(.sl [ku8]), ki64, ki64] [ki64])
     (.nd (.pr (.bin .add .i64) [(.k (.i 1)), (.v 15)])
     (.nd (.pr (.bin .add .i64) [(.v 6), (.k (.i 1))])
     (.nd (.call 1 [(.v 0), (.v 17), (.k (.i 3))] [(.sl [ku8]), ki64, ki64] [ki64])
     (.blk 4 [ki64, ki64, ki64, ki64, ki64, ki64, (.sl [ki64])]
      (.nd (.pr (.cmp .eql .i64) [(.v 18), (.k (.i 0))])
      (.ite (.v 19)
       (.nd (.call 4 [(.v 7), (.v 8), (.v 9), (.v 16), (.k (.i 6))] [ki64, ki64, ki64, ki64, ki64] [ki64, ki64, ki64, ki64])
       (.nd (.call 9 [(.v 7), (.v 8), (.v 9), (.v 16), (.k (.i 6))] [ki64, ki64, ki64, ki64, ki64] [ki64, ki64, ki64, ki64])
       (.nd (.pr (.cmp .neq .i64) [(.v 20), (.v 24)])
       (.ite (.v 28)
        (.out 1 [(.k (.b false))])
        (.nd (.pr (.cmp .eql .i64) [(.v 20), (.k (.i 0))])
        (.ite (.v 29)
         (.out 3 [(.v 3), (.v 4), (.v 5), (.v 7), (.v 8), (.v 9), (.v 10)])
         (.seq [ki64, (.sl [ki64])]
          (.nd (.pr (.cmp .eql .i64) [(.v 20), (.k (.i 1))])
          (.ite (.v 30)
           (.nd (.pr (.bin .add .i64) [(.v 4), (.v 16)])
           (.out 0 [(.v 31), (.v 10)]))
           (.nd (.pr (.mk [ki64] 1) [(.v 16)])
           (.nd (.pr (.app [ki64] 8) [(.v 10), (.v 31)])
           (.nd (.pr (.len [ki64]) [(.v 32)])
           (.out 0 [(.v 4), (.v 32)]))))))
         (.nd (.pr (.len [ki64]) [(.v 31)])
         (.nd (.pr (.cmp .eql .i64) [(.v 20), (.k (.i 3))])
         (.ite (.v 33)
          (.nd (.pr (.bin .add .i64) [(.v 5), (.k (.i 6))])
          (.out 0 [(.v 3), (.v 30), (.v 34), (.v 21), (.v 22), (.v 23), (.v 31)]))
          (.out 0 [(.v 3), (.v 30), (.v 5), (.v 21), (.v 22), (.v 23), (.v 31)])))))))))))
       (.nd (.pr (.cmp .eql .i64) [(.v 18), (.k (.i 1))])
       (.ite (.v 20)
        (.nd (.pr (.cmp .lss .i64) [(.v 5), (.k (.i 1))])
        (.ite (.v 21)
         (.out 3 [(.v 3), (.v 4), (.v 5), (.v 7), (.v 8), (.v 9), (.v 10)])
         (.nd (.pr (.mn .i64) [(.v 16), (.v 5)])
         (.nd (.call 11 [(.v 7), (.v 8), (.v 9), (.v 22)] [ki64, ki64, ki64, ki64] [kb, ki64, ki64, ki64])
         (.nd (.pr .not [(.v 23)])
         (.ite (.v 27)
          (.out 1 [(.k (.b false))])
          (.nd (.pr (.mn .i64) [(.v 16), (.v 5)])
          (.nd (.pr (.bin .add .i64) [(.v 3), (.v 28)])
          (.nd (.pr (.mn .i64) [(.v 16), (.v 5)])
          (.nd (.pr (.bin .sub .i64) [(.v 5), (.v 30)])
          (.out 0 [(.v 29), (.v 4), (.v 31), (.v 24), (.v 25), (.v 26), (.v 10)])))))))))))
        (.nd (.pr (.cmp .eql .i64) [(.v 11), (.k (.i 0))])
        (.ite (.v 21)
         (.out 3 [(.v 3), (.v 4), (.v 5), (.v 7), (.v 8), (.v 9), (.v 10)])
         (.nd (.pr (.ixc .i64) [(.k (.i 0)), (.v 11)])
         (.nd (.pr (.get [ki64] 0) [(.v 10), (.v 22)])
         (.nd (.call 12 [(.v 7), (.v 8), (.v 9), (.v 23)] [ki64, ki64, ki64, ki64] [kb, ki64, ki64, ki64])
         (.nd (.pr (.ixc .i64) [(.k (.i 0)), (.v 11)])
         (.nd (.pr (.get [ki64] 0) [(.v 10), (.v 28)])
         (.nd (.pr (.cmp .geq .i64) [(.v 7), (.v 29)])
         (.nd (.pr .eqb [(.v 24), (.v 30)])
         (.nd (.pr .not [(.v 31)])
         (.ite (.v 32)
          (.out 1 [(.k (.b false))])
          (.ite (.v 24)
           (.nd (.pr (.ixc .i64) [(.k (.i 0)), (.v 11)])
           (.nd (.pr (.get [ki64] 0) [(.v 10), (.v 33)])
           (.nd (.pr (.bin .add .i64) [(.v 4), (.v 34)])
           (.nd (.pr (.rng .i64 .i64) [(.k (.i 1)), (.v 11), (.v 11)])
           (.nd (.pr (.cut [ki64] .i64 .i64) [(.v 10), (.k (.i 1)), (.v 11)])
           (.out 0 [(.v 3), (.v 35), (.v 5), (.v 25), (.v 26), (.v 27), (.v 37)]))))))
           (.out 0 [(.v 3), (.v 4), (.v 5), (.v 7), (.v 8), (.v 9), (.v 10)])))))))))))))))))
     (.nd (.pr (.len [ki64]) [(.v 25)])
     (.blk 5 [ki64]
      (.loop [ki64, ki64] [(.k (.i 0)), (.k (.i 0))]
       (.nd (.pr (.len [ki64]) [(.v 25)])
       (.nd (.pr (.cmp .lss .i64) [(.v 28), (.v 29)])
       (.ite (.v 30)
        (.blk 6 [ki64]
         (.nd (.pr (.ixc .i64) [(.v 28), (.v 29)])
         (.nd (.pr (.get [ki64] 0) [(.v 25), (.v 31)])
         (.nd (.pr (.bin .add .i64) [(.v 27), (.v 32)])
         (.out 0 [(.v 33)]))))
        (.nd (.pr (.len [ki64]) [(.v 25)])
        (.nd (.pr (.bin .add .i64) [(.v 28), (.k (.i 1))])
        (.out 0 [(.v 31), (.v 33)]))))
        (.out 5 [(.v 27)])))))
     (.nd (.pr (.len [ki64]) [(.v 25)])
     (.seq [kb]
      (.nd (.call 6 [(.v 22), (.v 23), (.v 24)] [ki64, ki64, ki64] [kb])
      (.nd (.pr .not [(.v 29)])
      (.ite (.v 30)
       (.out 0 [(.k (.b true))])
       (.nd (.pr (.bin .sub .i64) [(.v 19), (.v 20)])
       (.nd (.pr (.cmp .neq .i64) [(.v 22), (.v 31)])
       (.ite (.v 32)
        (.out 0 [(.k (.b true))])
        (.nd (.pr (.cmp .neq .i64) [(.v 23), (.v 21)])
        (.ite (.v 33)
         (.out 0 [(.k (.b true))])
         (.nd (.pr (.cmp .neq .i64) [(.v 24), (.v 27)])
         (.ite (.v 34)
          (.out 0 [(.k (.b true))])
          (.nd (.pr (.cmp .gtr .i64) [(.v 20), (.v 19)])
          (.out 0 [(.v 35)]))))))))))))
     (.nd (.pr (.len [ki64]) [(.v 25)])
     (.ite (.v 29)
      (.out 1 [(.k (.b false))])
      (.out 0 [(.v 19), (.v 20), (.v 21), (.v 22), (.v 23), (.v 24), (.v 25)]))))))))))))
    (.nd (.pr (.len [ki64]) [(.v 21)])
    (.nd (.pr (.bin .add .i64) [(.v 6), (.k (.i 1))])
    (.out 0 [(.v 15), (.v 16), (.v 17), (.v 23), (.v 18), (.v 19), (.v 20), (.v 21)]))))
    (.out 2 [])))))))
 (.out 1 [(.k (.b true))])))))
def e13 : Fe := ⟨⟨3, [(.sl [ku8])], [(.dat (.sl [ku8]) (.v 0))], [], [kb], [(.dat kb (.v 1))], [], 0⟩,
 ⟨[(1021, ⟨[], [], [], 0⟩), (2042, ⟨[ki64, ki64, ki64, ki64, ki64, ki64, ki64, (.sl [ki64])], [(0, (.dat (.sl [ku8]) (.v 0))), (3, (.ptr 0 0)), (4, (.dat ki64 (.v 3))), (5, (.dat ki64 (.v 4))), (6, (.sl 1 (.k (.i 0)) (.v 11) 1)), (7, (.dat ki64 (.v 5))), (8, (.dat ki64 (.v 6)))], [(0, (.cells [(.dat ki64 (.v 7)), (.dat ki64 (.v 8)), (.dat ki64 (.v 9))])), (1, (.arr [ki64] (.v 10) (.v 11)))], 2⟩), (16338, ⟨[ki64, ki64, ki64, ki64, ki64, ki64, (.sl [ki64])], [(0, (.dat (.sl [ku8]) (.v 0))), (3, (.ptr 0 0)), (4, (.dat ki64 (.v 15))), (5, (.dat ki64 (.v 16))), (6, (.sl 1 (.k (.i 0)) (.v 22) 1)), (7, (.dat ki64 (.v 17))), (8, (.dat ki64 (.v 6)))], [(0, (.cells [(.dat ki64 (.v 18)), (.dat ki64 (.v 19)), (.dat ki64 (.v 20))])), (1, (.arr [ki64] (.v 21) (.v 22)))], 2⟩), (522831, ⟨[kb], [(0, (.dat (.sl [ku8]) (.v 0))), (3, (.ptr 0 0)), (4, (.dat ki64 (.v 19))), (5, (.dat ki64 (.v 20))), (6, (.sl 1 (.k (.i 0)) (.v 30) 1)), (7, (.dat ki64 (.v 21))), (8, (.dat ki64 (.v 6))), (168, (.dat kb (.v 29)))], [(0, (.cells [(.dat ki64 (.v 22)), (.dat ki64 (.v 23)), (.dat ki64 (.v 24))])), (1, (.arr [ki64] (.v 25) (.v 30)))], 2⟩), (1045661, ⟨[ki64], [(0, (.dat (.sl [ku8]) (.v 0))), (3, (.ptr 0 0)), (4, (.dat ki64 (.v 19))), (5, (.dat ki64 (.v 20))), (6, (.sl 1 (.k (.i 0)) (.v 28) 1)), (7, (.dat ki64 (.v 21))), (8, (.dat ki64 (.v 6))), (18, (.dat ki64 (.v 27)))], [(0, (.cells [(.dat ki64 (.v 22)), (.dat ki64 (.v 23)), (.dat ki64 (.v 24))])), (1, (.arr [ki64] (.v 25) (.v 28)))], 2⟩), (2091322, ⟨[ki64, ki64], [(0, (.dat (.sl [ku8]) (.v 0))), (3, (.ptr 0 0)), (4, (.dat ki64 (.v 19))), (5, (.dat ki64 (.v 20))), (6, (.sl 1 (.k (.i 0)) (.v 29) 1)), (7, (.dat ki64 (.v 21))), (8, (.dat ki64 (.v 6))), (18, (.dat ki64 (.v 27))), (19, (.dat ki64 (.v 28)))], [(0, (.cells [(.dat ki64 (.v 22)), (.dat ki64 (.v 23)), (.dat ki64 (.v 24))])), (1, (.arr [ki64] (.v 25) (.v 29)))], 2⟩), (16730578, ⟨[ki64], [(0, (.dat (.sl [ku8]) (.v 0))), (3, (.ptr 0 0)), (4, (.dat ki64 (.v 19))), (5, (.dat ki64 (.v 20))), (6, (.sl 1 (.k (.i 0)) (.v 32) 1)), (7, (.dat ki64 (.v 21))), (8, (.dat ki64 (.v 6))), (18, (.dat ki64 (.v 31))), (19, (.dat ki64 (.v 28)))], [(0, (.cells [(.dat ki64 (.v 22)), (.dat ki64 (.v 23)), (.dat ki64 (.v 24))])), (1, (.arr [ki64] (.v 25) (.v 32)))], 2⟩), (261413, ⟨[ki64, ki64, ki64, ki64, ki64, ki64, (.sl [ki64])], [(0, (.dat (.sl [ku8]) (.v 0))), (3, (.ptr 0 0)), (4, (.dat ki64 (.v 19))), (5, (.dat ki64 (.v 20))), (6, (.sl 1 (.k (.i 0)) (.v 26) 1)), (7, (.dat ki64 (.v 21))), (8, (.dat ki64 (.v 6)))], [(0, (.cells [(.dat ki64 (.v 22)), (.dat ki64 (.v 23)), (.dat ki64 (.v 24))])), (1, (.arr [ki64] (.v 25) (.v 26)))], 2⟩), (66921823, ⟨[ki64, (.sl [ki64])], [(0, (.dat (.sl [ku8]) (.v 0))), (3, (.ptr 0 0)), (4, (.dat ki64 (.v 3))), (5, (.dat ki64 (.v 30))), (6, (.sl 1 (.k (.i 0)) (.v 32) 1)), (7, (.dat ki64 (.v 5))), (8, (.dat ki64 (.v 6))), (11, (.dat ki64 (.v 20)))], [(0, (.cells [(.dat ki64 (.v 21)), (.dat ki64 (.v 22)), (.dat ki64 (.v 23))])), (1, (.arr [ki64] (.v 31) (.v 32)))], 2⟩)], [(0, [1])]⟩,
 [(2, (.dat kb (.v 1)))], some t13, fun _ => none⟩
def fes : List Fe := [e0, e1, e2, e3, e4, e5, e6, e7, e8, e9, e10, e11, e12, e13]
theorem tabOk : TabOk Try.prog tab := tabB_ok (by kernel_rfl)
theorem ok0 : e0.ok Try.prog tab (sigsOf fes) (kindsOf fes) = true := by kernel_rfl
theorem ok1 : e1.ok Try.prog tab (sigsOf fes) (kindsOf fes) = true := by kernel_rfl
theorem ok2 : e2.ok Try.prog tab (sigsOf fes) (kindsOf fes) = true := by kernel_rfl
theorem ok3 : e3.ok Try.prog tab (sigsOf fes) (kindsOf fes) = true := by kernel_rfl
theorem ok4 : e4.ok Try.prog tab (sigsOf fes) (kindsOf fes) = true := by kernel_rfl
theorem ok5 : e5.ok Try.prog tab (sigsOf fes) (kindsOf fes) = true := by kernel_rfl
theorem ok6 : e6.ok Try.prog tab (sigsOf fes) (kindsOf fes) = true := by kernel_rfl
theorem ok7 : e7.ok Try.prog tab (sigsOf fes) (kindsOf fes) = true := by kernel_rfl
theorem ok8 : e8.ok Try.prog tab (sigsOf fes) (kindsOf fes) = true := by kernel_rfl
theorem ok9 : e9.ok Try.prog tab (sigsOf fes) (kindsOf fes) = true := by kernel_rfl
theorem ok10 : e10.ok Try.prog tab (sigsOf fes) (kindsOf fes) = true := by kernel_rfl
theorem ok11 : e11.ok Try.prog tab (sigsOf fes) (kindsOf fes) = true := by kernel_rfl
theorem ok12 : e12.ok Try.prog tab (sigsOf fes) (kindsOf fes) = true := by kernel_rfl
theorem ok13 : e13.ok Try.prog tab (sigsOf fes) (kindsOf fes) = true := by kernel_rfl
theorem fesOk : FeL Try.prog tab fes 0 fes := ⟨ok0, ok1, ok2, ok3, ok4, ok5, ok6, ok7, ok8, ok9, ok10, ok11, ok12, ok13, trivial⟩
end Go.Proofs.Ytbacblphkppigaa.Sema
