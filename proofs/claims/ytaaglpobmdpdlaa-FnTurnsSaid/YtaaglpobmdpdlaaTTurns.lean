/- What the functions behind FnTurns compute, as trees; that they do is checked by the kernel. Printed by bench/Bench.lean. -/
import Derived.Test.YtaaglpobmdpdlaaB33
import Derived.Test.YtaaglpobmdpdlaaProg
set_option maxRecDepth 100000
set_option linter.unusedVariables false
namespace Go.Proofs.Ytaaglpobmdpdlaa.Turns
open Go.BH
def tab : TyTab := [(3, ⟨1, 8, false, (.int .i64), [(.int .i64 (0))], [ki64], false⟩),
 (4, ⟨1, 1, false, .bool, [(.bool false)], [kb], false⟩),
 (5, ⟨1, 1, false, (.int .u8), [(.int .u8 (0))], [ku8], false⟩),
 (22, ⟨1, 24, false, (.slice 5), [(.slice none 0 0)], [(.sl [ku8])], false⟩),
 (32, ⟨1, 24, false, (.slice 3), [(.slice none 0 0)], [(.sl [ki64])], false⟩),
 (38, ⟨1, 24, false, (.slice 132), [(.slice none 0 0)], [(.sl [ki64, ki64])], false⟩),
 (40, ⟨3, 40, true, (.struct [(3, 0), (3, 1), (38, 2)]), [(.int .i64 (0)), (.int .i64 (0)), (.slice none 0 0)], [ki64, ki64, (.sl [ki64, ki64])], false⟩),
 (132, ⟨2, 16, true, (.struct [(3, 0), (3, 1)]), [(.int .i64 (0)), (.int .i64 (0))], [ki64, ki64], true⟩),
 (134, ⟨1, 8, false, .other, [(.pointer none)], [], false⟩),
 (169, ⟨3, 40, true, (.struct [(22, 0), (3, 1), (3, 2)]), [(.slice none 0 0), (.int .i64 (0)), (.int .i64 (0))], [(.sl [ku8]), ki64, ki64], false⟩)]
/-- loop.example/g00709/laws.big -/
def t0 : Tr :=
(.nd (.pr (.len [ku8]) [(.v 0)])
(.nd (.pr (.cmp .gtr .i64) [(.v 1), (.k (.i 1048576))])
(.out 1 [(.v 2)])))
def e0 : Fe := ⟨⟨24, [(.sl [ku8])], [(.dat (.sl [ku8]) (.v 0))], [], [kb], [(.dat kb (.v 1))], [], 0⟩,
 ⟨[], []⟩,
 [(2, (.dat kb (.v 1)))], some t0, fun _ => none⟩
/-- loop.example/g00709/spec.l01Open -/
def t1 : Tr :=
(.nd (.pr (.len [ku8]) [(.v 0)])
(.nd (.pr (.bin .rem .i64) [(.v 1), (.k (.i 1000))])
(.nd (.pr (.bin .add .i64) [(.k (.i 107)), (.v 2)])
(.out 1 [(.v 3)]))))
def e1 : Fe := ⟨⟨111, [(.sl [ku8])], [(.dat (.sl [ku8]) (.v 0))], [], [ki64], [(.ptr 0 0)], [(0, (.cells [(.dat (.sl [ku8]) (.v 0)), (.dat ki64 (.k (.i 0))), (.dat ki64 (.v 1))]))], 1⟩,
 ⟨[], []⟩,
 [(2, (.ptr 0 0))], some t1, fun _ => none⟩
/-- (*loop.example/g00709/spec.l01Cur).pick -/
def t2 : Tr :=
(.nd (.pr (.cmp .lss .i64) [(.v 3), (.k (.i 2))])
(.ite (.v 4)
 (.out 1 [(.k (.i 0)), (.v 1), (.v 2)])
 (.seq [ki64, ki64]
  (.nd (.pr (.len [ku8]) [(.v 0)])
  (.nd (.pr (.cmp .lss .i64) [(.v 1), (.v 5)])
  (.ite (.v 6)
   (.nd (.pr (.len [ku8]) [(.v 0)])
   (.nd (.pr (.ixc .i64) [(.v 1), (.v 7)])
   (.nd (.pr (.get [ku8] 0) [(.v 0), (.v 8)])
   (.nd (.pr (.conv .u8 .i64) [(.v 9)])
   (.out 0 [(.v 10), (.v 2)])))))
   (.nd (.pr (.bin .mul .i64) [(.v 2), (.k (.i 1103))])
   (.nd (.pr (.bin .add .i64) [(.v 7), (.k (.i 12345))])
   (.nd (.pr (.bin .rem .i64) [(.v 8), (.k (.i 65521))])
   (.nd (.pr (.len [ku8]) [(.v 0)])
   (.nd (.pr (.cmp .gtr .i64) [(.v 10), (.k (.i 0))])
   (.ite (.v 11)
    (.nd (.pr (.bin .quo .i64) [(.v 9), (.k (.i 7))])
    (.nd (.pr (.len [ku8]) [(.v 0)])
    (.nd (.pr (.bin .rem .i64) [(.v 1), (.v 13)])
    (.nd (.pr (.len [ku8]) [(.v 0)])
    (.nd (.pr (.ixc .i64) [(.v 14), (.v 15)])
    (.nd (.pr (.get [ku8] 0) [(.v 0), (.v 16)])
    (.nd (.pr (.conv .u8 .i64) [(.v 17)])
    (.nd (.pr (.bin .add .i64) [(.v 12), (.v 18)])
    (.out 0 [(.v 19), (.v 9)])))))))))
    (.out 0 [(.k (.i 0)), (.v 9)]))))))))))
 (.nd (.pr (.bin .add .i64) [(.v 1), (.k (.i 1))])
 (.nd (.pr (.bin .rem .i64) [(.v 5), (.v 3)])
 (.out 1 [(.v 8), (.v 7), (.v 6)]))))))
def e2 : Fe := ⟨⟨113, [(.sl [ku8]), ki64, ki64, ki64], [(.ptr 0 0), (.dat ki64 (.v 3))], [(0, (.cells [(.dat (.sl [ku8]) (.v 0)), (.dat ki64 (.v 1)), (.dat ki64 (.v 2))]))], [ki64, ki64, ki64], [(.dat ki64 (.v 4))], [(0, (.cells [(.dat (.sl [ku8]) (.v 0)), (.dat ki64 (.v 5)), (.dat ki64 (.v 6))]))], 1⟩,
 ⟨[(15, ⟨[ki64, ki64], [(0, (.ptr 0 0)), (1, (.dat ki64 (.v 3))), (5, (.dat ki64 (.v 5)))], [(0, (.cells [(.dat (.sl [ku8]) (.v 0)), (.dat ki64 (.v 1)), (.dat ki64 (.v 6))]))], 1⟩)], []⟩,
 [(4, (.dat ki64 (.v 4)))], some t2, fun _ => none⟩
/-- loop.example/g00709/spec.RingNew -/
def t3 : Tr :=
(.seq [kb]
 (.nd (.pr (.cmp .lss .i64) [(.v 0), (.k (.i 1))])
 (.ite (.v 1)
  (.out 0 [(.k (.b true))])
  (.nd (.pr (.cmp .gtr .i64) [(.v 0), (.k (.i 32))])
  (.out 0 [(.v 2)]))))
(.ite (.v 1)
 (.out 1 [(.k (.b false)), (.k (.l []))])
 (.blk 2 [(.sl [ki64, ki64])]
  (.loop [ki64, (.sl [ki64, ki64])] [(.k (.i 0)), (.k (.l []))]
   (.nd (.pr (.len [ki64, ki64]) [(.v 3)])
   (.nd (.pr (.cmp .lss .i64) [(.v 2), (.v 0)])
   (.ite (.v 5)
    (.blk 3 [(.sl [ki64, ki64])]
     (.nd (.pr (.mk [ki64, ki64] 1) [(.v 2), (.k (.i 0))])
     (.nd (.pr (.app [ki64, ki64] 16) [(.v 3), (.v 6)])
     (.nd (.pr (.len [ki64, ki64]) [(.v 7)])
     (.out 0 [(.v 7)]))))
    (.nd (.pr (.len [ki64, ki64]) [(.v 6)])
    (.nd (.pr (.bin .add .i64) [(.v 2), (.k (.i 1))])
    (.out 0 [(.v 8), (.v 6)]))))
    (.out 2 [(.v 3)])))))
 (.nd (.pr (.len [ki64, ki64]) [(.v 2)])
 (.out 1 [(.k (.b true)), (.v 2)])))))
def e3 : Fe := ⟨⟨167, [ki64], [(.dat ki64 (.v 0))], [], [kb, (.sl [ki64, ki64])], [(.agg [(.dat ki64 (.k (.i 0))), (.dat ki64 (.k (.i 0))), (.sl 1 (.k (.i 0)) (.v 3) 2)]), (.dat kb (.v 1))], [(0, (.cells [(.dat ki64 (.k (.i 0))), (.dat ki64 (.k (.i 0))), (.sl 1 (.k (.i 0)) (.v 3) 2)])), (1, (.arr [ki64, ki64] (.v 2) (.v 3)))], 2⟩,
 ⟨[(61, ⟨[(.sl [ki64, ki64])], [(2, (.ptr 0 0)), (4, (.ptr 1 0))], [(0, (.cells [(.dat ki64 (.k (.i 0))), (.dat ki64 (.k (.i 0))), .nilS])), (1, (.cells [(.dat ki64 (.k (.i 0))), (.dat ki64 (.k (.i 0))), (.sl 2 (.k (.i 0)) (.v 3) 2)])), (2, (.arr [ki64, ki64] (.v 2) (.v 3)))], 3⟩), (122, ⟨[ki64, (.sl [ki64, ki64])], [(0, (.dat ki64 (.v 0))), (2, (.ptr 0 0)), (4, (.ptr 1 0)), (5, (.dat ki64 (.v 2)))], [(0, (.cells [(.dat ki64 (.k (.i 0))), (.dat ki64 (.k (.i 0))), .nilS])), (1, (.cells [(.dat ki64 (.k (.i 0))), (.dat ki64 (.k (.i 0))), (.sl 2 (.k (.i 0)) (.v 4) 2)])), (2, (.arr [ki64, ki64] (.v 3) (.v 4)))], 3⟩), (978, ⟨[(.sl [ki64, ki64])], [(0, (.dat ki64 (.v 0))), (2, (.ptr 0 0)), (4, (.ptr 1 0)), (5, (.dat ki64 (.v 2)))], [(0, (.cells [(.dat ki64 (.k (.i 0))), (.dat ki64 (.k (.i 0))), .nilS])), (1, (.cells [(.dat ki64 (.k (.i 0))), (.dat ki64 (.k (.i 0))), (.sl 2 (.k (.i 0)) (.v 7) 2)])), (2, (.arr [ki64, ki64] (.v 6) (.v 7)))], 3⟩), (6, ⟨[kb], [(0, (.dat ki64 (.v 0))), (2, (.ptr 0 0)), (11, (.dat kb (.v 1)))], [(0, (.cells [(.dat ki64 (.k (.i 0))), (.dat ki64 (.k (.i 0))), .nilS]))], 1⟩)], []⟩,
 [(2, (.ptr 0 0)), (3, (.dat kb (.v 1)))], some t3, fun _ => none⟩
/-- (*loop.example/g00709/spec.l01Cur).size -/
def t4 : Tr :=
(.nd (.pr (.len [ku8]) [(.v 0)])
(.nd (.pr (.bin .quo .i64) [(.v 4), (.k (.i 8))])
(.nd (.pr (.bin .add .i64) [(.k (.i 1)), (.v 5)])
(.nd (.pr (.mn .i64) [(.v 3), (.v 6)])
(.nd (.pr (.bin .add .i64) [(.v 7), (.k (.i 1))])
(.nd (.call 2 [(.v 0), (.v 1), (.v 2), (.v 8)] [(.sl [ku8]), ki64, ki64, ki64] [ki64, ki64, ki64])
(.out 1 [(.v 9), (.v 10), (.v 11)])))))))
def e4 : Fe := ⟨⟨112, [(.sl [ku8]), ki64, ki64, ki64], [(.ptr 0 0), (.dat ki64 (.v 3))], [(0, (.cells [(.dat (.sl [ku8]) (.v 0)), (.dat ki64 (.v 1)), (.dat ki64 (.v 2))]))], [ki64, ki64, ki64], [(.dat ki64 (.v 4))], [(0, (.cells [(.dat (.sl [ku8]) (.v 0)), (.dat ki64 (.v 5)), (.dat ki64 (.v 6))]))], 1⟩,
 ⟨[], []⟩,
 [(4, (.dat ki64 (.v 4)))], some t4, fun _ => none⟩
/-- loop.example/g00709/spec.RingOk -/
def t5 : Tr :=
(.nd (.pr (.len [ki64, ki64]) [(.v 2)])
(.seq [kb]
 (.nd (.pr (.cmp .lss .i64) [(.v 3), (.k (.i 1))])
 (.ite (.v 4)
  (.out 0 [(.k (.b true))])
  (.nd (.pr (.cmp .gtr .i64) [(.v 3), (.k (.i 32))])
  (.ite (.v 5)
   (.out 0 [(.k (.b true))])
   (.nd (.pr (.cmp .lss .i64) [(.v 0), (.k (.i 0))])
   (.ite (.v 6)
    (.out 0 [(.k (.b true))])
    (.nd (.pr (.cmp .gtr .i64) [(.v 0), (.v 1)])
    (.ite (.v 7)
     (.out 0 [(.k (.b true))])
     (.nd (.pr (.cmp .gtr .i64) [(.v 1), (.k (.i 1000000))])
     (.ite (.v 8)
      (.out 0 [(.k (.b true))])
      (.nd (.pr (.bin .add .i64) [(.v 0), (.v 3)])
      (.nd (.pr (.cmp .gtr .i64) [(.v 1), (.v 9)])
      (.out 0 [(.v 10)])))))))))))))
(.ite (.v 4)
 (.out 1 [(.k (.b false))])
 (.blk 2 []
  (.loop [ki64] [(.v 0)]
   (.nd (.pr (.bin .add .i64) [(.v 0), (.v 3)])
   (.nd (.pr (.cmp .lss .i64) [(.v 5), (.v 6)])
   (.ite (.v 7)
    (.blk 3 []
     (.nd (.pr (.bin .rem .i64) [(.v 5), (.v 3)])
     (.nd (.pr (.len [ki64, ki64]) [(.v 2)])
     (.nd (.pr (.ixc .i64) [(.v 8), (.v 9)])
     (.nd (.pr (.get [ki64, ki64] 0) [(.v 2), (.v 10)])
     (.nd (.pr (.get [ki64, ki64] 1) [(.v 2), (.v 10)])
     (.seq [kb]
      (.nd (.pr (.cmp .lss .i64) [(.v 12), (.k (.i 0))])
      (.ite (.v 13)
       (.out 0 [(.k (.b true))])
       (.nd (.pr (.cmp .gtr .i64) [(.v 12), (.k (.i 255))])
       (.ite (.v 14)
        (.out 0 [(.k (.b true))])
        (.nd (.pr (.cmp .lss .i64) [(.v 5), (.v 1)])
        (.ite (.v 15)
         (.nd (.pr (.bin .add .i64) [(.v 5), (.k (.i 1))])
         (.nd (.pr (.cmp .neq .i64) [(.v 11), (.v 16)])
         (.ite (.v 17)
          (.out 0 [(.k (.b true))])
          (.nd (.pr (.cmp .geq .i64) [(.v 5), (.v 1)])
          (.ite (.v 18)
           (.nd (.pr (.cmp .eql .i64) [(.v 11), (.v 5)])
           (.nd (.pr .and [(.k (.b true)), (.v 19)])
           (.nd (.pr (.cmp .eql .i64) [(.v 12), (.k (.i 0))])
           (.nd (.pr .and [(.v 20), (.v 21)])
           (.nd (.pr .not [(.v 22)])
           (.out 0 [(.v 23)]))))))
           (.out 0 [(.k (.b false))]))))))
         (.nd (.pr (.cmp .geq .i64) [(.v 5), (.v 1)])
         (.ite (.v 16)
          (.nd (.pr (.cmp .eql .i64) [(.v 11), (.v 5)])
          (.nd (.pr .and [(.k (.b true)), (.v 17)])
          (.nd (.pr (.cmp .eql .i64) [(.v 12), (.k (.i 0))])
          (.nd (.pr .and [(.v 18), (.v 19)])
          (.nd (.pr .not [(.v 20)])
          (.out 0 [(.v 21)]))))))
          (.out 0 [(.k (.b false))])))))))))
     (.ite (.v 13)
      (.out 1 [(.k (.b false))])
      (.out 0 []))))))))
    (.nd (.pr (.bin .add .i64) [(.v 5), (.k (.i 1))])
    (.out 0 [(.v 8)])))
    (.out 2 [])))))
 (.out 1 [(.k (.b true))])))))
def e5 : Fe := ⟨⟨36, [ki64, ki64, (.sl [ki64, ki64])], [(.agg [(.dat ki64 (.v 0)), (.dat ki64 (.v 1)), (.lz [ki64, ki64] (.v 2))])], [], [kb], [(.dat kb (.v 3))], [], 0⟩,
 ⟨[(61, ⟨[], [], [], 0⟩), (122, ⟨[ki64], [(1, (.ptr 0 0)), (3, (.dat ki64 (.v 3))), (4, (.dat ki64 (.v 5)))], [(0, (.cells [(.dat ki64 (.v 0)), (.dat ki64 (.v 1)), (.lz [ki64, ki64] (.v 2))]))], 1⟩), (978, ⟨[], [(1, (.ptr 0 0)), (3, (.dat ki64 (.v 3))), (4, (.dat ki64 (.v 5)))], [(0, (.cells [(.dat ki64 (.v 0)), (.dat ki64 (.v 1)), (.lz [ki64, ki64] (.v 2))]))], 1⟩), (3913, ⟨[kb], [(1, (.ptr 0 0)), (3, (.dat ki64 (.v 3))), (4, (.dat ki64 (.v 5))), (90, (.dat kb (.v 13)))], [(0, (.cells [(.dat ki64 (.v 0)), (.dat ki64 (.v 1)), (.lz [ki64, ki64] (.v 2))]))], 1⟩), (14, ⟨[kb], [(1, (.ptr 0 0)), (3, (.dat ki64 (.v 3))), (40, (.dat kb (.v 4)))], [(0, (.cells [(.dat ki64 (.v 0)), (.dat ki64 (.v 1)), (.lz [ki64, ki64] (.v 2))]))], 1⟩)], []⟩,
 [(2, (.dat kb (.v 3)))], some t5, fun _ => none⟩
/-- loop.example/g00709/spec.l12Copy -/
def t6 : Tr :=
(.nd (.pr (.app [ki64, ki64] 16) [(.k (.l [])), (.v 2)])
(.nd (.pr (.len [ki64, ki64]) [(.v 3)])
(.out 1 [(.v 3)])))
def e6 : Fe := ⟨⟨200, [ki64, ki64, (.sl [ki64, ki64])], [(.agg [(.dat ki64 (.v 0)), (.dat ki64 (.v 1)), (.lz [ki64, ki64] (.v 2))])], [], [(.sl [ki64, ki64])], [(.agg [(.dat ki64 (.v 0)), (.dat ki64 (.v 1)), (.sl 1 (.k (.i 0)) (.v 4) 2)])], [(0, (.cells [(.dat ki64 (.v 0)), (.dat ki64 (.v 1)), (.sl 1 (.k (.i 0)) (.v 4) 2)])), (1, (.arr [ki64, ki64] (.v 3) (.v 4)))], 2⟩,
 ⟨[], []⟩,
 [(2, (.ptr 0 0))], some t6, fun _ => none⟩
/-- loop.example/g00709/spec.RingPush -/
def t7 : Tr :=
(.seq [kb]
 (.nd (.call 5 [(.v 0), (.v 1), (.v 2)] [ki64, ki64, (.sl [ki64, ki64])] [kb])
 (.nd (.pr .not [(.v 4)])
 (.ite (.v 5)
  (.out 0 [(.k (.b true))])
  (.nd (.pr (.cmp .lss .i64) [(.v 3), (.k (.i 0))])
  (.ite (.v 6)
   (.out 0 [(.k (.b true))])
   (.nd (.pr (.cmp .gtr .i64) [(.v 3), (.k (.i 255))])
   (.ite (.v 7)
    (.out 0 [(.k (.b true))])
    (.nd (.pr (.len [ki64, ki64]) [(.v 2)])
    (.nd (.pr (.bin .add .i64) [(.v 0), (.v 8)])
    (.nd (.pr (.cmp .eql .i64) [(.v 1), (.v 9)])
    (.ite (.v 10)
     (.out 0 [(.k (.b true))])
     (.nd (.pr (.cmp .eql .i64) [(.v 1), (.k (.i 1000000))])
     (.out 0 [(.v 11)])))))))))))))
(.ite (.v 4)
 (.out 1 [(.k (.b false)), (.k (.i 0)), (.k (.i 0)), (.k (.l []))])
 (.nd (.call 6 [(.v 0), (.v 1), (.v 2)] [ki64, ki64, (.sl [ki64, ki64])] [(.sl [ki64, ki64])])
 (.nd (.pr (.len [ki64, ki64]) [(.v 5)])
 (.nd (.pr (.len [ki64, ki64]) [(.v 2)])
 (.nd (.pr (.bin .rem .i64) [(.v 1), (.v 7)])
 (.nd (.pr (.bin .add .i64) [(.v 1), (.k (.i 1))])
 (.nd (.pr (.ixc .i64) [(.v 8), (.v 6)])
 (.nd (.pr (.set [ki64, ki64] 0) [(.v 5), (.v 10), (.v 9)])
 (.nd (.pr (.set [ki64, ki64] 1) [(.v 11), (.v 10), (.v 3)])
 (.nd (.pr (.bin .add .i64) [(.v 1), (.k (.i 1))])
 (.out 1 [(.k (.b true)), (.v 0), (.v 13), (.v 12)]))))))))))))
def e7 : Fe := ⟨⟨168, [ki64, ki64, (.sl [ki64, ki64]), ki64], [(.agg [(.dat ki64 (.v 0)), (.dat ki64 (.v 1)), (.lz [ki64, ki64] (.v 2))]), (.dat ki64 (.v 3))], [], [kb, ki64, ki64, (.sl [ki64, ki64])], [(.agg [(.dat ki64 (.v 5)), (.dat ki64 (.v 6)), (.sl 1 (.k (.i 0)) (.v 8) 2)]), (.dat kb (.v 4))], [(0, (.cells [(.dat ki64 (.v 5)), (.dat ki64 (.v 6)), (.sl 1 (.k (.i 0)) (.v 8) 2)])), (1, (.arr [ki64, ki64] (.v 7) (.v 8)))], 2⟩,
 ⟨[(6, ⟨[kb], [(1, (.dat ki64 (.v 3))), (2, (.ptr 0 0)), (4, (.ptr 1 0)), (33, (.dat kb (.v 4)))], [(0, (.cells [(.dat ki64 (.v 0)), (.dat ki64 (.v 1)), (.lz [ki64, ki64] (.v 2))])), (1, (.cells [(.dat ki64 (.k (.i 0))), (.dat ki64 (.k (.i 0))), .nilS]))], 2⟩)], [(30, [3])]⟩,
 [(4, (.ptr 0 0)), (5, (.dat kb (.v 4)))], some t7, fun _ => none⟩
/-- (*loop.example/g00709/spec.l01Cur).once -/
def t8 : Tr :=
(.nd (.call 2 [(.v 0), (.v 1), (.v 2), (.v 3)] [(.sl [ku8]), ki64, ki64, ki64] [ki64, ki64, ki64])
(.nd (.pr (.bin .sub .i64) [(.v 3), (.k (.i 1))])
(.nd (.pr (.cmp .eql .i64) [(.v 4), (.v 7)])
(.out 1 [(.v 8), (.v 5), (.v 6)]))))
def e8 : Fe := ⟨⟨169, [(.sl [ku8]), ki64, ki64, ki64], [(.ptr 0 0), (.dat ki64 (.v 3))], [(0, (.cells [(.dat (.sl [ku8]) (.v 0)), (.dat ki64 (.v 1)), (.dat ki64 (.v 2))]))], [kb, ki64, ki64], [(.dat kb (.v 4))], [(0, (.cells [(.dat (.sl [ku8]) (.v 0)), (.dat ki64 (.v 5)), (.dat ki64 (.v 6))]))], 1⟩,
 ⟨[], []⟩,
 [(4, (.dat kb (.v 4)))], some t8, fun _ => none⟩
/-- loop.example/g00709/spec.RingPop -/
def t9 : Tr :=
(.seq [kb]
 (.nd (.call 5 [(.v 0), (.v 1), (.v 2)] [ki64, ki64, (.sl [ki64, ki64])] [kb])
 (.nd (.pr .not [(.v 3)])
 (.ite (.v 4)
  (.out 0 [(.k (.b true))])
  (.nd (.pr (.cmp .eql .i64) [(.v 0), (.v 1)])
  (.out 0 [(.v 5)])))))
(.ite (.v 3)
 (.out 1 [(.k (.i 0)), (.k (.b false)), (.k (.i 0)), (.k (.i 0)), (.k (.l []))])
 (.nd (.call 6 [(.v 0), (.v 1), (.v 2)] [ki64, ki64, (.sl [ki64, ki64])] [(.sl [ki64, ki64])])
 (.nd (.pr (.len [ki64, ki64]) [(.v 4)])
 (.nd (.pr (.len [ki64, ki64]) [(.v 2)])
 (.nd (.pr (.bin .rem .i64) [(.v 0), (.v 6)])
 (.nd (.pr (.len [ki64, ki64]) [(.v 2)])
 (.nd (.pr (.bin .add .i64) [(.v 0), (.v 8)])
 (.nd (.pr (.ixc .i64) [(.v 7), (.v 5)])
 (.nd (.pr (.set [ki64, ki64] 0) [(.v 4), (.v 10), (.v 9)])
 (.nd (.pr (.set [ki64, ki64] 1) [(.v 11), (.v 10), (.k (.i 0))])
 (.nd (.pr (.bin .add .i64) [(.v 0), (.k (.i 1))])
 (.nd (.pr (.len [ki64, ki64]) [(.v 2)])
 (.nd (.pr (.ixc .i64) [(.v 7), (.v 14)])
 (.nd (.pr (.get [ki64, ki64] 1) [(.v 2), (.v 15)])
 (.out 1 [(.v 16), (.k (.b true)), (.v 13), (.v 1), (.v 12)]))))))))))))))))
def e9 : Fe := ⟨⟨170, [ki64, ki64, (.sl [ki64, ki64])], [(.agg [(.dat ki64 (.v 0)), (.dat ki64 (.v 1)), (.lz [ki64, ki64] (.v 2))])], [], [ki64, kb, ki64, ki64, (.sl [ki64, ki64])], [(.agg [(.dat ki64 (.v 5)), (.dat ki64 (.v 6)), (.sl 1 (.k (.i 0)) (.v 8) 2)]), (.dat ki64 (.v 3)), (.dat kb (.v 4))], [(0, (.cells [(.dat ki64 (.v 5)), (.dat ki64 (.v 6)), (.sl 1 (.k (.i 0)) (.v 8) 2)])), (1, (.arr [ki64, ki64] (.v 7) (.v 8)))], 2⟩,
 ⟨[(6, ⟨[kb], [(1, (.ptr 0 0)), (2, (.ptr 1 0)), (16, (.dat kb (.v 3)))], [(0, (.cells [(.dat ki64 (.v 0)), (.dat ki64 (.v 1)), (.lz [ki64, ki64] (.v 2))])), (1, (.cells [(.dat ki64 (.k (.i 0))), (.dat ki64 (.k (.i 0))), .nilS]))], 2⟩)], [(254, [1])]⟩,
 [(2, (.ptr 0 0)), (3, (.dat ki64 (.v 3))), (4, (.dat kb (.v 4)))], some t9, fun _ => none⟩
/-- (*loop.example/g00709/spec.l01Cur).raw -/
def t10 : Tr :=
(.nd (.call 2 [(.v 0), (.v 1), (.v 2), (.k (.i 8))] [(.sl [ku8]), ki64, ki64, ki64] [ki64, ki64, ki64])
(.blk 2 []
 (.nd (.pr (.cmp .eql .i64) [(.v 3), (.k (.i 0))])
 (.ite (.v 6)
  (.nd (.call 2 [(.v 0), (.v 4), (.v 5), (.k (.i 256))] [(.sl [ku8]), ki64, ki64, ki64] [ki64, ki64, ki64])
  (.nd (.pr (.bin .sub .i64) [(.v 7), (.k (.i 128))])
  (.out 1 [(.v 10), (.v 8), (.v 9)])))
  (.nd (.pr (.cmp .eql .i64) [(.v 3), (.k (.i 1))])
  (.ite (.v 7)
   (.nd (.pr (.mk [ki64] 8) [(.k (.i 9223372036854775807)), (.k (.i (-9223372036854775808))), (.k (.i 4611686018427387904)), (.k (.i 4294967295)), (.k (.i 4294967296)), (.k (.i (-1000))), (.k (.i 1000)), (.k (.i 64))])
   (.nd (.call 2 [(.v 0), (.v 4), (.v 5), (.k (.i 8))] [(.sl [ku8]), ki64, ki64, ki64] [ki64, ki64, ki64])
   (.nd (.pr (.ixc .i64) [(.v 9), (.k (.i 8))])
   (.nd (.pr (.get [ki64] 0) [(.v 8), (.v 12)])
   (.out 1 [(.v 13), (.v 10), (.v 11)])))))
   (.out 0 [])))))
(.nd (.call 2 [(.v 0), (.v 4), (.v 5), (.k (.i 14))] [(.sl [ku8]), ki64, ki64, ki64] [ki64, ki64, ki64])
(.nd (.pr (.bin .sub .i64) [(.v 6), (.k (.i 3))])
(.out 1 [(.v 9), (.v 7), (.v 8)])))))
def e10 : Fe := ⟨⟨114, [(.sl [ku8]), ki64, ki64], [(.ptr 0 0)], [(0, (.cells [(.dat (.sl [ku8]) (.v 0)), (.dat ki64 (.v 1)), (.dat ki64 (.v 2))]))], [ki64, ki64, ki64], [(.dat ki64 (.v 3))], [(0, (.cells [(.dat (.sl [ku8]) (.v 0)), (.dat ki64 (.v 4)), (.dat ki64 (.v 5))]))], 1⟩,
 ⟨[(13, ⟨[], [(0, (.ptr 0 0))], [(0, (.cells [(.dat (.sl [ku8]) (.v 0)), (.dat ki64 (.v 4)), (.dat ki64 (.v 5))]))], 1⟩)], []⟩,
 [(2, (.dat ki64 (.v 3)))], some t10, fun _ => none⟩
/-- (*loop.example/g00709/spec.l01Cur).ring -/
def t11 : Tr :=
(.nd (.call 2 [(.v 0), (.v 1), (.v 2), (.k (.i 6))] [(.sl [ku8]), ki64, ki64, ki64] [ki64, ki64, ki64])
(.nd (.pr (.bin .add .i64) [(.k (.i 1)), (.v 3)])
(.nd (.call 3 [(.v 6)] [ki64] [kb, (.sl [ki64, ki64])])
(.nd (.pr (.len [ki64, ki64]) [(.v 8)])
(.nd (.call 4 [(.v 0), (.v 4), (.v 5), (.k (.i 20))] [(.sl [ku8]), ki64, ki64, ki64] [ki64, ki64, ki64])
(.blk 2 [ki64, ki64, ki64, ki64, (.sl [ki64, ki64])]
 (.loop [ki64, ki64, ki64, ki64, ki64, (.sl [ki64, ki64])] [(.v 10), (.v 11), (.v 12), (.k (.i 0)), (.k (.i 0)), (.v 8)]
  (.nd (.pr (.len [ki64, ki64]) [(.v 18)])
  (.nd (.pr (.cmp .gtr .i64) [(.v 13), (.k (.i 0))])
  (.ite (.v 20)
   (.blk 3 [ki64, ki64, ki64, ki64, (.sl [ki64, ki64])]
    (.nd (.call 2 [(.v 0), (.v 14), (.v 15), (.k (.i 256))] [(.sl [ku8]), ki64, ki64, ki64] [ki64, ki64, ki64])
    (.nd (.call 7 [(.v 16), (.v 17), (.v 18), (.v 21)] [ki64, ki64, (.sl [ki64, ki64]), ki64] [kb, ki64, ki64, (.sl [ki64, ki64])])
    (.nd (.pr (.len [ki64, ki64]) [(.v 27)])
    (.seq [kb, ki64, ki64, ki64, ki64, (.sl [ki64, ki64])]
     (.nd (.call 8 [(.v 0), (.v 22), (.v 23), (.k (.i 3))] [(.sl [ku8]), ki64, ki64, ki64] [kb, ki64, ki64])
     (.ite (.v 29)
      (.nd (.call 9 [(.v 16), (.v 17), (.v 18)] [ki64, ki64, (.sl [ki64, ki64])] [ki64, kb, ki64, ki64, (.sl [ki64, ki64])])
      (.nd (.pr (.len [ki64, ki64]) [(.v 36)])
      (.out 0 [(.v 33), (.v 30), (.v 31), (.v 34), (.v 35), (.v 36)])))
      (.out 0 [(.v 24), (.v 30), (.v 31), (.v 25), (.v 26), (.v 27)])))
    (.nd (.pr (.len [ki64, ki64]) [(.v 18)])
    (.nd (.pr (.len [ki64, ki64]) [(.v 34)])
    (.ite (.v 29)
     (.out 0 [(.v 30), (.v 31), (.v 32), (.v 33), (.v 34)])
     (.out 0 [(.v 30), (.v 31), (.v 16), (.v 17), (.v 18)]))))))))
   (.nd (.pr (.len [ki64, ki64]) [(.v 25)])
   (.nd (.pr (.bin .sub .i64) [(.v 13), (.k (.i 1))])
   (.out 0 [(.v 27), (.v 21), (.v 22), (.v 23), (.v 24), (.v 25)]))))
   (.out 2 [(.v 14), (.v 15), (.v 16), (.v 17), (.v 18)])))))
(.nd (.pr (.len [ki64, ki64]) [(.v 17)])
(.nd (.call 2 [(.v 0), (.v 13), (.v 14), (.k (.i 14))] [(.sl [ku8]), ki64, ki64, ki64] [ki64, ki64, ki64])
(.blk 4 [ki64, ki64, ki64, ki64, (.sl [ki64, ki64])]
 (.nd (.pr (.cmp .eql .i64) [(.v 19), (.k (.i 0))])
 (.ite (.v 22)
  (.nd (.call 10 [(.v 0), (.v 20), (.v 21)] [(.sl [ku8]), ki64, ki64] [ki64, ki64, ki64])
  (.nd (.pr (.bin .add .i64) [(.v 15), (.k (.i 1))])
  (.nd (.pr (.mk [ki64] 2) [(.v 23), (.v 26)])
  (.nd (.call 2 [(.v 0), (.v 24), (.v 25), (.k (.i 2))] [(.sl [ku8]), ki64, ki64, ki64] [ki64, ki64, ki64])
  (.nd (.pr (.ixc .i64) [(.v 28), (.k (.i 2))])
  (.nd (.pr (.get [ki64] 0) [(.v 27), (.v 31)])
  (.out 0 [(.v 29), (.v 30), (.v 32), (.v 16), (.v 17)])))))))
  (.nd (.pr (.cmp .eql .i64) [(.v 19), (.k (.i 1))])
  (.ite (.v 23)
   (.nd (.call 10 [(.v 0), (.v 20), (.v 21)] [(.sl [ku8]), ki64, ki64] [ki64, ki64, ki64])
   (.nd (.pr (.bin .add .i64) [(.v 16), (.k (.i 1))])
   (.nd (.pr (.mk [ki64] 2) [(.v 24), (.v 27)])
   (.nd (.call 2 [(.v 0), (.v 25), (.v 26), (.k (.i 2))] [(.sl [ku8]), ki64, ki64, ki64] [ki64, ki64, ki64])
   (.nd (.pr (.ixc .i64) [(.v 29), (.k (.i 2))])
   (.nd (.pr (.get [ki64] 0) [(.v 28), (.v 32)])
   (.out 0 [(.v 30), (.v 31), (.v 15), (.v 33), (.v 17)])))))))
   (.nd (.pr (.cmp .eql .i64) [(.v 19), (.k (.i 2))])
   (.ite (.v 24)
    (.nd (.call 2 [(.v 0), (.v 20), (.v 21), (.v 18)] [(.sl [ku8]), ki64, ki64, ki64] [ki64, ki64, ki64])
    (.nd (.call 2 [(.v 0), (.v 26), (.v 27), (.k (.i 9))] [(.sl [ku8]), ki64, ki64, ki64] [ki64, ki64, ki64])
    (.nd (.call 2 [(.v 0), (.v 29), (.v 30), (.k (.i 3))] [(.sl [ku8]), ki64, ki64, ki64] [ki64, ki64, ki64])
    (.nd (.pr (.ixc .i64) [(.v 25), (.v 18)])
    (.nd (.pr (.set [ki64, ki64] 0) [(.v 17), (.v 34), (.v 28)])
    (.nd (.pr (.set [ki64, ki64] 1) [(.v 35), (.v 34), (.v 31)])
    (.out 0 [(.v 32), (.v 33), (.v 15), (.v 16), (.v 36)])))))))
    (.nd (.pr (.cmp .eql .i64) [(.v 19), (.k (.i 3))])
    (.ite (.v 25)
     (.blk 5 [ki64, ki64, (.sl [ki64, ki64])]
      (.loop [ki64, ki64, ki64, (.sl [ki64, ki64])] [(.k (.i 0)), (.v 20), (.v 21), (.k (.l []))]
       (.nd (.pr (.len [ki64, ki64]) [(.v 29)])
       (.nd (.call 2 [(.v 0), (.v 27), (.v 28), (.k (.i 2))] [(.sl [ku8]), ki64, ki64, ki64] [ki64, ki64, ki64])
       (.nd (.pr (.bin .add .i64) [(.k (.i 32)), (.v 31)])
       (.nd (.pr (.cmp .lss .i64) [(.v 26), (.v 34)])
       (.ite (.v 35)
        (.blk 6 [(.sl [ki64, ki64])]
         (.nd (.pr (.mk [ki64, ki64] 1) [(.v 26), (.k (.i 0))])
         (.nd (.pr (.app [ki64, ki64] 16) [(.v 29), (.v 36)])
         (.nd (.pr (.len [ki64, ki64]) [(.v 37)])
         (.out 0 [(.v 37)]))))
        (.nd (.pr (.len [ki64, ki64]) [(.v 36)])
        (.nd (.pr (.bin .add .i64) [(.v 26), (.k (.i 1))])
        (.out 0 [(.v 38), (.v 32), (.v 33), (.v 36)]))))
        (.out 5 [(.v 32), (.v 33), (.v 29)])))))))
     (.nd (.pr (.len [ki64, ki64]) [(.v 28)])
     (.out 0 [(.v 26), (.v 27), (.k (.i 0)), (.k (.i 0)), (.v 28)])))
     (.nd (.pr (.cmp .eql .i64) [(.v 19), (.k (.i 4))])
     (.ite (.v 26)
      (.nd (.call 2 [(.v 0), (.v 20), (.v 21), (.k (.i 2))] [(.sl [ku8]), ki64, ki64, ki64] [ki64, ki64, ki64])
      (.nd (.pr (.bin .sub .i64) [(.k (.i 1000000)), (.v 27)])
      (.nd (.call 2 [(.v 0), (.v 28), (.v 29), (.k (.i 2))] [(.sl [ku8]), ki64, ki64, ki64] [ki64, ki64, ki64])
      (.nd (.pr (.mk [ki64, ki64] 1) [(.k (.i 1000000)), (.v 31)])
      (.out 0 [(.v 32), (.v 33), (.v 30), (.k (.i 1000000)), (.v 34)])))))
      (.out 0 [(.v 20), (.v 21), (.v 15), (.v 16), (.v 17)])))))))))))
(.nd (.pr (.len [ki64, ki64]) [(.v 26)])
(.out 1 [(.v 22), (.v 23), (.v 24), (.v 25), (.v 26)])))))))))))
def e11 : Fe := ⟨⟨120, [(.sl [ku8]), ki64, ki64], [(.ptr 0 0)], [(0, (.cells [(.dat (.sl [ku8]) (.v 0)), (.dat ki64 (.v 1)), (.dat ki64 (.v 2))]))], [ki64, ki64, ki64, ki64, (.sl [ki64, ki64])], [(.agg [(.dat ki64 (.v 5)), (.dat ki64 (.v 6)), (.sl 2 (.k (.i 0)) (.v 8) 2)])], [(0, (.cells [(.dat (.sl [ku8]) (.v 0)), (.dat ki64 (.v 3)), (.dat ki64 (.v 4))])), (1, (.cells [(.dat ki64 (.v 5)), (.dat ki64 (.v 6)), (.sl 2 (.k (.i 0)) (.v 8) 2)])), (2, (.arr [ki64, ki64] (.v 7) (.v 8)))], 3⟩,
 ⟨[(61, ⟨[ki64, ki64, ki64, ki64, (.sl [ki64, ki64])], [(2, (.ptr 1 0)), (3, (.ptr 2 0))], [(0, (.cells [(.dat (.sl [ku8]) (.v 0)), (.dat ki64 (.v 22)), (.dat ki64 (.v 23))])), (1, (.cells [(.dat ki64 (.k (.i 0))), (.dat ki64 (.k (.i 0))), .nilS])), (2, (.cells [(.dat ki64 (.v 24)), (.dat ki64 (.v 25)), (.sl 3 (.k (.i 0)) (.v 27) 2)])), (3, (.arr [ki64, ki64] (.v 26) (.v 27)))], 4⟩), (251893, ⟨[ki64, ki64, (.sl [ki64, ki64])], [(2, (.ptr 1 0)), (3, (.ptr 2 0))], [(0, (.cells [(.dat (.sl [ku8]) (.v 0)), (.dat ki64 (.v 26)), (.dat ki64 (.v 27))])), (1, (.cells [(.dat ki64 (.k (.i 0))), (.dat ki64 (.k (.i 0))), .nilS])), (2, (.cells [(.dat ki64 (.v 15)), (.dat ki64 (.v 16)), (.sl 3 (.k (.i 0)) (.v 29) 2)])), (3, (.arr [ki64, ki64] (.v 28) (.v 29)))], 4⟩), (503786, ⟨[ki64, ki64, ki64, (.sl [ki64, ki64])], [(0, (.ptr 0 0)), (2, (.ptr 1 0)), (3, (.ptr 2 0)), (8, (.dat ki64 (.v 26)))], [(0, (.cells [(.dat (.sl [ku8]) (.v 0)), (.dat ki64 (.v 27)), (.dat ki64 (.v 28))])), (1, (.cells [(.dat ki64 (.k (.i 0))), (.dat ki64 (.k (.i 0))), .nilS])), (2, (.cells [(.dat ki64 (.v 15)), (.dat ki64 (.v 16)), (.sl 3 (.k (.i 0)) (.v 30) 2)])), (3, (.arr [ki64, ki64] (.v 29) (.v 30)))], 4⟩), (4030290, ⟨[(.sl [ki64, ki64])], [(0, (.ptr 0 0)), (2, (.ptr 1 0)), (3, (.ptr 2 0)), (8, (.dat ki64 (.v 26)))], [(0, (.cells [(.dat (.sl [ku8]) (.v 0)), (.dat ki64 (.v 32)), (.dat ki64 (.v 33))])), (1, (.cells [(.dat ki64 (.k (.i 0))), (.dat ki64 (.k (.i 0))), .nilS])), (2, (.cells [(.dat ki64 (.v 15)), (.dat ki64 (.v 16)), (.sl 3 (.k (.i 0)) (.v 37) 2)])), (3, (.arr [ki64, ki64] (.v 36) (.v 37)))], 4⟩), (29, ⟨[ki64, ki64, ki64, ki64, (.sl [ki64, ki64])], [(0, (.ptr 0 0)), (2, (.ptr 1 0)), (3, (.ptr 2 0))], [(0, (.cells [(.dat (.sl [ku8]) (.v 0)), (.dat ki64 (.v 13)), (.dat ki64 (.v 14))])), (1, (.cells [(.dat ki64 (.k (.i 0))), (.dat ki64 (.k (.i 0))), .nilS])), (2, (.cells [(.dat ki64 (.v 15)), (.dat ki64 (.v 16)), (.sl 3 (.k (.i 0)) (.v 18) 2)])), (3, (.arr [ki64, ki64] (.v 17) (.v 18)))], 4⟩), (58, ⟨[ki64, ki64, ki64, ki64, ki64, (.sl [ki64, ki64])], [(0, (.ptr 0 0)), (2, (.ptr 1 0)), (3, (.ptr 2 0)), (5, (.dat ki64 (.v 13)))], [(0, (.cells [(.dat (.sl [ku8]) (.v 0)), (.dat ki64 (.v 14)), (.dat ki64 (.v 15))])), (1, (.cells [(.dat ki64 (.k (.i 0))), (.dat ki64 (.k (.i 0))), .nilS])), (2, (.cells [(.dat ki64 (.v 16)), (.dat ki64 (.v 17)), (.sl 3 (.k (.i 0)) (.v 19) 2)])), (3, (.arr [ki64, ki64] (.v 18) (.v 19)))], 4⟩), (466, ⟨[ki64, ki64, ki64, ki64, (.sl [ki64, ki64])], [(0, (.ptr 0 0)), (2, (.ptr 1 0)), (3, (.ptr 2 0)), (5, (.dat ki64 (.v 13)))], [(0, (.cells [(.dat (.sl [ku8]) (.v 0)), (.dat ki64 (.v 21)), (.dat ki64 (.v 22))])), (1, (.cells [(.dat ki64 (.k (.i 0))), (.dat ki64 (.k (.i 0))), .nilS])), (2, (.cells [(.dat ki64 (.v 23)), (.dat ki64 (.v 24)), (.sl 3 (.k (.i 0)) (.v 26) 2)])), (3, (.arr [ki64, ki64] (.v 25) (.v 26)))], 4⟩), (1865, ⟨[kb, ki64, ki64, ki64, ki64, (.sl [ki64, ki64])], [(0, (.ptr 0 0)), (2, (.ptr 1 0)), (3, (.ptr 2 0)), (5, (.dat ki64 (.v 13))), (6, (.ptr 3 0)), (7, (.dat kb (.v 29)))], [(0, (.cells [(.dat (.sl [ku8]) (.v 0)), (.dat ki64 (.v 30)), (.dat ki64 (.v 31))])), (1, (.cells [(.dat ki64 (.k (.i 0))), (.dat ki64 (.k (.i 0))), .nilS])), (2, (.cells [(.dat ki64 (.v 16)), (.dat ki64 (.v 17)), (.sl 4 (.k (.i 0)) (.v 35) 2)])), (3, (.cells [(.dat ki64 (.v 32)), (.dat ki64 (.v 33)), (.sl 5 (.k (.i 0)) (.v 36) 2)])), (4, (.arr [ki64, ki64] (.v 18) (.v 35))), (5, (.arr [ki64, ki64] (.v 34) (.v 36)))], 6⟩)], [(7870, [3, 0]), (1966, [2, 0]), (490, [2, 0]), (1864, [0])]⟩,
 [(2, (.ptr 1 0))], some t11, fun _ => none⟩
/-- loop.example/g00709/spec.DrawRingTurn -/
def t12 : Tr :=
(.nd (.call 1 [(.v 0)] [(.sl [ku8])] [ki64])
(.nd (.call 11 [(.v 0), (.k (.i 0)), (.v 1)] [(.sl [ku8]), ki64, ki64] [ki64, ki64, ki64, ki64, (.sl [ki64, ki64])])
(.nd (.pr (.len [ki64, ki64]) [(.v 6)])
(.nd (.call 2 [(.v 0), (.v 2), (.v 3), (.k (.i 7))] [(.sl [ku8]), ki64, ki64, ki64] [ki64, ki64, ki64])
(.nd (.call 10 [(.v 0), (.v 9), (.v 10)] [(.sl [ku8]), ki64, ki64] [ki64, ki64, ki64])
(.nd (.pr (.mk [ki64] 2) [(.v 8), (.v 11)])
(.nd (.call 2 [(.v 0), (.v 12), (.v 13), (.k (.i 2))] [(.sl [ku8]), ki64, ki64, ki64] [ki64, ki64, ki64])
(.nd (.pr (.ixc .i64) [(.v 15), (.k (.i 2))])
(.nd (.pr (.get [ki64] 0) [(.v 14), (.v 18)])
(.out 1 [(.v 19), (.v 4), (.v 5), (.v 6)]))))))))))
def e12 : Fe := ⟨⟨41, [(.sl [ku8])], [(.dat (.sl [ku8]) (.v 0))], [], [ki64, ki64, ki64, (.sl [ki64, ki64])], [(.agg [(.dat ki64 (.v 2)), (.dat ki64 (.v 3)), (.sl 1 (.k (.i 0)) (.v 5) 2)]), (.dat ki64 (.v 1))], [(0, (.cells [(.dat ki64 (.v 2)), (.dat ki64 (.v 3)), (.sl 1 (.k (.i 0)) (.v 5) 2)])), (1, (.arr [ki64, ki64] (.v 4) (.v 5)))], 2⟩,
 ⟨[], [(14, [0, 1])]⟩,
 [(2, (.ptr 0 0)), (3, (.dat ki64 (.v 1)))], some t12, fun _ => none⟩
/-- loop.example/g00709/impl.within -/
def t13 : Tr :=
(.seq [kb]
 (.nd (.pr (.cmp .geq .i64) [(.v 0), (.v 1)])
 (.ite (.v 3)
  (.nd (.pr (.cmp .leq .i64) [(.v 0), (.v 2)])
  (.out 0 [(.v 4)]))
  (.out 0 [(.k (.b false))])))
(.out 1 [(.v 3)]))
def e13 : Fe := ⟨⟨104, [ki64, ki64, ki64], [(.dat ki64 (.v 0)), (.dat ki64 (.v 1)), (.dat ki64 (.v 2))], [], [kb], [(.dat kb (.v 3))], [], 0⟩,
 ⟨[(3, ⟨[kb], [(6, (.dat kb (.v 3)))], [], 0⟩)], []⟩,
 [(6, (.dat kb (.v 3)))], some t13, fun _ => none⟩
/-- loop.example/g00709/impl.isRing -/
def t14 : Tr :=
(.nd (.pr (.len [ki64, ki64]) [(.v 2)])
(.seq [kb]
 (.nd (.call 13 [(.v 3), (.k (.i 1)), (.k (.i 32))] [ki64, ki64, ki64] [kb])
 (.nd (.pr .not [(.v 4)])
 (.ite (.v 5)
  (.out 0 [(.k (.b true))])
  (.nd (.call 13 [(.v 1), (.k (.i 0)), (.k (.i 1000000))] [ki64, ki64, ki64] [kb])
  (.nd (.pr .not [(.v 6)])
  (.ite (.v 7)
   (.out 0 [(.k (.b true))])
   (.nd (.pr (.bin .sub .i64) [(.v 1), (.v 3)])
   (.nd (.pr (.mx .i64) [(.k (.i 0)), (.v 8)])
   (.nd (.call 13 [(.v 0), (.v 9), (.v 1)] [ki64, ki64, ki64] [kb])
   (.nd (.pr .not [(.v 10)])
   (.out 0 [(.v 11)])))))))))))
(.ite (.v 4)
 (.out 1 [(.k (.b false))])
 (.blk 2 []
  (.loop [ki64] [(.v 0)]
   (.nd (.pr (.bin .add .i64) [(.v 0), (.v 3)])
   (.nd (.pr (.cmp .lss .i64) [(.v 5), (.v 6)])
   (.ite (.v 7)
    (.blk 3 []
     (.nd (.pr (.bin .rem .i64) [(.v 5), (.v 3)])
     (.nd (.pr (.len [ki64, ki64]) [(.v 2)])
     (.nd (.pr (.ixc .i64) [(.v 8), (.v 9)])
     (.nd (.pr (.get [ki64, ki64] 0) [(.v 2), (.v 10)])
     (.nd (.pr (.get [ki64, ki64] 1) [(.v 2), (.v 10)])
     (.seq [kb]
      (.nd (.pr (.cmp .lss .i64) [(.v 5), (.v 1)])
      (.ite (.v 13)
       (.nd (.pr (.bin .add .i64) [(.v 5), (.k (.i 1))])
       (.nd (.pr (.cmp .neq .i64) [(.v 11), (.v 14)])
       (.ite (.v 15)
        (.out 0 [(.k (.b true))])
        (.nd (.call 13 [(.v 12), (.k (.i 0)), (.k (.i 255))] [ki64, ki64, ki64] [kb])
        (.nd (.pr .not [(.v 16)])
        (.ite (.v 17)
         (.out 0 [(.k (.b true))])
         (.nd (.pr (.cmp .geq .i64) [(.v 5), (.v 1)])
         (.ite (.v 18)
          (.nd (.pr (.cmp .eql .i64) [(.v 11), (.v 5)])
          (.nd (.pr .and [(.k (.b true)), (.v 19)])
          (.nd (.pr (.cmp .eql .i64) [(.v 12), (.k (.i 0))])
          (.nd (.pr .and [(.v 20), (.v 21)])
          (.nd (.pr .not [(.v 22)])
          (.out 0 [(.v 23)]))))))
          (.out 0 [(.k (.b false))])))))))))
       (.nd (.pr (.cmp .geq .i64) [(.v 5), (.v 1)])
       (.ite (.v 14)
        (.nd (.pr (.cmp .eql .i64) [(.v 11), (.v 5)])
        (.nd (.pr .and [(.k (.b true)), (.v 15)])
        (.nd (.pr (.cmp .eql .i64) [(.v 12), (.k (.i 0))])
        (.nd (.pr .and [(.v 16), (.v 17)])
        (.nd (.pr .not [(.v 18)])
        (.out 0 [(.v 19)]))))))
        (.out 0 [(.k (.b false))])))))
     (.ite (.v 13)
      (.out 1 [(.k (.b false))])
      (.out 0 []))))))))
    (.nd (.pr (.bin .add .i64) [(.v 5), (.k (.i 1))])
    (.out 0 [(.v 8)])))
    (.out 2 [])))))
 (.out 1 [(.k (.b true))])))))
def e14 : Fe := ⟨⟨109, [ki64, ki64, (.sl [ki64, ki64])], [(.agg [(.dat ki64 (.v 0)), (.dat ki64 (.v 1)), (.lz [ki64, ki64] (.v 2))])], [], [kb], [(.dat kb (.v 3))], [], 0⟩,
 ⟨[(61, ⟨[], [], [], 0⟩), (122, ⟨[ki64], [(1, (.ptr 0 0)), (3, (.dat ki64 (.v 3))), (4, (.dat ki64 (.v 5)))], [(0, (.cells [(.dat ki64 (.v 0)), (.dat ki64 (.v 1)), (.lz [ki64, ki64] (.v 2))]))], 1⟩), (978, ⟨[], [(1, (.ptr 0 0)), (3, (.dat ki64 (.v 3))), (4, (.dat ki64 (.v 5)))], [(0, (.cells [(.dat ki64 (.v 0)), (.dat ki64 (.v 1)), (.lz [ki64, ki64] (.v 2))]))], 1⟩), (3913, ⟨[kb], [(1, (.ptr 0 0)), (3, (.dat ki64 (.v 3))), (4, (.dat ki64 (.v 5))), (76, (.dat kb (.v 13)))], [(0, (.cells [(.dat ki64 (.v 0)), (.dat ki64 (.v 1)), (.lz [ki64, ki64] (.v 2))]))], 1⟩), (14, ⟨[kb], [(1, (.ptr 0 0)), (3, (.dat ki64 (.v 3))), (30, (.dat kb (.v 4)))], [(0, (.cells [(.dat ki64 (.v 0)), (.dat ki64 (.v 1)), (.lz [ki64, ki64] (.v 2))]))], 1⟩)], []⟩,
 [(2, (.dat kb (.v 3)))], some t14, fun _ => none⟩
/-- loop.example/g00709/impl.RingTurn -/
def t15 : Tr :=
(.nd (.pr (.len [ki64, ki64]) [(.v 2)])
(.seq [kb]
 (.nd (.call 14 [(.v 0), (.v 1), (.v 2)] [ki64, ki64, (.sl [ki64, ki64])] [kb])
 (.nd (.pr .not [(.v 5)])
 (.ite (.v 6)
  (.out 0 [(.k (.b true))])
  (.nd (.pr (.bin .sub .i64) [(.v 4), (.k (.i 1))])
  (.nd (.call 13 [(.v 3), (.k (.i 0)), (.v 7)] [ki64, ki64, ki64] [kb])
  (.nd (.pr .not [(.v 8)])
  (.out 0 [(.v 9)])))))))
(.ite (.v 5)
 (.out 1 [(.k (.i (-1)))])
 (.blk 2 []
  (.loop [ki64] [(.v 0)]
   (.nd (.pr (.cmp .lss .i64) [(.v 6), (.v 1)])
   (.ite (.v 7)
    (.blk 3 []
     (.nd (.pr (.bin .rem .i64) [(.v 6), (.v 4)])
     (.nd (.pr (.cmp .eql .i64) [(.v 8), (.v 3)])
     (.ite (.v 9)
      (.out 1 [(.k (.i 1))])
      (.out 0 []))))
    (.nd (.pr (.bin .add .i64) [(.v 6), (.k (.i 1))])
    (.out 0 [(.v 8)])))
    (.out 2 []))))
 (.out 1 [(.k (.i 0))])))))
def e15 : Fe := ⟨⟨42, [ki64, ki64, (.sl [ki64, ki64]), ki64], [(.agg [(.dat ki64 (.v 0)), (.dat ki64 (.v 1)), (.lz [ki64, ki64] (.v 2))]), (.dat ki64 (.v 3))], [], [ki64], [(.dat ki64 (.v 4))], [], 0⟩,
 ⟨[(61, ⟨[], [], [], 0⟩), (122, ⟨[ki64], [(1, (.dat ki64 (.v 3))), (2, (.ptr 0 0)), (5, (.dat ki64 (.v 4))), (6, (.dat ki64 (.v 6)))], [(0, (.cells [(.dat ki64 (.v 0)), (.dat ki64 (.v 1)), (.lz [ki64, ki64] (.v 2))]))], 1⟩), (978, ⟨[], [(1, (.dat ki64 (.v 3))), (2, (.ptr 0 0)), (5, (.dat ki64 (.v 4))), (6, (.dat ki64 (.v 6)))], [(0, (.cells [(.dat ki64 (.v 0)), (.dat ki64 (.v 1)), (.lz [ki64, ki64] (.v 2))]))], 1⟩), (14, ⟨[kb], [(1, (.dat ki64 (.v 3))), (2, (.ptr 0 0)), (5, (.dat ki64 (.v 4))), (19, (.dat kb (.v 5)))], [(0, (.cells [(.dat ki64 (.v 0)), (.dat ki64 (.v 1)), (.lz [ki64, ki64] (.v 2))]))], 1⟩)], []⟩,
 [(4, (.dat ki64 (.v 4)))], some t15, fun _ => none⟩
/-- loop.example/g00709/spec.RingTurn -/
def t16 : Tr :=
(.seq [kb]
 (.nd (.call 5 [(.v 0), (.v 1), (.v 2)] [ki64, ki64, (.sl [ki64, ki64])] [kb])
 (.nd (.pr .not [(.v 4)])
 (.ite (.v 5)
  (.out 0 [(.k (.b true))])
  (.nd (.pr (.cmp .lss .i64) [(.v 3), (.k (.i 0))])
  (.ite (.v 6)
   (.out 0 [(.k (.b true))])
   (.nd (.pr (.len [ki64, ki64]) [(.v 2)])
   (.nd (.pr (.cmp .geq .i64) [(.v 3), (.v 7)])
   (.out 0 [(.v 8)]))))))))
(.ite (.v 4)
 (.out 1 [(.k (.i (-1)))])
 (.blk 2 []
  (.loop [ki64] [(.v 0)]
   (.nd (.pr (.cmp .lss .i64) [(.v 5), (.v 1)])
   (.ite (.v 6)
    (.blk 3 []
     (.nd (.pr (.len [ki64, ki64]) [(.v 2)])
     (.nd (.pr (.bin .rem .i64) [(.v 5), (.v 7)])
     (.nd (.pr (.cmp .eql .i64) [(.v 8), (.v 3)])
     (.ite (.v 9)
      (.out 1 [(.k (.i 1))])
      (.out 0 [])))))
    (.nd (.pr (.bin .add .i64) [(.v 5), (.k (.i 1))])
    (.out 0 [(.v 7)])))
    (.out 2 []))))
 (.out 1 [(.k (.i 0))]))))
def e16 : Fe := ⟨⟨43, [ki64, ki64, (.sl [ki64, ki64]), ki64], [(.agg [(.dat ki64 (.v 0)), (.dat ki64 (.v 1)), (.lz [ki64, ki64] (.v 2))]), (.dat ki64 (.v 3))], [], [ki64], [(.dat ki64 (.v 4))], [], 0⟩,
 ⟨[(29, ⟨[], [], [], 0⟩), (58, ⟨[ki64], [(1, (.dat ki64 (.v 3))), (2, (.ptr 0 0)), (5, (.dat ki64 (.v 5)))], [(0, (.cells [(.dat ki64 (.v 0)), (.dat ki64 (.v 1)), (.lz [ki64, ki64] (.v 2))]))], 1⟩), (466, ⟨[], [(1, (.dat ki64 (.v 3))), (2, (.ptr 0 0)), (5, (.dat ki64 (.v 5)))], [(0, (.cells [(.dat ki64 (.v 0)), (.dat ki64 (.v 1)), (.lz [ki64, ki64] (.v 2))]))], 1⟩), (6, ⟨[kb], [(1, (.dat ki64 (.v 3))), (2, (.ptr 0 0)), (19, (.dat kb (.v 4)))], [(0, (.cells [(.dat ki64 (.v 0)), (.dat ki64 (.v 1)), (.lz [ki64, ki64] (.v 2))]))], 1⟩)], []⟩,
 [(4, (.dat ki64 (.v 4)))], some t16, fun _ => none⟩
/-- loop.example/g00709/impl.RingList -/
def t17 : Tr :=
(.nd (.call 14 [(.v 0), (.v 1), (.v 2)] [ki64, ki64, (.sl [ki64, ki64])] [kb])
(.nd (.pr .not [(.v 3)])
(.ite (.v 4)
 (.out 1 [(.k (.l []))])
 (.blk 2 [(.sl [ki64])]
  (.loop [ki64, (.sl [ki64])] [(.v 0), (.k (.l []))]
   (.nd (.pr (.len [ki64]) [(.v 6)])
   (.nd (.pr (.cmp .lss .i64) [(.v 5), (.v 1)])
   (.ite (.v 8)
    (.blk 3 [(.sl [ki64])]
     (.nd (.pr (.len [ki64, ki64]) [(.v 2)])
     (.nd (.pr (.bin .rem .i64) [(.v 5), (.v 9)])
     (.nd (.pr (.len [ki64, ki64]) [(.v 2)])
     (.nd (.pr (.ixc .i64) [(.v 10), (.v 11)])
     (.nd (.pr (.get [ki64, ki64] 1) [(.v 2), (.v 12)])
     (.nd (.pr (.mk [ki64] 1) [(.v 13)])
     (.nd (.pr (.app [ki64] 8) [(.v 6), (.v 14)])
     (.nd (.pr (.len [ki64]) [(.v 15)])
     (.out 0 [(.v 15)])))))))))
    (.nd (.pr (.len [ki64]) [(.v 9)])
    (.nd (.pr (.bin .add .i64) [(.v 5), (.k (.i 1))])
    (.out 0 [(.v 11), (.v 9)]))))
    (.out 2 [(.v 6)])))))
 (.nd (.pr (.len [ki64]) [(.v 5)])
 (.out 1 [(.v 5)]))))))
def e17 : Fe := ⟨⟨35, [ki64, ki64, (.sl [ki64, ki64])], [(.agg [(.dat ki64 (.v 0)), (.dat ki64 (.v 1)), (.lz [ki64, ki64] (.v 2))])], [], [(.sl [ki64])], [(.sl 0 (.k (.i 0)) (.v 4) 1)], [(0, (.arr [ki64] (.v 3) (.v 4)))], 1⟩,
 ⟨[(61, ⟨[(.sl [ki64])], [(3, (.sl 0 (.k (.i 0)) (.v 6) 1))], [(0, (.arr [ki64] (.v 5) (.v 6)))], 1⟩), (122, ⟨[ki64, (.sl [ki64])], [(1, (.ptr 0 0)), (3, (.sl 1 (.k (.i 0)) (.v 7) 1)), (4, (.dat ki64 (.v 5)))], [(0, (.cells [(.dat ki64 (.v 0)), (.dat ki64 (.v 1)), (.lz [ki64, ki64] (.v 2))])), (1, (.arr [ki64] (.v 6) (.v 7)))], 2⟩), (978, ⟨[(.sl [ki64])], [(1, (.ptr 0 0)), (3, (.sl 1 (.k (.i 0)) (.v 10) 1)), (4, (.dat ki64 (.v 5)))], [(0, (.cells [(.dat ki64 (.v 0)), (.dat ki64 (.v 1)), (.lz [ki64, ki64] (.v 2))])), (1, (.arr [ki64] (.v 9) (.v 10)))], 2⟩)], [(1956, [1])]⟩,
 [(2, (.sl 0 (.k (.i 0)) (.v 4) 1))], some t17, fun _ => none⟩
/-- loop.example/g00709/spec.RingList -/
def t18 : Tr :=
(.blk 2 [(.sl [ki64])]
 (.loop [ki64, (.sl [ki64])] [(.v 0), (.k (.l []))]
  (.nd (.pr (.len [ki64]) [(.v 4)])
  (.seq [kb]
   (.nd (.call 5 [(.v 0), (.v 1), (.v 2)] [ki64, ki64, (.sl [ki64, ki64])] [kb])
   (.ite (.v 6)
    (.nd (.pr (.cmp .lss .i64) [(.v 3), (.v 1)])
    (.out 0 [(.v 7)]))
    (.out 0 [(.k (.b false))])))
  (.nd (.pr (.len [ki64]) [(.v 4)])
  (.ite (.v 6)
   (.blk 3 [(.sl [ki64])]
    (.nd (.pr (.len [ki64, ki64]) [(.v 2)])
    (.nd (.pr (.bin .rem .i64) [(.v 3), (.v 8)])
    (.nd (.pr (.len [ki64, ki64]) [(.v 2)])
    (.nd (.pr (.ixc .i64) [(.v 9), (.v 10)])
    (.nd (.pr (.get [ki64, ki64] 1) [(.v 2), (.v 11)])
    (.nd (.pr (.mk [ki64] 1) [(.v 12)])
    (.nd (.pr (.app [ki64] 8) [(.v 4), (.v 13)])
    (.nd (.pr (.len [ki64]) [(.v 14)])
    (.out 0 [(.v 14)])))))))))
   (.nd (.pr (.len [ki64]) [(.v 8)])
   (.nd (.pr (.bin .add .i64) [(.v 3), (.k (.i 1))])
   (.out 0 [(.v 10), (.v 8)]))))
   (.out 2 [(.v 4)]))))))
(.nd (.pr (.len [ki64]) [(.v 3)])
(.out 1 [(.v 3)])))
def e18 : Fe := ⟨⟨44, [ki64, ki64, (.sl [ki64, ki64])], [(.agg [(.dat ki64 (.v 0)), (.dat ki64 (.v 1)), (.lz [ki64, ki64] (.v 2))])], [], [(.sl [ki64])], [(.sl 0 (.k (.i 0)) (.v 4) 1)], [(0, (.arr [ki64] (.v 3) (.v 4)))], 1⟩,
 ⟨[(29, ⟨[(.sl [ki64])], [(3, (.sl 0 (.k (.i 0)) (.v 4) 1))], [(0, (.arr [ki64] (.v 3) (.v 4)))], 1⟩), (58, ⟨[ki64, (.sl [ki64])], [(1, (.ptr 0 0)), (3, (.sl 1 (.k (.i 0)) (.v 5) 1)), (4, (.dat ki64 (.v 3)))], [(0, (.cells [(.dat ki64 (.v 0)), (.dat ki64 (.v 1)), (.lz [ki64, ki64] (.v 2))])), (1, (.arr [ki64] (.v 4) (.v 5)))], 2⟩), (466, ⟨[(.sl [ki64])], [(1, (.ptr 0 0)), (3, (.sl 1 (.k (.i 0)) (.v 9) 1)), (4, (.dat ki64 (.v 3)))], [(0, (.cells [(.dat ki64 (.v 0)), (.dat ki64 (.v 1)), (.lz [ki64, ki64] (.v 2))])), (1, (.arr [ki64] (.v 8) (.v 9)))], 2⟩), (232, ⟨[kb], [(1, (.ptr 0 0)), (3, (.sl 1 (.k (.i 0)) (.v 7) 1)), (4, (.dat ki64 (.v 3))), (15, (.dat kb (.v 6)))], [(0, (.cells [(.dat ki64 (.v 0)), (.dat ki64 (.v 1)), (.lz [ki64, ki64] (.v 2))])), (1, (.arr [ki64] (.v 4) (.v 7)))], 2⟩)], [(932, [1])]⟩,
 [(2, (.sl 0 (.k (.i 0)) (.v 4) 1))], some t18, fun _ => none⟩
/-- loop.example/g00709/laws.same -/
def t19 : Tr :=
(.nd (.pr (.len [ki64]) [(.v 0)])
(.nd (.pr (.len [ki64]) [(.v 1)])
(.nd (.pr (.cmp .neq .i64) [(.v 2), (.v 3)])
(.ite (.v 4)
 (.out 1 [(.k (.b false))])
 (.blk 2 []
  (.loop [ki64] [(.k (.i 0))]
   (.nd (.pr (.len [ki64]) [(.v 0)])
   (.nd (.pr (.cmp .lss .i64) [(.v 5), (.v 6)])
   (.ite (.v 7)
    (.blk 3 []
     (.nd (.pr (.len [ki64]) [(.v 0)])
     (.nd (.pr (.ixc .i64) [(.v 5), (.v 8)])
     (.nd (.pr (.get [ki64] 0) [(.v 0), (.v 9)])
     (.nd (.pr (.len [ki64]) [(.v 1)])
     (.nd (.pr (.ixc .i64) [(.v 5), (.v 11)])
     (.nd (.pr (.get [ki64] 0) [(.v 1), (.v 12)])
     (.nd (.pr (.cmp .neq .i64) [(.v 10), (.v 13)])
     (.ite (.v 14)
      (.out 1 [(.k (.b false))])
      (.out 0 [])))))))))
    (.nd (.pr (.bin .add .i64) [(.v 5), (.k (.i 1))])
    (.out 0 [(.v 8)])))
    (.out 2 [])))))
 (.out 1 [(.k (.b true))]))))))
def e19 : Fe := ⟨⟨34, [(.sl [ki64]), (.sl [ki64])], [(.lz [ki64] (.v 0)), (.lz [ki64] (.v 1))], [], [kb], [(.dat kb (.v 2))], [], 0⟩,
 ⟨[(29, ⟨[], [], [], 0⟩), (58, ⟨[ki64], [(0, (.lz [ki64] (.v 0))), (1, (.lz [ki64] (.v 1))), (5, (.dat ki64 (.v 5)))], [], 0⟩), (466, ⟨[], [(0, (.lz [ki64] (.v 0))), (1, (.lz [ki64] (.v 1))), (5, (.dat ki64 (.v 5)))], [], 0⟩)], []⟩,
 [(4, (.dat kb (.v 2)))], some t19, fun _ => none⟩
/-- slices.Clone[[]loop.example/g00709/impl.Slot,loop.example/g00709/impl.Slot] -/
def t20 : Tr :=
(.both (.v 0)
 (.out 1 [(.k (.l []))])
 (.nd (.pr (.app [ki64, ki64] 16) [(.k (.l [])), (.v 0)])
 (.nd (.pr (.len [ki64, ki64]) [(.v 1)])
 (.out 1 [(.v 1)]))))
def e20 : Fe := ⟨⟨110, [(.sl [ki64, ki64])], [(.lz [ki64, ki64] (.v 0))], [], [(.sl [ki64, ki64])], [(.sl 0 (.k (.i 0)) (.v 2) 2)], [(0, (.arr [ki64, ki64] (.v 1) (.v 2)))], 1⟩,
 ⟨[], []⟩,
 [(2, (.sl 0 (.k (.i 0)) (.v 2) 2))], some t20, fun _ => none⟩
/-- loop.example/g00709/impl.RingPop -/
def t21 : Tr :=
(.seq [kb]
 (.nd (.call 14 [(.v 0), (.v 1), (.v 2)] [ki64, ki64, (.sl [ki64, ki64])] [kb])
 (.nd (.pr .not [(.v 3)])
 (.ite (.v 4)
  (.out 0 [(.k (.b true))])
  (.nd (.pr (.cmp .eql .i64) [(.v 0), (.v 1)])
  (.out 0 [(.v 5)])))))
(.ite (.v 3)
 (.out 1 [(.k (.i 0)), (.k (.b false)), (.k (.i 0)), (.k (.i 0)), (.k (.l []))])
 (.nd (.pr (.len [ki64, ki64]) [(.v 2)])
 (.nd (.pr (.bin .add .i64) [(.v 0), (.k (.i 1))])
 (.nd (.call 20 [(.v 2)] [(.sl [ki64, ki64])] [(.sl [ki64, ki64])])
 (.nd (.pr (.len [ki64, ki64]) [(.v 6)])
 (.nd (.pr (.bin .rem .i64) [(.v 0), (.v 4)])
 (.nd (.pr (.bin .add .i64) [(.v 0), (.v 4)])
 (.nd (.pr (.ixc .i64) [(.v 8), (.v 7)])
 (.nd (.pr (.set [ki64, ki64] 0) [(.v 6), (.v 10), (.v 9)])
 (.nd (.pr (.set [ki64, ki64] 1) [(.v 11), (.v 10), (.k (.i 0))])
 (.nd (.pr (.bin .rem .i64) [(.v 0), (.v 4)])
 (.nd (.pr (.len [ki64, ki64]) [(.v 2)])
 (.nd (.pr (.ixc .i64) [(.v 13), (.v 14)])
 (.nd (.pr (.get [ki64, ki64] 1) [(.v 2), (.v 15)])
 (.out 1 [(.v 16), (.k (.b true)), (.v 5), (.v 1), (.v 12)]))))))))))))))))
def e21 : Fe := ⟨⟨33, [ki64, ki64, (.sl [ki64, ki64])], [(.agg [(.dat ki64 (.v 0)), (.dat ki64 (.v 1)), (.lz [ki64, ki64] (.v 2))])], [], [ki64, kb, ki64, ki64, (.sl [ki64, ki64])], [(.agg [(.dat ki64 (.v 5)), (.dat ki64 (.v 6)), (.sl 1 (.k (.i 0)) (.v 8) 2)]), (.dat ki64 (.v 3)), (.dat kb (.v 4))], [(0, (.cells [(.dat ki64 (.v 5)), (.dat ki64 (.v 6)), (.sl 1 (.k (.i 0)) (.v 8) 2)])), (1, (.arr [ki64, ki64] (.v 7) (.v 8)))], 2⟩,
 ⟨[(6, ⟨[kb], [(1, (.ptr 0 0)), (2, (.ptr 1 0)), (16, (.dat kb (.v 3)))], [(0, (.cells [(.dat ki64 (.v 0)), (.dat ki64 (.v 1)), (.lz [ki64, ki64] (.v 2))])), (1, (.cells [(.dat ki64 (.k (.i 0))), (.dat ki64 (.k (.i 0))), .nilS]))], 2⟩)], [(126, [1]), (62, [2, 3])]⟩,
 [(2, (.ptr 0 0)), (3, (.dat ki64 (.v 3))), (4, (.dat kb (.v 4)))], some t21, fun _ => none⟩
/-- loop.example/g00709/laws.FnTurns -/
def t22 : Tr :=
(.nd (.call 0 [(.v 0)] [(.sl [ku8])] [kb])
(.ite (.v 1)
 (.out 1 [(.k (.b true))])
 (.nd (.call 12 [(.v 0)] [(.sl [ku8])] [ki64, ki64, ki64, (.sl [ki64, ki64])])
 (.nd (.pr (.len [ki64, ki64]) [(.v 5)])
 (.blk 2 [ki64]
  (.loop [ki64, ki64] [(.k (.i 0)), (.k (.i 0))]
   (.nd (.pr (.len [ki64, ki64]) [(.v 5)])
   (.seq [kb]
    (.nd (.pr (.cmp .lss .i64) [(.v 8), (.v 9)])
    (.ite (.v 10)
     (.nd (.pr (.cmp .leq .i64) [(.v 9), (.k (.i 32))])
     (.out 0 [(.v 11)]))
     (.out 0 [(.k (.b false))])))
   (.nd (.pr (.len [ki64, ki64]) [(.v 5)])
   (.ite (.v 10)
    (.blk 3 [ki64]
     (.nd (.call 15 [(.v 3), (.v 4), (.v 5), (.v 8)] [ki64, ki64, (.sl [ki64, ki64]), ki64] [ki64])
     (.nd (.call 16 [(.v 3), (.v 4), (.v 5), (.v 8)] [ki64, ki64, (.sl [ki64, ki64]), ki64] [ki64])
     (.nd (.pr (.cmp .neq .i64) [(.v 12), (.v 13)])
     (.ite (.v 14)
      (.out 1 [(.k (.b false))])
      (.nd (.pr (.mx .i64) [(.k (.i 0)), (.v 12)])
      (.nd (.pr (.bin .add .i64) [(.v 7), (.v 15)])
      (.out 0 [(.v 16)])))))))
    (.nd (.pr (.len [ki64, ki64]) [(.v 5)])
    (.nd (.pr (.bin .add .i64) [(.v 8), (.k (.i 1))])
    (.out 0 [(.v 12), (.v 14)]))))
    (.out 2 [(.v 7)]))))))
 (.nd (.pr (.len [ki64, ki64]) [(.v 5)])
 (.nd (.call 17 [(.v 3), (.v 4), (.v 5)] [ki64, ki64, (.sl [ki64, ki64])] [(.sl [ki64])])
 (.nd (.pr (.len [ki64]) [(.v 9)])
 (.seq [kb]
  (.nd (.call 18 [(.v 3), (.v 4), (.v 5)] [ki64, ki64, (.sl [ki64, ki64])] [(.sl [ki64])])
  (.nd (.pr (.len [ki64]) [(.v 11)])
  (.nd (.call 19 [(.v 9), (.v 11)] [(.sl [ki64]), (.sl [ki64])] [kb])
  (.nd (.pr .not [(.v 13)])
  (.ite (.v 14)
   (.out 0 [(.k (.b true))])
   (.nd (.call 5 [(.v 3), (.v 4), (.v 5)] [ki64, ki64, (.sl [ki64, ki64])] [kb])
   (.nd (.pr .not [(.v 15)])
   (.out 0 [(.v 16)]))))))))
 (.nd (.pr (.len [ki64]) [(.v 9)])
 (.nd (.pr (.len [ki64, ki64]) [(.v 5)])
 (.ite (.v 11)
  (.nd (.call 18 [(.v 3), (.v 4), (.v 5)] [ki64, ki64, (.sl [ki64, ki64])] [(.sl [ki64])])
  (.nd (.pr (.len [ki64]) [(.v 14)])
  (.nd (.call 19 [(.v 9), (.v 14)] [(.sl [ki64]), (.sl [ki64])] [kb])
  (.out 1 [(.v 16)]))))
  (.blk 4 [ki64, ki64, (.sl [ki64, ki64])]
   (.loop [ki64, ki64, ki64, (.sl [ki64, ki64])] [(.k (.i 0)), (.v 3), (.v 4), (.v 5)]
    (.nd (.pr (.len [ki64]) [(.v 9)])
    (.nd (.pr (.len [ki64, ki64]) [(.v 17)])
    (.nd (.pr (.cmp .lss .i64) [(.v 14), (.v 18)])
    (.ite (.v 20)
     (.blk 5 [ki64, ki64, (.sl [ki64, ki64])]
      (.nd (.call 21 [(.v 15), (.v 16), (.v 17)] [ki64, ki64, (.sl [ki64, ki64])] [ki64, kb, ki64, ki64, (.sl [ki64, ki64])])
      (.nd (.pr (.len [ki64, ki64]) [(.v 25)])
      (.seq [kb]
       (.nd (.pr .not [(.v 22)])
       (.ite (.v 27)
        (.out 0 [(.k (.b true))])
        (.nd (.pr (.ixc .i64) [(.v 14), (.v 18)])
        (.nd (.pr (.get [ki64] 0) [(.v 9), (.v 28)])
        (.nd (.pr (.cmp .neq .i64) [(.v 21), (.v 29)])
        (.out 0 [(.v 30)]))))))
      (.nd (.pr (.len [ki64]) [(.v 9)])
      (.nd (.pr (.len [ki64, ki64]) [(.v 17)])
      (.nd (.pr (.len [ki64, ki64]) [(.v 25)])
      (.ite (.v 27)
       (.out 1 [(.k (.b false))])
       (.out 0 [(.v 23), (.v 24), (.v 25)]))))))))
     (.nd (.pr (.len [ki64]) [(.v 9)])
     (.nd (.pr (.len [ki64, ki64]) [(.v 23)])
     (.nd (.pr (.bin .add .i64) [(.v 14), (.k (.i 1))])
     (.out 0 [(.v 26), (.v 21), (.v 22), (.v 23)])))))
     (.out 4 [(.v 15), (.v 16), (.v 17)]))))))
  (.nd (.pr (.len [ki64]) [(.v 9)])
  (.nd (.pr (.len [ki64, ki64]) [(.v 16)])
  (.nd (.call 21 [(.v 14), (.v 15), (.v 16)] [ki64, ki64, (.sl [ki64, ki64])] [ki64, kb, ki64, ki64, (.sl [ki64, ki64])])
  (.nd (.pr (.len [ki64, ki64]) [(.v 23)])
  (.seq [kb]
   (.nd (.pr (.cmp .eql .i64) [(.v 7), (.v 17)])
   (.ite (.v 25)
    (.nd (.pr .not [(.v 20)])
    (.ite (.v 26)
     (.nd (.call 17 [(.v 14), (.v 15), (.v 16)] [ki64, ki64, (.sl [ki64, ki64])] [(.sl [ki64])])
     (.nd (.pr (.len [ki64]) [(.v 27)])
     (.nd (.pr (.cmp .eql .i64) [(.v 28), (.k (.i 0))])
     (.out 0 [(.v 29)]))))
     (.out 0 [(.k (.b false))])))
    (.out 0 [(.k (.b false))])))
  (.out 1 [(.v 25)])))))))))))))))))))
def e22 : Fe := ⟨⟨7, [(.sl [ku8])], [(.dat (.sl [ku8]) (.v 0))], [], [kb], [(.dat kb (.v 1))], [], 0⟩,
 ⟨[(2047, ⟨[kb], [(2, (.dat kb (.v 25)))], [], 0⟩), (2045, ⟨[ki64, ki64, (.sl [ki64, ki64])], [(5, (.dat ki64 (.v 7))), (8, (.sl 0 (.k (.i 0)) (.v 17) 1)), (9, (.ptr 1 0))], [(0, (.arr [ki64] (.v 9) (.v 17))), (1, (.cells [(.dat ki64 (.v 14)), (.dat ki64 (.v 15)), (.sl 2 (.k (.i 0)) (.v 18) 2)])), (2, (.arr [ki64, ki64] (.v 16) (.v 18)))], 3⟩), (4090, ⟨[ki64, ki64, ki64, (.sl [ki64, ki64])], [(5, (.dat ki64 (.v 7))), (8, (.sl 0 (.k (.i 0)) (.v 18) 1)), (9, (.ptr 1 0)), (10, (.dat ki64 (.v 14)))], [(0, (.arr [ki64] (.v 9) (.v 18))), (1, (.cells [(.dat ki64 (.v 15)), (.dat ki64 (.v 16)), (.sl 2 (.k (.i 0)) (.v 19) 2)])), (2, (.arr [ki64, ki64] (.v 17) (.v 19)))], 3⟩), (32722, ⟨[ki64, ki64, (.sl [ki64, ki64])], [(5, (.dat ki64 (.v 7))), (8, (.sl 0 (.k (.i 0)) (.v 24) 1)), (9, (.ptr 1 0)), (10, (.dat ki64 (.v 14)))], [(0, (.arr [ki64] (.v 9) (.v 24))), (1, (.cells [(.dat ki64 (.v 21)), (.dat ki64 (.v 22)), (.sl 2 (.k (.i 0)) (.v 25) 2)])), (2, (.arr [ki64, ki64] (.v 23) (.v 25)))], 3⟩), (261778, ⟨[kb], [(5, (.dat ki64 (.v 7))), (8, (.sl 0 (.k (.i 0)) (.v 28) 1)), (9, (.ptr 1 0)), (10, (.dat ki64 (.v 14))), (11, (.ptr 2 0)), (87, (.dat kb (.v 27)))], [(0, (.arr [ki64] (.v 9) (.v 28))), (1, (.cells [(.dat ki64 (.v 15)), (.dat ki64 (.v 16)), (.sl 3 (.k (.i 0)) (.v 29) 2)])), (2, (.cells [(.dat ki64 (.v 23)), (.dat ki64 (.v 24)), (.sl 4 (.k (.i 0)) (.v 30) 2)])), (3, (.arr [ki64, ki64] (.v 17) (.v 29))), (4, (.arr [ki64, ki64] (.v 25) (.v 30)))], 5⟩), (254, ⟨[kb], [(3, (.ptr 0 0)), (5, (.dat ki64 (.v 7))), (8, (.sl 1 (.k (.i 0)) (.v 12) 1)), (60, (.dat kb (.v 11)))], [(0, (.cells [(.dat ki64 (.v 3)), (.dat ki64 (.v 4)), (.sl 2 (.k (.i 0)) (.v 13) 2)])), (1, (.arr [ki64] (.v 9) (.v 12))), (2, (.arr [ki64, ki64] (.v 5) (.v 13)))], 3⟩), (125, ⟨[ki64], [(3, (.ptr 0 0)), (5, (.dat ki64 (.v 7)))], [(0, (.cells [(.dat ki64 (.v 3)), (.dat ki64 (.v 4)), (.sl 1 (.k (.i 0)) (.v 8) 2)])), (1, (.arr [ki64, ki64] (.v 5) (.v 8)))], 2⟩), (250, ⟨[ki64, ki64], [(3, (.ptr 0 0)), (5, (.dat ki64 (.v 7))), (6, (.dat ki64 (.v 8)))], [(0, (.cells [(.dat ki64 (.v 3)), (.dat ki64 (.v 4)), (.sl 1 (.k (.i 0)) (.v 9) 2)])), (1, (.arr [ki64, ki64] (.v 5) (.v 9)))], 2⟩), (2002, ⟨[ki64], [(3, (.ptr 0 0)), (5, (.dat ki64 (.v 12))), (6, (.dat ki64 (.v 8)))], [(0, (.cells [(.dat ki64 (.v 3)), (.dat ki64 (.v 4)), (.sl 1 (.k (.i 0)) (.v 13) 2)])), (1, (.arr [ki64, ki64] (.v 5) (.v 13)))], 2⟩), (1000, ⟨[kb], [(3, (.ptr 0 0)), (5, (.dat ki64 (.v 7))), (6, (.dat ki64 (.v 8))), (34, (.dat kb (.v 10)))], [(0, (.cells [(.dat ki64 (.v 3)), (.dat ki64 (.v 4)), (.sl 1 (.k (.i 0)) (.v 11) 2)])), (1, (.arr [ki64, ki64] (.v 5) (.v 11)))], 2⟩)], []⟩,
 [(2, (.dat kb (.v 1)))], some t22, fun _ => none⟩
def fes : List Fe := [e0, e1, e2, e3, e4, e5, e6, e7, e8, e9, e10, e11, e12, e13, e14, e15, e16, e17, e18, e19, e20, e21, e22]
theorem tabOk : TabOk Try.prog tab := tabB_ok (by kernel_rfl)
theorem ok0 : e0.ok Try.prog tab (sigsOf fes) (kindsOf fes) = true := by kernel_rfl
theorem ok1 : e1.ok Try.prog tab (sigsOf fes) (kindsOf fes) = true := by kernel_rfl
theorem ok2 : e2.ok Try.prog tab (sigsOf fes) (kindsOf fes) = true := by kernel_rfl
theorem ok3 : e3.ok Try.prog tab (sigsOf fes) (kindsOf fes) = true := by kernel_rfl
theorem ok4 : e4.ok Try.prog tab (sigsOf fes) (kindsOf fes) = true := by kernel_rfl
theorem ok5 : e5.ok Try.prog tab (sigsOf fes) (kindsOf fes) = true := by kernel_rfl
theorem ok6 : e6.ok Try.prog tab (sigsOf fes) (kindsOf fes) = true := by kernel_rfl
theorem ok7 : e7.ok Try.prog tab (sigsOf fes) (kindsOf fes) = true := by kernel_rfl
theorem ok8 : e8.ok Try.prog tab (sigsOf fes) (kindsOf fes) = true := by kernel_rfl
theorem ok9 : e9.ok Try.prog tab (sigsOf fes) (kindsOf fes) = true := by kernel_rfl
theorem ok10 : e10.ok Try.prog tab (sigsOf fes) (kindsOf fes) = true := by kernel_rfl
theorem ok11 : e11.ok Try.prog tab (sigsOf fes) (kindsOf fes) = true := by kernel_rfl
theorem ok12 : e12.ok Try.prog tab (sigsOf fes) (kindsOf fes) = true := by kernel_rfl
theorem ok13 : e13.ok Try.prog tab (sigsOf fes) (kindsOf fes) = true := by kernel_rfl
theorem ok14 : e14.ok Try.prog tab (sigsOf fes) (kindsOf fes) = true := by kernel_rfl
theorem ok15 : e15.ok Try.prog tab (sigsOf fes) (kindsOf fes) = true := by kernel_rfl
theorem ok16 : e16.ok Try.prog tab (sigsOf fes) (kindsOf fes) = true := by kernel_rfl
theorem ok17 : e17.ok Try.prog tab (sigsOf fes) (kindsOf fes) = true := by kernel_rfl
theorem ok18 : e18.ok Try.prog tab (sigsOf fes) (kindsOf fes) = true := by kernel_rfl
theorem ok19 : e19.ok Try.prog tab (sigsOf fes) (kindsOf fes) = true := by kernel_rfl
theorem ok20 : e20.ok Try.prog tab (sigsOf fes) (kindsOf fes) = true := by kernel_rfl
theorem ok21 : e21.ok Try.prog tab (sigsOf fes) (kindsOf fes) = true := by kernel_rfl
theorem ok22 : e22.ok Try.prog tab (sigsOf fes) (kindsOf fes) = true := by kernel_rfl
theorem fesOk : FeL Try.prog tab fes 0 fes := ⟨ok0, ok1, ok2, ok3, ok4, ok5, ok6, ok7, ok8, ok9, ok10, ok11, ok12, ok13, ok14, ok15, ok16, ok17, ok18, ok19, ok20, ok21, ok22, trivial⟩
end Go.Proofs.Ytaaglpobmdpdlaa.Turns
