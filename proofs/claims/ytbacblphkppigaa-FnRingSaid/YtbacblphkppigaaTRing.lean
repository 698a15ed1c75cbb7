/- What the functions behind FnRing compute, as trees; that they do is checked by the kernel. Printed by bench/Bench.lean. -/
import Derived.Test.YtbacblphkppigaaB33
import Derived.Test.YtbacblphkppigaaProg
set_option maxRecDepth 100000
set_option linter.unusedVariables false
namespace Go.Proofs.Ytbacblphkppigaa.Ring
open Go.BH
def tab : TyTab := [(3, ⟨1, 8, false, (.int .i64), [(.int .i64 (0))], [ki64], false⟩),
 (4, ⟨1, 1, false, .bool, [(.bool false)], [kb], false⟩),
 (5, ⟨1, 1, false, (.int .u8), [(.int .u8 (0))], [ku8], false⟩),
 (22, ⟨1, 24, false, (.slice 5), [(.slice none 0 0)], [(.sl [ku8])], false⟩),
 (27, ⟨1, 24, false, (.slice 3), [(.slice none 0 0)], [(.sl [ki64])], false⟩),
 (33, ⟨1, 24, false, (.slice 104), [(.slice none 0 0)], [(.sl [ki64, ki64])], false⟩),
 (35, ⟨3, 40, true, (.struct [(3, 0), (3, 1), (33, 2)]), [(.int .i64 (0)), (.int .i64 (0)), (.slice none 0 0)], [ki64, ki64, (.sl [ki64, ki64])], false⟩),
 (104, ⟨2, 16, true, (.struct [(3, 0), (3, 1)]), [(.int .i64 (0)), (.int .i64 (0))], [ki64, ki64], true⟩)]
/-- loop.example/g00709/laws.big -/
def t0 : Tr :=
(.nd (.pr (.len [ku8]) [(.v 0)])
(.nd (.pr (.cmp .gtr .i64) [(.v 1), (.k (.i 1048576))])
(.out 1 [(.v 2)])))
def e0 : Fe := ⟨⟨13, [(.sl [ku8])], [(.dat (.sl [ku8]) (.v 0))], [], [kb], [(.dat kb (.v 1))], [], 0⟩,
 ⟨[], []⟩,
 [(2, (.dat kb (.v 1)))], some t0, fun _ => none⟩
/-- loop.example/g00709/laws.pick -/
def t1 : Tr :=
(.seq [kb]
 (.nd (.pr (.len [ku8]) [(.v 0)])
 (.nd (.pr (.cmp .eql .i64) [(.v 3), (.k (.i 0))])
 (.ite (.v 4)
  (.out 0 [(.k (.b true))])
  (.nd (.pr (.cmp .lss .i64) [(.v 2), (.k (.i 2))])
  (.out 0 [(.v 5)])))))
(.ite (.v 3)
 (.out 1 [(.k (.i 0))])
 (.blk 2 [ki64]
  (.loop [ki64, ki64] [(.k (.i 0)), (.k (.i 0))]
   (.nd (.pr (.cmp .lss .i64) [(.v 5), (.k (.i 3))])
   (.ite (.v 6)
    (.blk 3 [ki64]
     (.nd (.pr (.bin .mul .i64) [(.k (.i 31)), (.v 4)])
     (.nd (.pr (.bin .add .i64) [(.v 1), (.v 5)])
     (.nd (.pr (.len [ku8]) [(.v 0)])
     (.nd (.pr (.bin .rem .i64) [(.v 8), (.v 9)])
     (.nd (.pr (.len [ku8]) [(.v 0)])
     (.nd (.pr (.ixc .i64) [(.v 10), (.v 11)])
     (.nd (.pr (.get [ku8] 0) [(.v 0), (.v 12)])
     (.nd (.pr (.conv .u8 .i64) [(.v 13)])
     (.nd (.pr (.bin .add .i64) [(.v 7), (.v 14)])
     (.out 0 [(.v 15)]))))))))))
    (.nd (.pr (.bin .add .i64) [(.v 5), (.k (.i 1))])
    (.out 0 [(.v 7), (.v 8)])))
    (.out 2 [(.v 4)]))))
 (.nd (.pr (.bin .add .i64) [(.v 4), (.v 1)])
 (.nd (.pr (.bin .rem .i64) [(.v 5), (.v 2)])
 (.out 1 [(.v 6)]))))))
def e1 : Fe := ⟨⟨14, [(.sl [ku8]), ki64, ki64], [(.dat (.sl [ku8]) (.v 0)), (.dat ki64 (.v 1)), (.dat ki64 (.v 2))], [], [ki64], [(.dat ki64 (.v 3))], [], 0⟩,
 ⟨[(61, ⟨[ki64], [(1, (.dat ki64 (.v 1))), (2, (.dat ki64 (.v 2))), (7, (.dat ki64 (.v 4)))], [], 0⟩), (122, ⟨[ki64, ki64], [(0, (.dat (.sl [ku8]) (.v 0))), (1, (.dat ki64 (.v 1))), (2, (.dat ki64 (.v 2))), (7, (.dat ki64 (.v 4))), (8, (.dat ki64 (.v 5)))], [], 0⟩), (978, ⟨[ki64], [(0, (.dat (.sl [ku8]) (.v 0))), (1, (.dat ki64 (.v 1))), (2, (.dat ki64 (.v 2))), (7, (.dat ki64 (.v 7))), (8, (.dat ki64 (.v 5)))], [], 0⟩), (6, ⟨[kb], [(0, (.dat (.sl [ku8]) (.v 0))), (1, (.dat ki64 (.v 1))), (2, (.dat ki64 (.v 2))), (15, (.dat kb (.v 3)))], [], 0⟩)], []⟩,
 [(6, (.dat ki64 (.v 3)))], some t1, fun _ => none⟩
/-- loop.example/g00709/impl.within -/
def t2 : Tr :=
(.seq [kb]
 (.nd (.pr (.cmp .geq .i64) [(.v 0), (.v 1)])
 (.ite (.v 3)
  (.nd (.pr (.cmp .leq .i64) [(.v 0), (.v 2)])
  (.out 0 [(.v 4)]))
  (.out 0 [(.k (.b false))])))
(.out 1 [(.v 3)]))
def e2 : Fe := ⟨⟨70, [ki64, ki64, ki64], [(.dat ki64 (.v 0)), (.dat ki64 (.v 1)), (.dat ki64 (.v 2))], [], [kb], [(.dat kb (.v 3))], [], 0⟩,
 ⟨[(3, ⟨[kb], [(6, (.dat kb (.v 3)))], [], 0⟩)], []⟩,
 [(6, (.dat kb (.v 3)))], some t2, fun _ => none⟩
/-- loop.example/g00709/impl.RingNew -/
def t3 : Tr :=
(.nd (.call 2 [(.v 0), (.k (.i 1)), (.k (.i 32))] [ki64, ki64, ki64] [kb])
(.nd (.pr .not [(.v 1)])
(.ite (.v 2)
 (.out 1 [(.k (.b false)), (.k (.l []))])
 (.nd (.pr (.mkz [ki64, ki64] .i64 16 [(.i 0), (.i 0)]) [(.v 0)])
 (.nd (.pr (.len [ki64, ki64]) [(.v 3)])
 (.blk 2 [(.sl [ki64, ki64])]
  (.loop [ki64, (.sl [ki64, ki64])] [(.k (.i 0)), (.v 3)]
   (.nd (.pr (.len [ki64, ki64]) [(.v 6)])
   (.nd (.pr (.cmp .lss .i64) [(.v 5), (.v 4)])
   (.ite (.v 8)
    (.blk 3 [(.sl [ki64, ki64])]
     (.nd (.pr (.ixc .i64) [(.v 5), (.v 7)])
     (.nd (.pr (.set [ki64, ki64] 0) [(.v 6), (.v 9), (.v 5)])
     (.out 0 [(.v 10)])))
    (.nd (.pr (.len [ki64, ki64]) [(.v 9)])
    (.nd (.pr (.bin .add .i64) [(.v 5), (.k (.i 1))])
    (.out 0 [(.v 11), (.v 9)]))))
    (.out 2 [(.v 6)])))))
 (.nd (.pr (.len [ki64, ki64]) [(.v 5)])
 (.out 1 [(.k (.b true)), (.v 5)]))))))))
def e3 : Fe := ⟨⟨20, [ki64], [(.dat ki64 (.v 0))], [], [kb, (.sl [ki64, ki64])], [(.agg [(.dat ki64 (.k (.i 0))), (.dat ki64 (.k (.i 0))), (.sl 1 (.k (.i 0)) (.v 3) 2)]), (.dat kb (.v 1))], [(0, (.cells [(.dat ki64 (.k (.i 0))), (.dat ki64 (.k (.i 0))), (.sl 1 (.k (.i 0)) (.v 3) 2)])), (1, (.arr [ki64, ki64] (.v 2) (.v 3)))], 2⟩,
 ⟨[(61, ⟨[(.sl [ki64, ki64])], [(2, (.ptr 0 0)), (4, (.ptr 1 0))], [(0, (.cells [(.dat ki64 (.k (.i 0))), (.dat ki64 (.k (.i 0))), .nilS])), (1, (.cells [(.dat ki64 (.k (.i 0))), (.dat ki64 (.k (.i 0))), (.sl 2 (.k (.i 0)) (.v 6) 2)])), (2, (.arr [ki64, ki64] (.v 5) (.v 6)))], 3⟩), (122, ⟨[ki64, (.sl [ki64, ki64])], [(2, (.ptr 0 0)), (4, (.ptr 1 0)), (15, (.dat ki64 (.v 4))), (16, (.dat ki64 (.v 5)))], [(0, (.cells [(.dat ki64 (.k (.i 0))), (.dat ki64 (.k (.i 0))), .nilS])), (1, (.cells [(.dat ki64 (.k (.i 0))), (.dat ki64 (.k (.i 0))), (.sl 2 (.k (.i 0)) (.v 7) 2)])), (2, (.arr [ki64, ki64] (.v 6) (.v 7)))], 3⟩), (1958, ⟨[(.sl [ki64, ki64])], [(2, (.ptr 0 0)), (4, (.ptr 1 0)), (15, (.dat ki64 (.v 4))), (16, (.dat ki64 (.v 5)))], [(0, (.cells [(.dat ki64 (.k (.i 0))), (.dat ki64 (.k (.i 0))), .nilS])), (1, (.cells [(.dat ki64 (.k (.i 0))), (.dat ki64 (.k (.i 0))), (.sl 2 (.k (.i 0)) (.v 10) 2)])), (2, (.arr [ki64, ki64] (.v 9) (.v 10)))], 3⟩)], []⟩,
 [(2, (.ptr 0 0)), (3, (.dat kb (.v 1)))], some t3, fun _ => none⟩
/-- loop.example/g00709/impl.isRing -/
def t4 : Tr :=
(.nd (.pr (.len [ki64, ki64]) [(.v 2)])
(.seq [kb]
 (.nd (.call 2 [(.v 3), (.k (.i 1)), (.k (.i 32))] [ki64, ki64, ki64] [kb])
 (.nd (.pr .not [(.v 4)])
 (.ite (.v 5)
  (.out 0 [(.k (.b true))])
  (.nd (.call 2 [(.v 1), (.k (.i 0)), (.k (.i 1000000))] [ki64, ki64, ki64] [kb])
  (.nd (.pr .not [(.v 6)])
  (.ite (.v 7)
   (.out 0 [(.k (.b true))])
   (.nd (.pr (.bin .sub .i64) [(.v 1), (.v 3)])
   (.nd (.pr (.mx .i64) [(.k (.i 0)), (.v 8)])
   (.nd (.call 2 [(.v 0), (.v 9), (.v 1)] [ki64, ki64, ki64] [kb])
   (.nd (.pr .not [(.v 10)])
   (.out 0 [(.v 11)])))))))))))
(.ite (.v 4)
 (.out 1 [(.k (.b false))])
 (.blk 2 []
  (.loop [ki64] [(.v 0)]
   (.nd (.pr (.bin .add .i64) [(.v 0), (.v 3)])
   (.nd (.pr (.cmp .lss .i64) [(.v 5), (.v 6)])
   (.ite (.v 7)
    (.blk 3 []
     (.nd (.pr (.bin .rem .i64) [(.v 5), (.v 3)])
     (.nd (.pr (.len [ki64, ki64]) [(.v 2)])
     (.nd (.pr (.ixc .i64) [(.v 8), (.v 9)])
     (.nd (.pr (.get [ki64, ki64] 0) [(.v 2), (.v 10)])
     (.nd (.pr (.get [ki64, ki64] 1) [(.v 2), (.v 10)])
     (.seq [kb]
      (.nd (.pr (.cmp .lss .i64) [(.v 5), (.v 1)])
      (.ite (.v 13)
       (.nd (.pr (.bin .add .i64) [(.v 5), (.k (.i 1))])
       (.nd (.pr (.cmp .neq .i64) [(.v 11), (.v 14)])
       (.ite (.v 15)
        (.out 0 [(.k (.b true))])
        (.nd (.call 2 [(.v 12), (.k (.i 0)), (.k (.i 255))] [ki64, ki64, ki64] [kb])
        (.nd (.pr .not [(.v 16)])
        (.ite (.v 17)
         (.out 0 [(.k (.b true))])
         (.nd (.pr (.cmp .geq .i64) [(.v 5), (.v 1)])
         (.ite (.v 18)
          (.nd (.pr (.cmp .eql .i64) [(.v 11), (.v 5)])
          (.nd (.pr .and [(.k (.b true)), (.v 19)])
          (.nd (.pr (.cmp .eql .i64) [(.v 12), (.k (.i 0))])
          (.nd (.pr .and [(.v 20), (.v 21)])
          (.nd (.pr .not [(.v 22)])
          (.out 0 [(.v 23)]))))))
          (.out 0 [(.k (.b false))])))))))))
       (.nd (.pr (.cmp .geq .i64) [(.v 5), (.v 1)])
       (.ite (.v 14)
        (.nd (.pr (.cmp .eql .i64) [(.v 11), (.v 5)])
        (.nd (.pr .and [(.k (.b true)), (.v 15)])
        (.nd (.pr (.cmp .eql .i64) [(.v 12), (.k (.i 0))])
        (.nd (.pr .and [(.v 16), (.v 17)])
        (.nd (.pr .not [(.v 18)])
        (.out 0 [(.v 19)]))))))
        (.out 0 [(.k (.b false))])))))
     (.ite (.v 13)
      (.out 1 [(.k (.b false))])
      (.out 0 []))))))))
    (.nd (.pr (.bin .add .i64) [(.v 5), (.k (.i 1))])
    (.out 0 [(.v 8)])))
    (.out 2 [])))))
 (.out 1 [(.k (.b true))])))))
def e4 : Fe := ⟨⟨75, [ki64, ki64, (.sl [ki64, ki64])], [(.agg [(.dat ki64 (.v 0)), (.dat ki64 (.v 1)), (.lz [ki64, ki64] (.v 2))])], [], [kb], [(.dat kb (.v 3))], [], 0⟩,
 ⟨[(61, ⟨[], [], [], 0⟩), (122, ⟨[ki64], [(1, (.ptr 0 0)), (3, (.dat ki64 (.v 3))), (4, (.dat ki64 (.v 5)))], [(0, (.cells [(.dat ki64 (.v 0)), (.dat ki64 (.v 1)), (.lz [ki64, ki64] (.v 2))]))], 1⟩), (978, ⟨[], [(1, (.ptr 0 0)), (3, (.dat ki64 (.v 3))), (4, (.dat ki64 (.v 5)))], [(0, (.cells [(.dat ki64 (.v 0)), (.dat ki64 (.v 1)), (.lz [ki64, ki64] (.v 2))]))], 1⟩), (3913, ⟨[kb], [(1, (.ptr 0 0)), (3, (.dat ki64 (.v 3))), (4, (.dat ki64 (.v 5))), (76, (.dat kb (.v 13)))], [(0, (.cells [(.dat ki64 (.v 0)), (.dat ki64 (.v 1)), (.lz [ki64, ki64] (.v 2))]))], 1⟩), (14, ⟨[kb], [(1, (.ptr 0 0)), (3, (.dat ki64 (.v 3))), (30, (.dat kb (.v 4)))], [(0, (.cells [(.dat ki64 (.v 0)), (.dat ki64 (.v 1)), (.lz [ki64, ki64] (.v 2))]))], 1⟩)], []⟩,
 [(2, (.dat kb (.v 3)))], some t4, fun _ => none⟩
/-- slices.Clone[[]loop.example/g00709/impl.Slot,loop.example/g00709/impl.Slot] -/
def t5 : Tr :=
(.both (.v 0)
 (.out 1 [(.k (.l []))])
 (.nd (.pr (.app [ki64, ki64] 16) [(.k (.l [])), (.v 0)])
 (.nd (.pr (.len [ki64, ki64]) [(.v 1)])
 (.out 1 [(.v 1)]))))
def e5 : Fe := ⟨⟨76, [(.sl [ki64, ki64])], [(.lz [ki64, ki64] (.v 0))], [], [(.sl [ki64, ki64])], [(.sl 0 (.k (.i 0)) (.v 2) 2)], [(0, (.arr [ki64, ki64] (.v 1) (.v 2)))], 1⟩,
 ⟨[], []⟩,
 [(2, (.sl 0 (.k (.i 0)) (.v 2) 2))], some t5, fun _ => none⟩
/-- loop.example/g00709/impl.RingPush -/
def t6 : Tr :=
(.seq [kb]
 (.nd (.call 4 [(.v 0), (.v 1), (.v 2)] [ki64, ki64, (.sl [ki64, ki64])] [kb])
 (.nd (.pr .not [(.v 4)])
 (.ite (.v 5)
  (.out 0 [(.k (.b true))])
  (.nd (.call 2 [(.v 3), (.k (.i 0)), (.k (.i 255))] [ki64, ki64, ki64] [kb])
  (.nd (.pr .not [(.v 6)])
  (.ite (.v 7)
   (.out 0 [(.k (.b true))])
   (.nd (.pr (.len [ki64, ki64]) [(.v 2)])
   (.nd (.pr (.bin .add .i64) [(.v 0), (.v 8)])
   (.nd (.pr (.cmp .eql .i64) [(.v 1), (.v 9)])
   (.ite (.v 10)
    (.out 0 [(.k (.b true))])
    (.nd (.pr (.cmp .eql .i64) [(.v 1), (.k (.i 1000000))])
    (.out 0 [(.v 11)]))))))))))))
(.ite (.v 4)
 (.out 1 [(.k (.b false)), (.k (.i 0)), (.k (.i 0)), (.k (.l []))])
 (.nd (.pr (.bin .add .i64) [(.v 1), (.k (.i 1))])
 (.nd (.call 5 [(.v 2)] [(.sl [ki64, ki64])] [(.sl [ki64, ki64])])
 (.nd (.pr (.len [ki64, ki64]) [(.v 6)])
 (.nd (.pr (.len [ki64, ki64]) [(.v 2)])
 (.nd (.pr (.bin .rem .i64) [(.v 1), (.v 8)])
 (.nd (.pr (.bin .add .i64) [(.v 1), (.k (.i 1))])
 (.nd (.pr (.ixc .i64) [(.v 9), (.v 7)])
 (.nd (.pr (.set [ki64, ki64] 0) [(.v 6), (.v 11), (.v 10)])
 (.nd (.pr (.set [ki64, ki64] 1) [(.v 12), (.v 11), (.v 3)])
 (.out 1 [(.k (.b true)), (.v 0), (.v 5), (.v 13)]))))))))))))
def e6 : Fe := ⟨⟨21, [ki64, ki64, (.sl [ki64, ki64]), ki64], [(.agg [(.dat ki64 (.v 0)), (.dat ki64 (.v 1)), (.lz [ki64, ki64] (.v 2))]), (.dat ki64 (.v 3))], [], [kb, ki64, ki64, (.sl [ki64, ki64])], [(.agg [(.dat ki64 (.v 5)), (.dat ki64 (.v 6)), (.sl 1 (.k (.i 0)) (.v 8) 2)]), (.dat kb (.v 4))], [(0, (.cells [(.dat ki64 (.v 5)), (.dat ki64 (.v 6)), (.sl 1 (.k (.i 0)) (.v 8) 2)])), (1, (.arr [ki64, ki64] (.v 7) (.v 8)))], 2⟩,
 ⟨[(6, ⟨[kb], [(1, (.dat ki64 (.v 3))), (2, (.ptr 0 0)), (4, (.ptr 1 0)), (30, (.dat kb (.v 4)))], [(0, (.cells [(.dat ki64 (.v 0)), (.dat ki64 (.v 1)), (.lz [ki64, ki64] (.v 2))])), (1, (.cells [(.dat ki64 (.k (.i 0))), (.dat ki64 (.k (.i 0))), .nilS]))], 2⟩)], [(30, [2, 3])]⟩,
 [(4, (.ptr 0 0)), (5, (.dat kb (.v 4)))], some t6, fun _ => none⟩
/-- loop.example/g00709/impl.RingPop -/
def t7 : Tr :=
(.seq [kb]
 (.nd (.call 4 [(.v 0), (.v 1), (.v 2)] [ki64, ki64, (.sl [ki64, ki64])] [kb])
 (.nd (.pr .not [(.v 3)])
 (.ite (.v 4)
  (.out 0 [(.k (.b true))])
  (.nd (.pr (.cmp .eql .i64) [(.v 0), (.v 1)])
  (.out 0 [(.v 5)])))))
(.ite (.v 3)
 (.out 1 [(.k (.i 0)), (.k (.b false)), (.k (.i 0)), (.k (.i 0)), (.k (.l []))])
 (.nd (.pr (.len [ki64, ki64]) [(.v 2)])
 (.nd (.pr (.bin .add .i64) [(.v 0), (.k (.i 1))])
 (.nd (.call 5 [(.v 2)] [(.sl [ki64, ki64])] [(.sl [ki64, ki64])])
 (.nd (.pr (.len [ki64, ki64]) [(.v 6)])
 (.nd (.pr (.bin .rem .i64) [(.v 0), (.v 4)])
 (.nd (.pr (.bin .add .i64) [(.v 0), (.v 4)])
 (.nd (.pr (.ixc .i64) [(.v 8), (.v 7)])
 (.nd (.pr (.set [ki64, ki64] 0) [(.v 6), (.v 10), (.v 9)])
 (.nd (.pr (.set [ki64, ki64] 1) [(.v 11), (.v 10), (.k (.i 0))])
 (.nd (.pr (.bin .rem .i64) [(.v 0), (.v 4)])
 (.nd (.pr (.len [ki64, ki64]) [(.v 2)])
 (.nd (.pr (.ixc .i64) [(.v 13), (.v 14)])
 (.nd (.pr (.get [ki64, ki64] 1) [(.v 2), (.v 15)])
 (.out 1 [(.v 16), (.k (.b true)), (.v 5), (.v 1), (.v 12)]))))))))))))))))
def e7 : Fe := ⟨⟨22, [ki64, ki64, (.sl [ki64, ki64])], [(.agg [(.dat ki64 (.v 0)), (.dat ki64 (.v 1)), (.lz [ki64, ki64] (.v 2))])], [], [ki64, kb, ki64, ki64, (.sl [ki64, ki64])], [(.agg [(.dat ki64 (.v 5)), (.dat ki64 (.v 6)), (.sl 1 (.k (.i 0)) (.v 8) 2)]), (.dat ki64 (.v 3)), (.dat kb (.v 4))], [(0, (.cells [(.dat ki64 (.v 5)), (.dat ki64 (.v 6)), (.sl 1 (.k (.i 0)) (.v 8) 2)])), (1, (.arr [ki64, ki64] (.v 7) (.v 8)))], 2⟩,
 ⟨[(6, ⟨[kb], [(1, (.ptr 0 0)), (2, (.ptr 1 0)), (16, (.dat kb (.v 3)))], [(0, (.cells [(.dat ki64 (.v 0)), (.dat ki64 (.v 1)), (.lz [ki64, ki64] (.v 2))])), (1, (.cells [(.dat ki64 (.k (.i 0))), (.dat ki64 (.k (.i 0))), .nilS]))], 2⟩)], [(126, [1]), (62, [2, 3])]⟩,
 [(2, (.ptr 0 0)), (3, (.dat ki64 (.v 3))), (4, (.dat kb (.v 4)))], some t7, fun _ => none⟩
/-- loop.example/g00709/impl.RingList -/
def t8 : Tr :=
(.nd (.call 4 [(.v 0), (.v 1), (.v 2)] [ki64, ki64, (.sl [ki64, ki64])] [kb])
(.nd (.pr .not [(.v 3)])
(.ite (.v 4)
 (.out 1 [(.k (.l []))])
 (.blk 2 [(.sl [ki64])]
  (.loop [ki64, (.sl [ki64])] [(.v 0), (.k (.l []))]
   (.nd (.pr (.len [ki64]) [(.v 6)])
   (.nd (.pr (.cmp .lss .i64) [(.v 5), (.v 1)])
   (.ite (.v 8)
    (.blk 3 [(.sl [ki64])]
     (.nd (.pr (.len [ki64, ki64]) [(.v 2)])
     (.nd (.pr (.bin .rem .i64) [(.v 5), (.v 9)])
     (.nd (.pr (.len [ki64, ki64]) [(.v 2)])
     (.nd (.pr (.ixc .i64) [(.v 10), (.v 11)])
     (.nd (.pr (.get [ki64, ki64] 1) [(.v 2), (.v 12)])
     (.nd (.pr (.mk [ki64] 1) [(.v 13)])
     (.nd (.pr (.app [ki64] 8) [(.v 6), (.v 14)])
     (.nd (.pr (.len [ki64]) [(.v 15)])
     (.out 0 [(.v 15)])))))))))
    (.nd (.pr (.len [ki64]) [(.v 9)])
    (.nd (.pr (.bin .add .i64) [(.v 5), (.k (.i 1))])
    (.out 0 [(.v 11), (.v 9)]))))
    (.out 2 [(.v 6)])))))
 (.nd (.pr (.len [ki64]) [(.v 5)])
 (.out 1 [(.v 5)]))))))
def e8 : Fe := ⟨⟨24, [ki64, ki64, (.sl [ki64, ki64])], [(.agg [(.dat ki64 (.v 0)), (.dat ki64 (.v 1)), (.lz [ki64, ki64] (.v 2))])], [], [(.sl [ki64])], [(.sl 0 (.k (.i 0)) (.v 4) 1)], [(0, (.arr [ki64] (.v 3) (.v 4)))], 1⟩,
 ⟨[(61, ⟨[(.sl [ki64])], [(3, (.sl 0 (.k (.i 0)) (.v 6) 1))], [(0, (.arr [ki64] (.v 5) (.v 6)))], 1⟩), (122, ⟨[ki64, (.sl [ki64])], [(1, (.ptr 0 0)), (3, (.sl 1 (.k (.i 0)) (.v 7) 1)), (4, (.dat ki64 (.v 5)))], [(0, (.cells [(.dat ki64 (.v 0)), (.dat ki64 (.v 1)), (.lz [ki64, ki64] (.v 2))])), (1, (.arr [ki64] (.v 6) (.v 7)))], 2⟩), (978, ⟨[(.sl [ki64])], [(1, (.ptr 0 0)), (3, (.sl 1 (.k (.i 0)) (.v 10) 1)), (4, (.dat ki64 (.v 5)))], [(0, (.cells [(.dat ki64 (.v 0)), (.dat ki64 (.v 1)), (.lz [ki64, ki64] (.v 2))])), (1, (.arr [ki64] (.v 9) (.v 10)))], 2⟩)], [(1956, [1])]⟩,
 [(2, (.sl 0 (.k (.i 0)) (.v 4) 1))], some t8, fun _ => none⟩
/-- loop.example/g00709/laws.same -/
def t9 : Tr :=
(.nd (.pr (.len [ki64]) [(.v 0)])
(.nd (.pr (.len [ki64]) [(.v 1)])
(.nd (.pr (.cmp .neq .i64) [(.v 2), (.v 3)])
(.ite (.v 4)
 (.out 1 [(.k (.b false))])
 (.blk 2 []
  (.loop [ki64] [(.k (.i 0))]
   (.nd (.pr (.len [ki64]) [(.v 0)])
   (.nd (.pr (.cmp .lss .i64) [(.v 5), (.v 6)])
   (.ite (.v 7)
    (.blk 3 []
     (.nd (.pr (.len [ki64]) [(.v 0)])
     (.nd (.pr (.ixc .i64) [(.v 5), (.v 8)])
     (.nd (.pr (.get [ki64] 0) [(.v 0), (.v 9)])
     (.nd (.pr (.len [ki64]) [(.v 1)])
     (.nd (.pr (.ixc .i64) [(.v 5), (.v 11)])
     (.nd (.pr (.get [ki64] 0) [(.v 1), (.v 12)])
     (.nd (.pr (.cmp .neq .i64) [(.v 10), (.v 13)])
     (.ite (.v 14)
      (.out 1 [(.k (.b false))])
      (.out 0 [])))))))))
    (.nd (.pr (.bin .add .i64) [(.v 5), (.k (.i 1))])
    (.out 0 [(.v 8)])))
    (.out 2 [])))))
 (.out 1 [(.k (.b true))]))))))
def e9 : Fe := ⟨⟨23, [(.sl [ki64]), (.sl [ki64])], [(.lz [ki64] (.v 0)), (.lz [ki64] (.v 1))], [], [kb], [(.dat kb (.v 2))], [], 0⟩,
 ⟨[(29, ⟨[], [], [], 0⟩), (58, ⟨[ki64], [(0, (.lz [ki64] (.v 0))), (1, (.lz [ki64] (.v 1))), (5, (.dat ki64 (.v 5)))], [], 0⟩), (466, ⟨[], [(0, (.lz [ki64] (.v 0))), (1, (.lz [ki64] (.v 1))), (5, (.dat ki64 (.v 5)))], [], 0⟩)], []⟩,
 [(4, (.dat kb (.v 2)))], some t9, fun _ => none⟩
/-- loop.example/g00709/spec.RingOk -/
def t10 : Tr :=
(.nd (.pr (.len [ki64, ki64]) [(.v 2)])
(.seq [kb]
 (.nd (.pr (.cmp .lss .i64) [(.v 3), (.k (.i 1))])
 (.ite (.v 4)
  (.out 0 [(.k (.b true))])
  (.nd (.pr (.cmp .gtr .i64) [(.v 3), (.k (.i 32))])
  (.ite (.v 5)
   (.out 0 [(.k (.b true))])
   (.nd (.pr (.cmp .lss .i64) [(.v 0), (.k (.i 0))])
   (.ite (.v 6)
    (.out 0 [(.k (.b true))])
    (.nd (.pr (.cmp .gtr .i64) [(.v 0), (.v 1)])
    (.ite (.v 7)
     (.out 0 [(.k (.b true))])
     (.nd (.pr (.cmp .gtr .i64) [(.v 1), (.k (.i 1000000))])
     (.ite (.v 8)
      (.out 0 [(.k (.b true))])
      (.nd (.pr (.bin .add .i64) [(.v 0), (.v 3)])
      (.nd (.pr (.cmp .gtr .i64) [(.v 1), (.v 9)])
      (.out 0 [(.v 10)])))))))))))))
(.ite (.v 4)
 (.out 1 [(.k (.b false))])
 (.blk 2 []
  (.loop [ki64] [(.v 0)]
   (.nd (.pr (.bin .add .i64) [(.v 0), (.v 3)])
   (.nd (.pr (.cmp .lss .i64) [(.v 5), (.v 6)])
   (.ite (.v 7)
    (.blk 3 []
     (.nd (.pr (.bin .rem .i64) [(.v 5), (.v 3)])
     (.nd (.pr (.len [ki64, ki64]) [(.v 2)])
     (.nd (.pr (.ixc .i64) [(.v 8), (.v 9)])
     (.nd (.pr (.get [ki64, ki64] 0) [(.v 2), (.v 10)])
     (.nd (.pr (.get [ki64, ki64] 1) [(.v 2), (.v 10)])
     (.seq [kb]
      (.nd (.pr (.cmp .lss .i64) [(.v 12), (.k (.i 0))])
      (.ite (.v 13)
       (.out 0 [(.k (.b true))])
       (.nd (.pr (.cmp .gtr .i64) [(.v 12), (.k (.i 255))])
       (.ite (.v 14)
        (.out 0 [(.k (.b true))])
        (.nd (.pr (.cmp .lss .i64) [(.v 5), (.v 1)])
        (.ite (.v 15)
         (.nd (.pr (.bin .add .i64) [(.v 5), (.k (.i 1))])
         (.nd (.pr (.cmp .neq .i64) [(.v 11), (.v 16)])
         (.ite (.v 17)
          (.out 0 [(.k (.b true))])
          (.nd (.pr (.cmp .geq .i64) [(.v 5), (.v 1)])
          (.ite (.v 18)
           (.nd (.pr (.cmp .eql .i64) [(.v 11), (.v 5)])
           (.nd (.pr .and [(.k (.b true)), (.v 19)])
           (.nd (.pr (.cmp .eql .i64) [(.v 12), (.k (.i 0))])
           (.nd (.pr .and [(.v 20), (.v 21)])
           (.nd (.pr .not [(.v 22)])
           (.out 0 [(.v 23)]))))))
           (.out 0 [(.k (.b false))]))))))
         (.nd (.pr (.cmp .geq .i64) [(.v 5), (.v 1)])
         (.ite (.v 16)
          (.nd (.pr (.cmp .eql .i64) [(.v 11), (.v 5)])
          (.nd (.pr .and [(.k (.b true)), (.v 17)])
          (.nd (.pr (.cmp .eql .i64) [(.v 12), (.k (.i 0))])
          (.nd (.pr .and [(.v 18), (.v 19)])
          (.nd (.pr .not [(.v 20)])
          (.out 0 [(.v 21)]))))))
          (.out 0 [(.k (.b false))])))))))))
     (.ite (.v 13)
      (.out 1 [(.k (.b false))])
      (.out 0 []))))))))
    (.nd (.pr (.bin .add .i64) [(.v 5), (.k (.i 1))])
    (.out 0 [(.v 8)])))
    (.out 2 [])))))
 (.out 1 [(.k (.b true))])))))
def e10 : Fe := ⟨⟨25, [ki64, ki64, (.sl [ki64, ki64])], [(.agg [(.dat ki64 (.v 0)), (.dat ki64 (.v 1)), (.lz [ki64, ki64] (.v 2))])], [], [kb], [(.dat kb (.v 3))], [], 0⟩,
 ⟨[(61, ⟨[], [], [], 0⟩), (122, ⟨[ki64], [(1, (.ptr 0 0)), (3, (.dat ki64 (.v 3))), (4, (.dat ki64 (.v 5)))], [(0, (.cells [(.dat ki64 (.v 0)), (.dat ki64 (.v 1)), (.lz [ki64, ki64] (.v 2))]))], 1⟩), (978, ⟨[], [(1, (.ptr 0 0)), (3, (.dat ki64 (.v 3))), (4, (.dat ki64 (.v 5)))], [(0, (.cells [(.dat ki64 (.v 0)), (.dat ki64 (.v 1)), (.lz [ki64, ki64] (.v 2))]))], 1⟩), (3913, ⟨[kb], [(1, (.ptr 0 0)), (3, (.dat ki64 (.v 3))), (4, (.dat ki64 (.v 5))), (90, (.dat kb (.v 13)))], [(0, (.cells [(.dat ki64 (.v 0)), (.dat ki64 (.v 1)), (.lz [ki64, ki64] (.v 2))]))], 1⟩), (14, ⟨[kb], [(1, (.ptr 0 0)), (3, (.dat ki64 (.v 3))), (40, (.dat kb (.v 4)))], [(0, (.cells [(.dat ki64 (.v 0)), (.dat ki64 (.v 1)), (.lz [ki64, ki64] (.v 2))]))], 1⟩)], []⟩,
 [(2, (.dat kb (.v 3)))], some t10, fun _ => none⟩
/-- loop.example/g00709/impl.RingOk -/
def t11 : Tr :=
(.nd (.call 4 [(.v 0), (.v 1), (.v 2)] [ki64, ki64, (.sl [ki64, ki64])] [kb])
(.out 1 [(.v 3)]))
def e11 : Fe := ⟨⟨26, [ki64, ki64, (.sl [ki64, ki64])], [(.agg [(.dat ki64 (.v 0)), (.dat ki64 (.v 1)), (.lz [ki64, ki64] (.v 2))])], [], [kb], [(.dat kb (.v 3))], [], 0⟩,
 ⟨[], []⟩,
 [(2, (.dat kb (.v 3)))], some t11, fun _ => none⟩
/-- loop.example/g00709/laws.FnRing -/
def t12 : Tr :=
(.nd (.call 0 [(.v 0)] [(.sl [ku8])] [kb])
(.ite (.v 1)
 (.out 1 [(.k (.b true))])
 (.nd (.call 1 [(.v 0), (.k (.i 3)), (.k (.i 5))] [(.sl [ku8]), ki64, ki64] [ki64])
 (.nd (.pr (.bin .add .i64) [(.k (.i 1)), (.v 2)])
 (.nd (.call 3 [(.v 3)] [ki64] [kb, (.sl [ki64, ki64])])
 (.nd (.pr (.len [ki64, ki64]) [(.v 5)])
 (.nd (.pr .not [(.v 4)])
 (.ite (.v 7)
  (.out 1 [(.k (.b false))])
  (.blk 2 []
   (.loop [ki64, ki64, ki64, (.sl [ki64]), (.sl [ki64, ki64])] [(.k (.i 0)), (.k (.i 0)), (.k (.i 0)), (.k (.l [])), (.v 5)]
    (.nd (.pr (.len [ki64]) [(.v 11)])
    (.nd (.pr (.len [ki64, ki64]) [(.v 12)])
    (.nd (.pr (.len [ku8]) [(.v 0)])
    (.nd (.pr (.mn .i64) [(.k (.i 40)), (.v 15)])
    (.nd (.pr (.cmp .lss .i64) [(.v 8), (.v 16)])
    (.ite (.v 17)
     (.blk 3 [ki64, ki64, (.sl [ki64]), (.sl [ki64, ki64])]
      (.seq [ki64, ki64, (.sl [ki64]), (.sl [ki64, ki64])]
       (.nd (.call 1 [(.v 0), (.v 8), (.k (.i 5))] [(.sl [ku8]), ki64, ki64] [ki64])
       (.nd (.pr (.cmp .lss .i64) [(.v 18), (.k (.i 3))])
       (.ite (.v 19)
        (.nd (.pr (.bin .add .i64) [(.v 8), (.k (.i 1))])
        (.nd (.call 1 [(.v 0), (.v 20), (.k (.i 256))] [(.sl [ku8]), ki64, ki64] [ki64])
        (.nd (.call 6 [(.v 9), (.v 10), (.v 12), (.v 21)] [ki64, ki64, (.sl [ki64, ki64]), ki64] [kb, ki64, ki64, (.sl [ki64, ki64])])
        (.nd (.pr (.len [ki64, ki64]) [(.v 25)])
        (.nd (.pr (.cmp .lss .i64) [(.v 13), (.v 3)])
        (.nd (.pr .eqb [(.v 22), (.v 27)])
        (.nd (.pr .not [(.v 28)])
        (.ite (.v 29)
         (.out 1 [(.k (.b false))])
         (.ite (.v 22)
          (.nd (.pr (.mk [ki64] 1) [(.v 21)])
          (.nd (.pr (.app [ki64] 8) [(.v 11), (.v 30)])
          (.nd (.pr (.len [ki64]) [(.v 31)])
          (.out 0 [(.v 23), (.v 24), (.v 31), (.v 25)]))))
          (.out 0 [(.v 9), (.v 10), (.v 11), (.v 12)]))))))))))
        (.nd (.call 7 [(.v 9), (.v 10), (.v 12)] [ki64, ki64, (.sl [ki64, ki64])] [ki64, kb, ki64, ki64, (.sl [ki64, ki64])])
        (.nd (.pr (.len [ki64, ki64]) [(.v 24)])
        (.seq [kb]
         (.nd (.pr (.cmp .gtr .i64) [(.v 13), (.k (.i 0))])
         (.nd (.pr .eqb [(.v 21), (.v 26)])
         (.nd (.pr .not [(.v 27)])
         (.ite (.v 28)
          (.out 0 [(.k (.b true))])
          (.ite (.v 21)
           (.nd (.pr (.ixc .i64) [(.k (.i 0)), (.v 13)])
           (.nd (.pr (.get [ki64] 0) [(.v 11), (.v 29)])
           (.nd (.pr (.cmp .neq .i64) [(.v 20), (.v 30)])
           (.out 0 [(.v 31)]))))
           (.out 0 [(.k (.b false))]))))))
        (.nd (.pr (.len [ki64]) [(.v 11)])
        (.nd (.pr (.len [ki64, ki64]) [(.v 12)])
        (.nd (.pr (.len [ki64, ki64]) [(.v 24)])
        (.ite (.v 26)
         (.out 1 [(.k (.b false))])
         (.ite (.v 21)
          (.nd (.pr (.rng .i64 .i64) [(.k (.i 1)), (.v 27), (.v 27)])
          (.nd (.pr (.cut [ki64] .i64 .i64) [(.v 11), (.k (.i 1)), (.v 27)])
          (.out 0 [(.v 22), (.v 23), (.v 31), (.v 24)])))
          (.out 0 [(.v 9), (.v 10), (.v 11), (.v 12)]))))))))))))
      (.nd (.pr (.len [ki64]) [(.v 20)])
      (.nd (.pr (.len [ki64, ki64]) [(.v 21)])
      (.seq [kb]
       (.nd (.call 8 [(.v 18), (.v 19), (.v 21)] [ki64, ki64, (.sl [ki64, ki64])] [(.sl [ki64])])
       (.nd (.pr (.len [ki64]) [(.v 24)])
       (.nd (.call 9 [(.v 24), (.v 20)] [(.sl [ki64]), (.sl [ki64])] [kb])
       (.nd (.pr .not [(.v 26)])
       (.ite (.v 27)
        (.out 0 [(.k (.b true))])
        (.nd (.call 10 [(.v 18), (.v 19), (.v 21)] [ki64, ki64, (.sl [ki64, ki64])] [kb])
        (.nd (.pr .not [(.v 28)])
        (.ite (.v 29)
         (.out 0 [(.k (.b true))])
         (.nd (.call 11 [(.v 18), (.v 19), (.v 21)] [ki64, ki64, (.sl [ki64, ki64])] [kb])
         (.nd (.pr .not [(.v 30)])
         (.ite (.v 31)
          (.out 0 [(.k (.b true))])
          (.nd (.pr (.bin .sub .i64) [(.v 19), (.v 18)])
          (.nd (.pr (.cmp .neq .i64) [(.v 32), (.v 22)])
          (.out 0 [(.v 33)]))))))))))))))
      (.nd (.pr (.len [ki64]) [(.v 20)])
      (.nd (.pr (.len [ki64, ki64]) [(.v 21)])
      (.ite (.v 24)
       (.out 1 [(.k (.b false))])
       (.out 0 [(.v 18), (.v 19), (.v 20), (.v 21)]))))))))
     (.nd (.pr (.len [ki64]) [(.v 20)])
     (.nd (.pr (.len [ki64, ki64]) [(.v 21)])
     (.nd (.pr (.bin .add .i64) [(.v 8), (.k (.i 1))])
     (.out 0 [(.v 24), (.v 18), (.v 19), (.v 20), (.v 21)])))))
     (.out 2 []))))))))
  (.out 1 [(.k (.b true))]))))))))))
def e12 : Fe := ⟨⟨4, [(.sl [ku8])], [(.dat (.sl [ku8]) (.v 0))], [], [kb], [(.dat kb (.v 1))], [], 0⟩,
 ⟨[(509, ⟨[], [], [], 0⟩), (1018, ⟨[ki64, ki64, ki64, (.sl [ki64]), (.sl [ki64, ki64])], [(0, (.dat (.sl [ku8]) (.v 0))), (3, (.dat ki64 (.v 3))), (4, (.ptr 0 0)), (6, (.sl 1 (.k (.i 0)) (.v 13) 1)), (7, (.dat ki64 (.v 8)))], [(0, (.cells [(.dat ki64 (.v 9)), (.dat ki64 (.v 10)), (.sl 2 (.k (.i 0)) (.v 14) 2)])), (1, (.arr [ki64] (.v 11) (.v 13))), (2, (.arr [ki64, ki64] (.v 12) (.v 14)))], 3⟩), (8146, ⟨[ki64, ki64, (.sl [ki64]), (.sl [ki64, ki64])], [(0, (.dat (.sl [ku8]) (.v 0))), (3, (.dat ki64 (.v 3))), (4, (.ptr 0 0)), (6, (.sl 1 (.k (.i 0)) (.v 22) 1)), (7, (.dat ki64 (.v 8)))], [(0, (.cells [(.dat ki64 (.v 18)), (.dat ki64 (.v 19)), (.sl 2 (.k (.i 0)) (.v 23) 2)])), (1, (.arr [ki64] (.v 20) (.v 22))), (2, (.arr [ki64, ki64] (.v 21) (.v 23)))], 3⟩), (32585, ⟨[kb], [(0, (.dat (.sl [ku8]) (.v 0))), (3, (.dat ki64 (.v 3))), (4, (.ptr 0 0)), (6, (.sl 1 (.k (.i 0)) (.v 25) 1)), (7, (.dat ki64 (.v 8))), (109, (.dat kb (.v 24)))], [(0, (.cells [(.dat ki64 (.v 18)), (.dat ki64 (.v 19)), (.sl 2 (.k (.i 0)) (.v 26) 2)])), (1, (.arr [ki64] (.v 20) (.v 25))), (2, (.arr [ki64, ki64] (.v 21) (.v 26)))], 3⟩), (16292, ⟨[ki64, ki64, (.sl [ki64]), (.sl [ki64, ki64])], [(0, (.dat (.sl [ku8]) (.v 0))), (3, (.dat ki64 (.v 3))), (4, (.ptr 0 0)), (6, (.sl 1 (.k (.i 0)) (.v 22) 1)), (7, (.dat ki64 (.v 8)))], [(0, (.cells [(.dat ki64 (.v 18)), (.dat ki64 (.v 19)), (.sl 2 (.k (.i 0)) (.v 23) 2)])), (1, (.arr [ki64] (.v 20) (.v 22))), (2, (.arr [ki64, ki64] (.v 21) (.v 23)))], 3⟩), (521358, ⟨[kb], [(0, (.dat (.sl [ku8]) (.v 0))), (3, (.dat ki64 (.v 3))), (4, (.ptr 0 0)), (6, (.sl 1 (.k (.i 0)) (.v 27) 1)), (7, (.dat ki64 (.v 8))), (11, (.ptr 2 0)), (13, (.dat kb (.v 21))), (80, (.dat kb (.v 26)))], [(0, (.cells [(.dat ki64 (.v 9)), (.dat ki64 (.v 10)), (.sl 3 (.k (.i 0)) (.v 28) 2)])), (1, (.arr [ki64] (.v 11) (.v 27))), (2, (.cells [(.dat ki64 (.v 22)), (.dat ki64 (.v 23)), (.sl 4 (.k (.i 0)) (.v 29) 2)])), (3, (.arr [ki64, ki64] (.v 12) (.v 28))), (4, (.arr [ki64, ki64] (.v 24) (.v 29)))], 5⟩)], [(0, [1])]⟩,
 [(2, (.dat kb (.v 1)))], some t12, fun _ => none⟩
def fes : List Fe := [e0, e1, e2, e3, e4, e5, e6, e7, e8, e9, e10, e11, e12]
theorem tabOk : TabOk Try.prog tab := tabB_ok (by kernel_rfl)
theorem ok0 : e0.ok Try.prog tab (sigsOf fes) (kindsOf fes) = true := by kernel_rfl
theorem ok1 : e1.ok Try.prog tab (sigsOf fes) (kindsOf fes) = true := by kernel_rfl
theorem ok2 : e2.ok Try.prog tab (sigsOf fes) (kindsOf fes) = true := by kernel_rfl
theorem ok3 : e3.ok Try.prog tab (sigsOf fes) (kindsOf fes) = true := by kernel_rfl
theorem ok4 : e4.ok Try.prog tab (sigsOf fes) (kindsOf fes) = true := by kernel_rfl
theorem ok5 : e5.ok Try.prog tab (sigsOf fes) (kindsOf fes) = true := by kernel_rfl
theorem ok6 : e6.ok Try.prog tab (sigsOf fes) (kindsOf fes) = true := by kernel_rfl
theorem ok7 : e7.ok Try.prog tab (sigsOf fes) (kindsOf fes) = true := by kernel_rfl
theorem ok8 : e8.ok Try.prog tab (sigsOf fes) (kindsOf fes) = true := by kernel_rfl
theorem ok9 : e9.ok Try.prog tab (sigsOf fes) (kindsOf fes) = true := by kernel_rfl
theorem ok10 : e10.ok Try.prog tab (sigsOf fes) (kindsOf fes) = true := by kernel_rfl
theorem ok11 : e11.ok Try.prog tab (sigsOf fes) (kindsOf fes) = true := by kernel_rfl
theorem ok12 : e12.ok Try.prog tab (sigsOf fes) (kindsOf fes) = true := by kernel_rfl
theorem fesOk : FeL Try.prog tab fes 0 fes := ⟨ok0, ok1, ok2, ok3, ok4, ok5, ok6, ok7, ok8, ok9, ok10, ok11, ok12, trivial⟩
end Go.Proofs.Ytbacblphkppigaa.Ring
