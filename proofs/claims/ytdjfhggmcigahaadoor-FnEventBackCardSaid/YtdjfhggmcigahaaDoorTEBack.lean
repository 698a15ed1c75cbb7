/- What the functions behind FnEventBack compute, as trees; that they do is checked by the kernel. Printed by bench/Bench.lean. -/
import Derived.Test.YtdjfhggmcigahaaDoorB33
import Derived.Test.YtdjfhggmcigahaaDoorPR
import Derived.Test.YtdjfhggmcigahaaDoorProg
set_option maxRecDepth 100000
set_option linter.unusedVariables false
namespace Go.Proofs.YtdjfhggmcigahaaDoor.EBack
open Go.BH
def tab : TyTab := [(3, ⟨1, 8, false, (.int .i64), [(.int .i64 (0))], [ki64], false⟩),
 (4, ⟨1, 1, false, .bool, [(.bool false)], [kb], false⟩),
 (5, ⟨1, 1, false, (.int .u8), [(.int .u8 (0))], [ku8], false⟩),
 (9, ⟨1, 16, false, .str, [(.string ⟨#[]⟩)], [ks], false⟩),
 (28, ⟨1, 24, false, (.slice 3), [(.slice none 0 0)], [(.sl [ki64])], false⟩),
 (35, ⟨2, 32, true, (.struct [(3, 0), (28, 1)]), [(.int .i64 (0)), (.slice none 0 0)], [ki64, (.sl [ki64])], false⟩),
 (37, ⟨5, 56, true, (.struct [(3, 0), (3, 1), (3, 2), (35, 3)]), [(.int .i64 (0)), (.int .i64 (0)), (.int .i64 (0)), (.int .i64 (0)), (.slice none 0 0)], [ki64, ki64, ki64, ki64, (.sl [ki64])], false⟩),
 (45, ⟨1, 24, false, (.slice 5), [(.slice none 0 0)], [(.sl [ku8])], false⟩),
 (52, ⟨1, 24, false, (.slice 9), [(.slice none 0 0)], [(.sl [ks])], false⟩),
 (63, ⟨1, 8, false, .other, [(.pointer none)], [], false⟩),
 (68, ⟨1, 8, false, .other, [(.pointer none)], [], false⟩),
 (70, ⟨2, 32, true, (.struct [(68, 0), (45, 1)]), [(.pointer none), (.slice none 0 0)], [], false⟩),
 (72, ⟨1, 16, false, .iface, [.nilIface], [], false⟩),
 (80, ⟨3, 40, true, (.struct [(45, 0), (3, 1), (3, 2)]), [(.slice none 0 0), (.int .i64 (0)), (.int .i64 (0))], [(.sl [ku8]), ki64, ki64], false⟩),
 (90, ⟨1, 8, false, .other, [.nilFunc], [], false⟩),
 (93, ⟨1, 8, false, (.int .u64), [(.int .u64 (0))], [ku64], false⟩)]
/-- loop.example/g00709/laws.big -/
def t0 : Tr :=
(.nd (.pr (.len [ku8]) [(.v 0)])
(.nd (.pr (.cmp .gtr .i64) [(.v 1), (.k (.i 1048576))])
(.out 1 [(.v 2)])))
def e0 : Fe := ⟨⟨19, [(.sl [ku8])], [(.dat (.sl [ku8]) (.v 0))], [], [kb], [(.dat kb (.v 1))], [], 0⟩,
 ⟨[], []⟩,
 [(2, (.dat kb (.v 1)))], some t0, fun _ => none⟩
/-- loop.example/g00709/spec.l01Open -/
def t1 : Tr :=
(.nd (.pr (.len [ku8]) [(.v 0)])
(.nd (.pr (.bin .rem .i64) [(.v 1), (.k (.i 1000))])
(.nd (.pr (.bin .add .i64) [(.k (.i 107)), (.v 2)])
(.out 1 [(.v 3)]))))
def e1 : Fe := ⟨⟨39, [(.sl [ku8])], [(.dat (.sl [ku8]) (.v 0))], [], [ki64], [(.ptr 0 0)], [(0, (.cells [(.dat (.sl [ku8]) (.v 0)), (.dat ki64 (.k (.i 0))), (.dat ki64 (.v 1))]))], 1⟩,
 ⟨[], []⟩,
 [(2, (.ptr 0 0))], some t1, fun _ => none⟩
/-- (*loop.example/g00709/spec.l01Cur).pick -/
def t2 : Tr :=
(.nd (.pr (.cmp .lss .i64) [(.v 3), (.k (.i 2))])
(.ite (.v 4)
 (.out 1 [(.k (.i 0)), (.v 1), (.v 2)])
 (.seq [ki64, ki64]
  (.nd (.pr (.len [ku8]) [(.v 0)])
  (.nd (.pr (.cmp .lss .i64) [(.v 1), (.v 5)])
  (.ite (.v 6)
   (.nd (.pr (.len [ku8]) [(.v 0)])
   (.nd (.pr (.ixc .i64) [(.v 1), (.v 7)])
   (.nd (.pr (.get [ku8] 0) [(.v 0), (.v 8)])
   (.nd (.pr (.conv .u8 .i64) [(.v 9)])
   (.out 0 [(.v 10), (.v 2)])))))
   (.nd (.pr (.bin .mul .i64) [(.v 2), (.k (.i 1103))])
   (.nd (.pr (.bin .add .i64) [(.v 7), (.k (.i 12345))])
   (.nd (.pr (.bin .rem .i64) [(.v 8), (.k (.i 65521))])
   (.nd (.pr (.len [ku8]) [(.v 0)])
   (.nd (.pr (.cmp .gtr .i64) [(.v 10), (.k (.i 0))])
   (.ite (.v 11)
    (.nd (.pr (.bin .quo .i64) [(.v 9), (.k (.i 7))])
    (.nd (.pr (.len [ku8]) [(.v 0)])
    (.nd (.pr (.bin .rem .i64) [(.v 1), (.v 13)])
    (.nd (.pr (.len [ku8]) [(.v 0)])
    (.nd (.pr (.ixc .i64) [(.v 14), (.v 15)])
    (.nd (.pr (.get [ku8] 0) [(.v 0), (.v 16)])
    (.nd (.pr (.conv .u8 .i64) [(.v 17)])
    (.nd (.pr (.bin .add .i64) [(.v 12), (.v 18)])
    (.out 0 [(.v 19), (.v 9)])))))))))
    (.out 0 [(.k (.i 0)), (.v 9)]))))))))))
 (.nd (.pr (.bin .add .i64) [(.v 1), (.k (.i 1))])
 (.nd (.pr (.bin .rem .i64) [(.v 5), (.v 3)])
 (.out 1 [(.v 8), (.v 7), (.v 6)]))))))
def e2 : Fe := ⟨⟨57, [(.sl [ku8]), ki64, ki64, ki64], [(.ptr 0 0), (.dat ki64 (.v 3))], [(0, (.cells [(.dat (.sl [ku8]) (.v 0)), (.dat ki64 (.v 1)), (.dat ki64 (.v 2))]))], [ki64, ki64, ki64], [(.dat ki64 (.v 4))], [(0, (.cells [(.dat (.sl [ku8]) (.v 0)), (.dat ki64 (.v 5)), (.dat ki64 (.v 6))]))], 1⟩,
 ⟨[(15, ⟨[ki64, ki64], [(0, (.ptr 0 0)), (1, (.dat ki64 (.v 3))), (5, (.dat ki64 (.v 5)))], [(0, (.cells [(.dat (.sl [ku8]) (.v 0)), (.dat ki64 (.v 1)), (.dat ki64 (.v 6))]))], 1⟩)], []⟩,
 [(4, (.dat ki64 (.v 4)))], some t2, fun _ => none⟩
/-- (*loop.example/g00709/spec.l01Cur).raw -/
def t3 : Tr :=
(.nd (.call 2 [(.v 0), (.v 1), (.v 2), (.k (.i 8))] [(.sl [ku8]), ki64, ki64, ki64] [ki64, ki64, ki64])
(.blk 2 []
 (.nd (.pr (.cmp .eql .i64) [(.v 3), (.k (.i 0))])
 (.ite (.v 6)
  (.nd (.call 2 [(.v 0), (.v 4), (.v 5), (.k (.i 256))] [(.sl [ku8]), ki64, ki64, ki64] [ki64, ki64, ki64])
  (.nd (.pr (.bin .sub .i64) [(.v 7), (.k (.i 128))])
  (.out 1 [(.v 10), (.v 8), (.v 9)])))
  (.nd (.pr (.cmp .eql .i64) [(.v 3), (.k (.i 1))])
  (.ite (.v 7)
   (.nd (.pr (.mk [ki64] 8) [(.k (.i 9223372036854775807)), (.k (.i (-9223372036854775808))), (.k (.i 4611686018427387904)), (.k (.i 4294967295)), (.k (.i 4294967296)), (.k (.i (-1000))), (.k (.i 1000)), (.k (.i 64))])
   (.nd (.call 2 [(.v 0), (.v 4), (.v 5), (.k (.i 8))] [(.sl [ku8]), ki64, ki64, ki64] [ki64, ki64, ki64])
   (.nd (.pr (.ixc .i64) [(.v 9), (.k (.i 8))])
   (.nd (.pr (.get [ki64] 0) [(.v 8), (.v 12)])
   (.out 1 [(.v 13), (.v 10), (.v 11)])))))
   (.out 0 [])))))
(.nd (.call 2 [(.v 0), (.v 4), (.v 5), (.k (.i 14))] [(.sl [ku8]), ki64, ki64, ki64] [ki64, ki64, ki64])
(.nd (.pr (.bin .sub .i64) [(.v 6), (.k (.i 3))])
(.out 1 [(.v 9), (.v 7), (.v 8)])))))
def e3 : Fe := ⟨⟨58, [(.sl [ku8]), ki64, ki64], [(.ptr 0 0)], [(0, (.cells [(.dat (.sl [ku8]) (.v 0)), (.dat ki64 (.v 1)), (.dat ki64 (.v 2))]))], [ki64, ki64, ki64], [(.dat ki64 (.v 3))], [(0, (.cells [(.dat (.sl [ku8]) (.v 0)), (.dat ki64 (.v 4)), (.dat ki64 (.v 5))]))], 1⟩,
 ⟨[(13, ⟨[], [(0, (.ptr 0 0))], [(0, (.cells [(.dat (.sl [ku8]) (.v 0)), (.dat ki64 (.v 4)), (.dat ki64 (.v 5))]))], 1⟩)], []⟩,
 [(2, (.dat ki64 (.v 3)))], some t3, fun _ => none⟩
/-- (*loop.example/g00709/spec.l01Cur).req -/
def t4 : Tr :=
(.nd (.call 2 [(.v 0), (.v 1), (.v 2), (.k (.i 2))] [(.sl [ku8]), ki64, ki64, ki64] [ki64, ki64, ki64])
(.nd (.pr (.bin .add .i64) [(.k (.i 1)), (.v 3)])
(.blk 2 [ki64, ki64, (.sl [ki64])]
 (.loop [ki64, ki64, ki64, (.sl [ki64])] [(.k (.i 0)), (.v 4), (.v 5), (.k (.l []))]
  (.nd (.pr (.len [ki64]) [(.v 10)])
  (.nd (.pr (.cmp .lss .i64) [(.v 7), (.k (.i 8))])
  (.ite (.v 12)
   (.blk 3 [ki64, ki64, (.sl [ki64])]
    (.nd (.call 2 [(.v 0), (.v 8), (.v 9), (.k (.i 16))] [(.sl [ku8]), ki64, ki64, ki64] [ki64, ki64, ki64])
    (.nd (.pr (.bin .add .i64) [(.k (.i 1)), (.v 13)])
    (.nd (.call 2 [(.v 0), (.v 14), (.v 15), (.k (.i 4))] [(.sl [ku8]), ki64, ki64, ki64] [ki64, ki64, ki64])
    (.nd (.pr (.bin .add .i64) [(.k (.i 1)), (.v 17)])
    (.nd (.call 2 [(.v 0), (.v 18), (.v 19), (.k (.i 40))] [(.sl [ku8]), ki64, ki64, ki64] [ki64, ki64, ki64])
    (.nd (.pr (.bin .add .i64) [(.k (.i 17)), (.v 21)])
    (.nd (.pr (.mk [ki64] 4) [(.k (.i 0)), (.v 16), (.v 20), (.v 24)])
    (.nd (.call 2 [(.v 0), (.v 22), (.v 23), (.k (.i 4))] [(.sl [ku8]), ki64, ki64, ki64] [ki64, ki64, ki64])
    (.nd (.pr (.ixc .i64) [(.v 26), (.k (.i 4))])
    (.nd (.pr (.get [ki64] 0) [(.v 25), (.v 29)])
    (.seq [ki64, ki64, ki64]
     (.nd (.pr (.cmp .eql .i64) [(.v 6), (.k (.i 2))])
     (.ite (.v 31)
      (.nd (.call 2 [(.v 0), (.v 27), (.v 28), (.k (.i 6))] [(.sl [ku8]), ki64, ki64, ki64] [ki64, ki64, ki64])
      (.nd (.pr (.bin .mul .i64) [(.k (.i 16)), (.v 32)])
      (.nd (.call 2 [(.v 0), (.v 33), (.v 34), (.k (.i 24))] [(.sl [ku8]), ki64, ki64, ki64] [ki64, ki64, ki64])
      (.nd (.pr (.bin .mul .i64) [(.k (.i 4)), (.v 36)])
      (.nd (.call 2 [(.v 0), (.v 37), (.v 38), (.k (.i 100))] [(.sl [ku8]), ki64, ki64, ki64] [ki64, ki64, ki64])
      (.nd (.pr (.mk [ki64] 4) [(.k (.i (-1))), (.v 35), (.v 39), (.v 40)])
      (.nd (.call 2 [(.v 0), (.v 41), (.v 42), (.k (.i 4))] [(.sl [ku8]), ki64, ki64, ki64] [ki64, ki64, ki64])
      (.nd (.pr (.ixc .i64) [(.v 44), (.k (.i 4))])
      (.nd (.pr (.get [ki64] 0) [(.v 43), (.v 47)])
      (.out 0 [(.v 48), (.v 45), (.v 46)]))))))))))
      (.out 0 [(.v 30), (.v 27), (.v 28)])))
    (.nd (.pr (.len [ki64]) [(.v 10)])
    (.nd (.pr (.mk [ki64] 1) [(.v 31)])
    (.nd (.pr (.app [ki64] 8) [(.v 10), (.v 35)])
    (.nd (.pr (.len [ki64]) [(.v 36)])
    (.out 0 [(.v 32), (.v 33), (.v 36)]))))))))))))))))
   (.nd (.pr (.len [ki64]) [(.v 15)])
   (.nd (.pr (.bin .add .i64) [(.v 7), (.k (.i 1))])
   (.out 0 [(.v 17), (.v 13), (.v 14), (.v 15)]))))
   (.out 2 [(.v 8), (.v 9), (.v 10)])))))
(.nd (.pr (.len [ki64]) [(.v 9)])
(.nd (.call 2 [(.v 0), (.v 7), (.v 8), (.k (.i 16))] [(.sl [ku8]), ki64, ki64, ki64] [ki64, ki64, ki64])
(.blk 4 [ki64, ki64, ki64, (.sl [ki64])]
 (.nd (.pr (.cmp .eql .i64) [(.v 11), (.k (.i 0))])
 (.ite (.v 14)
  (.nd (.call 3 [(.v 0), (.v 12), (.v 13)] [(.sl [ku8]), ki64, ki64] [ki64, ki64, ki64])
  (.out 0 [(.v 16), (.v 17), (.v 15), (.v 9)]))
  (.nd (.pr (.cmp .eql .i64) [(.v 11), (.k (.i 1))])
  (.ite (.v 15)
   (.nd (.call 2 [(.v 0), (.v 12), (.v 13), (.k (.i 8))] [(.sl [ku8]), ki64, ki64, ki64] [ki64, ki64, ki64])
   (.nd (.call 3 [(.v 0), (.v 17), (.v 18)] [(.sl [ku8]), ki64, ki64] [ki64, ki64, ki64])
   (.nd (.pr (.mk [ki64] 5) [(.v 19), (.k (.i 256)), (.k (.i 257)), (.k (.i 4095)), (.k (.i 4096))])
   (.nd (.call 2 [(.v 0), (.v 20), (.v 21), (.k (.i 5))] [(.sl [ku8]), ki64, ki64, ki64] [ki64, ki64, ki64])
   (.nd (.pr (.ixc .i64) [(.v 23), (.k (.i 5))])
   (.nd (.pr (.get [ki64] 0) [(.v 22), (.v 26)])
   (.nd (.pr (.ixc .i64) [(.v 16), (.v 10)])
   (.nd (.pr (.set [ki64] 0) [(.v 9), (.v 28), (.v 27)])
   (.out 0 [(.v 24), (.v 25), (.v 6), (.v 29)])))))))))
   (.nd (.pr (.cmp .eql .i64) [(.v 11), (.k (.i 2))])
   (.ite (.v 16)
    (.nd (.pr (.rng .i64 .i64) [(.k (.i 0)), (.k (.i 7)), (.v 10)])
    (.nd (.pr (.cut [ki64] .i64 .i64) [(.v 9), (.k (.i 0)), (.k (.i 7))])
    (.out 0 [(.v 12), (.v 13), (.v 6), (.v 18)])))
    (.out 0 [(.v 12), (.v 13), (.v 6), (.v 9)])))))))
(.nd (.pr (.len [ki64]) [(.v 17)])
(.out 1 [(.v 14), (.v 15), (.v 16), (.v 17)]))))))))
def e4 : Fe := ⟨⟨59, [(.sl [ku8]), ki64, ki64], [(.ptr 0 0)], [(0, (.cells [(.dat (.sl [ku8]) (.v 0)), (.dat ki64 (.v 1)), (.dat ki64 (.v 2))]))], [ki64, ki64, ki64, (.sl [ki64])], [(.agg [(.dat ki64 (.v 5)), (.sl 2 (.k (.i 0)) (.v 7) 1)])], [(0, (.cells [(.dat (.sl [ku8]) (.v 0)), (.dat ki64 (.v 3)), (.dat ki64 (.v 4))])), (1, (.cells [(.dat ki64 (.v 5)), (.sl 2 (.k (.i 0)) (.v 7) 1)])), (2, (.arr [ki64] (.v 6) (.v 7)))], 3⟩,
 ⟨[(61, ⟨[ki64, ki64, ki64, (.sl [ki64])], [(2, (.ptr 1 0)), (3, (.ptr 2 0))], [(0, (.cells [(.dat (.sl [ku8]) (.v 0)), (.dat ki64 (.v 14)), (.dat ki64 (.v 15))])), (1, (.cells [(.dat ki64 (.k (.i 0))), .nilS])), (2, (.cells [(.dat ki64 (.v 16)), (.sl 3 (.k (.i 0)) (.v 18) 1)])), (3, (.arr [ki64] (.v 17) (.v 18)))], 4⟩), (29, ⟨[ki64, ki64, (.sl [ki64])], [(0, (.ptr 0 0)), (2, (.ptr 1 0)), (3, (.ptr 2 0))], [(0, (.cells [(.dat (.sl [ku8]) (.v 0)), (.dat ki64 (.v 7)), (.dat ki64 (.v 8))])), (1, (.cells [(.dat ki64 (.k (.i 0))), .nilS])), (2, (.cells [(.dat ki64 (.v 6)), (.sl 3 (.k (.i 0)) (.v 10) 1)])), (3, (.arr [ki64] (.v 9) (.v 10)))], 4⟩), (58, ⟨[ki64, ki64, ki64, (.sl [ki64])], [(0, (.ptr 0 0)), (2, (.ptr 1 0)), (3, (.ptr 2 0)), (4, (.dat ki64 (.v 7)))], [(0, (.cells [(.dat (.sl [ku8]) (.v 0)), (.dat ki64 (.v 8)), (.dat ki64 (.v 9))])), (1, (.cells [(.dat ki64 (.k (.i 0))), .nilS])), (2, (.cells [(.dat ki64 (.v 6)), (.sl 3 (.k (.i 0)) (.v 11) 1)])), (3, (.arr [ki64] (.v 10) (.v 11)))], 4⟩), (466, ⟨[ki64, ki64, (.sl [ki64])], [(0, (.ptr 0 0)), (2, (.ptr 1 0)), (3, (.ptr 2 0)), (4, (.dat ki64 (.v 7)))], [(0, (.cells [(.dat (.sl [ku8]) (.v 0)), (.dat ki64 (.v 13)), (.dat ki64 (.v 14))])), (1, (.cells [(.dat ki64 (.k (.i 0))), .nilS])), (2, (.cells [(.dat ki64 (.v 6)), (.sl 3 (.k (.i 0)) (.v 16) 1)])), (3, (.arr [ki64] (.v 15) (.v 16)))], 4⟩), (1865, ⟨[ki64, ki64, ki64], [(0, (.ptr 0 0)), (2, (.ptr 1 0)), (3, (.ptr 2 0)), (4, (.dat ki64 (.v 7))), (5, (.dat ki64 (.v 31)))], [(0, (.cells [(.dat (.sl [ku8]) (.v 0)), (.dat ki64 (.v 32)), (.dat ki64 (.v 33))])), (1, (.cells [(.dat ki64 (.k (.i 0))), .nilS])), (2, (.cells [(.dat ki64 (.v 6)), (.sl 3 (.k (.i 0)) (.v 34) 1)])), (3, (.arr [ki64] (.v 10) (.v 34)))], 4⟩)], [(0, [1]), (1966, [3, 0])]⟩,
 [(2, (.ptr 1 0))], some t4, fun _ => none⟩
/-- loop.example/g00709/spec.ReqOk -/
def t5 : Tr :=
(.seq [kb]
 (.nd (.pr (.len [ki64]) [(.v 1)])
 (.nd (.pr (.cmp .neq .i64) [(.v 2), (.k (.i 8))])
 (.ite (.v 3)
  (.out 0 [(.k (.b true))])
  (.nd (.pr (.cmp .neq .i64) [(.v 0), (.k (.i 1))])
  (.ite (.v 4)
   (.nd (.pr (.cmp .neq .i64) [(.v 0), (.k (.i 2))])
   (.out 0 [(.v 5)]))
   (.out 0 [(.k (.b false))]))))))
(.ite (.v 2)
 (.out 1 [(.k (.b false))])
 (.blk 2 []
  (.loop [ki64] [(.k (.i 0))]
   (.nd (.pr (.len [ki64]) [(.v 1)])
   (.nd (.pr (.cmp .lss .i64) [(.v 3), (.v 4)])
   (.ite (.v 5)
    (.blk 3 []
     (.nd (.pr (.len [ki64]) [(.v 1)])
     (.nd (.pr (.ixc .i64) [(.v 3), (.v 6)])
     (.nd (.pr (.get [ki64] 0) [(.v 1), (.v 7)])
     (.seq [kb]
      (.nd (.pr (.cmp .eql .i64) [(.v 0), (.k (.i 1))])
      (.ite (.v 9)
       (.nd (.pr (.cmp .lss .i64) [(.v 8), (.k (.i 0))])
       (.ite (.v 10)
        (.out 0 [(.k (.b true))])
        (.nd (.pr (.cmp .gtr .i64) [(.v 8), (.k (.i 256))])
        (.ite (.v 11)
         (.out 0 [(.k (.b true))])
         (.nd (.pr (.cmp .eql .i64) [(.v 0), (.k (.i 2))])
         (.ite (.v 12)
          (.nd (.pr (.cmp .lss .i64) [(.v 8), (.k (.i (-1)))])
          (.ite (.v 13)
           (.out 0 [(.k (.b true))])
           (.nd (.pr (.cmp .gtr .i64) [(.v 8), (.k (.i 4095))])
           (.out 0 [(.v 14)]))))
          (.out 0 [(.k (.b false))])))))))
       (.nd (.pr (.cmp .eql .i64) [(.v 0), (.k (.i 2))])
       (.ite (.v 10)
        (.nd (.pr (.cmp .lss .i64) [(.v 8), (.k (.i (-1)))])
        (.ite (.v 11)
         (.out 0 [(.k (.b true))])
         (.nd (.pr (.cmp .gtr .i64) [(.v 8), (.k (.i 4095))])
         (.out 0 [(.v 12)]))))
        (.out 0 [(.k (.b false))])))))
     (.ite (.v 9)
      (.out 1 [(.k (.b false))])
      (.out 0 []))))))
    (.nd (.pr (.bin .add .i64) [(.v 3), (.k (.i 1))])
    (.out 0 [(.v 6)])))
    (.out 2 [])))))
 (.out 1 [(.k (.b true))]))))
def e5 : Fe := ⟨⟨42, [ki64, (.sl [ki64])], [(.agg [(.dat ki64 (.v 0)), (.lz [ki64] (.v 1))])], [], [kb], [(.dat kb (.v 2))], [], 0⟩,
 ⟨[(29, ⟨[], [], [], 0⟩), (58, ⟨[ki64], [(1, (.ptr 0 0)), (3, (.dat ki64 (.v 3)))], [(0, (.cells [(.dat ki64 (.v 0)), (.lz [ki64] (.v 1))]))], 1⟩), (466, ⟨[], [(1, (.ptr 0 0)), (3, (.dat ki64 (.v 3)))], [(0, (.cells [(.dat ki64 (.v 0)), (.lz [ki64] (.v 1))]))], 1⟩), (1865, ⟨[kb], [(1, (.ptr 0 0)), (3, (.dat ki64 (.v 3))), (54, (.dat kb (.v 9)))], [(0, (.cells [(.dat ki64 (.v 0)), (.lz [ki64] (.v 1))]))], 1⟩), (6, ⟨[kb], [(1, (.ptr 0 0)), (18, (.dat kb (.v 2)))], [(0, (.cells [(.dat ki64 (.v 0)), (.lz [ki64] (.v 1))]))], 1⟩)], []⟩,
 [(2, (.dat kb (.v 2)))], some t5, fun _ => none⟩
/-- (*loop.example/g00709/spec.l01Cur).goodReq -/
def t6 : Tr :=
(.blk 2 [ki64, ki64]
 (.loop [ki64, ki64, ki64] [(.k (.i 0)), (.v 1), (.v 2)]
  (.nd (.pr (.cmp .lss .i64) [(.v 3), (.k (.i 9))])
  (.ite (.v 6)
   (.blk 3 [ki64, ki64]
    (.nd (.call 4 [(.v 0), (.v 4), (.v 5)] [(.sl [ku8]), ki64, ki64] [ki64, ki64, ki64, (.sl [ki64])])
    (.nd (.pr (.len [ki64]) [(.v 10)])
    (.nd (.call 5 [(.v 9), (.v 10)] [ki64, (.sl [ki64])] [kb])
    (.ite (.v 12)
     (.out 1 [(.v 7), (.v 8), (.v 9), (.v 10)])
     (.out 0 [(.v 7), (.v 8)])))))
   (.nd (.pr (.bin .add .i64) [(.v 3), (.k (.i 1))])
   (.out 0 [(.v 9), (.v 7), (.v 8)])))
   (.out 2 [(.v 4), (.v 5)]))))
(.nd (.pr (.mk [ki64] 8) [(.k (.i 1)), (.k (.i 2)), (.k (.i 3)), (.k (.i 4)), (.k (.i 5)), (.k (.i 6)), (.k (.i 7)), (.k (.i 8))])
(.out 1 [(.v 3), (.v 4), (.k (.i 1)), (.v 5)])))
def e6 : Fe := ⟨⟨71, [(.sl [ku8]), ki64, ki64], [(.ptr 0 0)], [(0, (.cells [(.dat (.sl [ku8]) (.v 0)), (.dat ki64 (.v 1)), (.dat ki64 (.v 2))]))], [ki64, ki64, ki64, (.sl [ki64])], [(.agg [(.dat ki64 (.v 5)), (.sl 2 (.k (.i 0)) (.v 7) 1)])], [(0, (.cells [(.dat (.sl [ku8]) (.v 0)), (.dat ki64 (.v 3)), (.dat ki64 (.v 4))])), (1, (.cells [(.dat ki64 (.v 5)), (.sl 2 (.k (.i 0)) (.v 7) 1)])), (2, (.arr [ki64] (.v 6) (.v 7)))], 3⟩,
 ⟨[(13, ⟨[ki64, ki64], [(2, (.ptr 1 0))], [(0, (.cells [(.dat (.sl [ku8]) (.v 0)), (.dat ki64 (.v 3)), (.dat ki64 (.v 4))])), (1, (.cells [(.dat ki64 (.k (.i 0))), .nilS]))], 2⟩), (26, ⟨[ki64, ki64, ki64], [(0, (.ptr 0 0)), (2, (.ptr 1 0)), (3, (.dat ki64 (.v 3)))], [(0, (.cells [(.dat (.sl [ku8]) (.v 0)), (.dat ki64 (.v 4)), (.dat ki64 (.v 5))])), (1, (.cells [(.dat ki64 (.k (.i 0))), .nilS]))], 2⟩), (210, ⟨[ki64, ki64], [(0, (.ptr 0 0)), (2, (.ptr 1 0)), (3, (.dat ki64 (.v 3)))], [(0, (.cells [(.dat (.sl [ku8]) (.v 0)), (.dat ki64 (.v 7)), (.dat ki64 (.v 8))])), (1, (.cells [(.dat ki64 (.k (.i 0))), .nilS]))], 2⟩)], []⟩,
 [(2, (.ptr 1 0))], some t6, fun _ => none⟩
/-- (*loop.example/g00709/spec.l01Cur).once -/
def t7 : Tr :=
(.nd (.call 2 [(.v 0), (.v 1), (.v 2), (.v 3)] [(.sl [ku8]), ki64, ki64, ki64] [ki64, ki64, ki64])
(.nd (.pr (.bin .sub .i64) [(.v 3), (.k (.i 1))])
(.nd (.pr (.cmp .eql .i64) [(.v 4), (.v 7)])
(.out 1 [(.v 8), (.v 5), (.v 6)]))))
def e7 : Fe := ⟨⟨72, [(.sl [ku8]), ki64, ki64, ki64], [(.ptr 0 0), (.dat ki64 (.v 3))], [(0, (.cells [(.dat (.sl [ku8]) (.v 0)), (.dat ki64 (.v 1)), (.dat ki64 (.v 2))]))], [kb, ki64, ki64], [(.dat kb (.v 4))], [(0, (.cells [(.dat (.sl [ku8]) (.v 0)), (.dat ki64 (.v 5)), (.dat ki64 (.v 6))]))], 1⟩,
 ⟨[], []⟩,
 [(4, (.dat kb (.v 4)))], some t7, fun _ => none⟩
/-- (*loop.example/g00709/spec.l01Cur).event -/
def t8 : Tr :=
(.nd (.call 2 [(.v 0), (.v 1), (.v 2), (.k (.i 12))] [(.sl [ku8]), ki64, ki64, ki64] [ki64, ki64, ki64])
(.blk 2 [ki64, ki64]
 (.seq [kb]
  (.nd (.pr (.cmp .eql .i64) [(.v 3), (.k (.i 0))])
  (.ite (.v 6)
   (.out 0 [(.k (.b true))])
   (.nd (.pr (.cmp .eql .i64) [(.v 3), (.k (.i 1))])
   (.out 0 [(.v 7)]))))
 (.ite (.v 6)
  (.nd (.call 2 [(.v 0), (.v 4), (.v 5), (.k (.i 3))] [(.sl [ku8]), ki64, ki64, ki64] [ki64, ki64, ki64])
  (.nd (.call 6 [(.v 0), (.v 8), (.v 9)] [(.sl [ku8]), ki64, ki64] [ki64, ki64, ki64, (.sl [ki64])])
  (.nd (.pr (.len [ki64]) [(.v 13)])
  (.out 1 [(.v 10), (.v 11), (.k (.i 1)), (.v 7), (.k (.i 0)), (.v 12), (.v 13)]))))
  (.nd (.pr (.cmp .eql .i64) [(.v 3), (.k (.i 2))])
  (.ite (.v 7)
   (.nd (.call 7 [(.v 0), (.v 4), (.v 5), (.k (.i 3))] [(.sl [ku8]), ki64, ki64, ki64] [kb, ki64, ki64])
   (.ite (.v 8)
    (.nd (.call 2 [(.v 0), (.v 9), (.v 10), (.k (.i 2))] [(.sl [ku8]), ki64, ki64, ki64] [ki64, ki64, ki64])
    (.nd (.pr (.bin .add .i64) [(.k (.i 1)), (.v 11)])
    (.out 1 [(.v 12), (.v 13), (.k (.i 3)), (.k (.i 0)), (.v 14), (.k (.i 0)), (.k (.l []))])))
    (.out 0 [(.v 9), (.v 10)])))
   (.out 0 [(.v 4), (.v 5)])))))
(.nd (.call 2 [(.v 0), (.v 6), (.v 7), (.k (.i 3))] [(.sl [ku8]), ki64, ki64, ki64] [ki64, ki64, ki64])
(.out 1 [(.v 9), (.v 10), (.k (.i 2)), (.v 8), (.k (.i 0)), (.k (.i 0)), (.k (.l []))]))))
def e8 : Fe := ⟨⟨56, [(.sl [ku8]), ki64, ki64], [(.ptr 0 0)], [(0, (.cells [(.dat (.sl [ku8]) (.v 0)), (.dat ki64 (.v 1)), (.dat ki64 (.v 2))]))], [ki64, ki64, ki64, ki64, ki64, ki64, (.sl [ki64])], [(.agg [(.dat ki64 (.v 5)), (.dat ki64 (.v 6)), (.dat ki64 (.v 7)), (.dat ki64 (.v 8)), (.sl 2 (.k (.i 0)) (.v 10) 1)])], [(0, (.cells [(.dat (.sl [ku8]) (.v 0)), (.dat ki64 (.v 3)), (.dat ki64 (.v 4))])), (1, (.cells [(.dat ki64 (.v 5)), (.dat ki64 (.v 6)), (.dat ki64 (.v 7)), (.dat ki64 (.v 8)), (.sl 2 (.k (.i 0)) (.v 10) 1)])), (2, (.arr [ki64] (.v 9) (.v 10)))], 3⟩,
 ⟨[(13, ⟨[ki64, ki64], [(0, (.ptr 0 0)), (2, (.ptr 1 0))], [(0, (.cells [(.dat (.sl [ku8]) (.v 0)), (.dat ki64 (.v 6)), (.dat ki64 (.v 7))])), (1, (.cells [(.dat ki64 (.k (.i 0))), (.dat ki64 (.k (.i 0))), (.dat ki64 (.k (.i 0))), (.dat ki64 (.k (.i 0))), .nilS]))], 2⟩), (26, ⟨[kb], [(0, (.ptr 0 0)), (2, (.ptr 1 0)), (4, (.dat ki64 (.v 3))), (5, (.dat kb (.v 6)))], [(0, (.cells [(.dat (.sl [ku8]) (.v 0)), (.dat ki64 (.v 4)), (.dat ki64 (.v 5))])), (1, (.cells [(.dat ki64 (.k (.i 0))), (.dat ki64 (.k (.i 0))), (.dat ki64 (.k (.i 0))), (.dat ki64 (.k (.i 0))), .nilS]))], 2⟩)], []⟩,
 [(2, (.ptr 1 0))], some t8, fun _ => none⟩
/-- (*loop.example/g00709/spec.l01Cur).badEvent -/
def t9 : Tr :=
(.nd (.call 8 [(.v 0), (.v 1), (.v 2)] [(.sl [ku8]), ki64, ki64] [ki64, ki64, ki64, ki64, ki64, ki64, (.sl [ki64])])
(.nd (.pr (.len [ki64]) [(.v 9)])
(.nd (.call 2 [(.v 0), (.v 3), (.v 4), (.k (.i 12))] [(.sl [ku8]), ki64, ki64, ki64] [ki64, ki64, ki64])
(.blk 2 [ki64, ki64, ki64, ki64, ki64, ki64, (.sl [ki64])]
 (.nd (.pr (.cmp .eql .i64) [(.v 11), (.k (.i 0))])
 (.ite (.v 14)
  (.nd (.call 3 [(.v 0), (.v 12), (.v 13)] [(.sl [ku8]), ki64, ki64] [ki64, ki64, ki64])
  (.out 0 [(.v 16), (.v 17), (.v 15), (.v 6), (.v 7), (.v 8), (.v 9)]))
  (.nd (.pr (.cmp .eql .i64) [(.v 11), (.k (.i 1))])
  (.ite (.v 15)
   (.nd (.call 3 [(.v 0), (.v 12), (.v 13)] [(.sl [ku8]), ki64, ki64] [ki64, ki64, ki64])
   (.nd (.pr (.mk [ki64] 3) [(.v 16), (.k (.i 3)), (.k (.i 4))])
   (.nd (.call 2 [(.v 0), (.v 17), (.v 18), (.k (.i 3))] [(.sl [ku8]), ki64, ki64, ki64] [ki64, ki64, ki64])
   (.nd (.pr (.ixc .i64) [(.v 20), (.k (.i 3))])
   (.nd (.pr (.get [ki64] 0) [(.v 19), (.v 23)])
   (.out 0 [(.v 21), (.v 22), (.v 5), (.v 24), (.v 7), (.v 8), (.v 9)]))))))
   (.nd (.pr (.cmp .eql .i64) [(.v 11), (.k (.i 2))])
   (.ite (.v 16)
    (.nd (.call 3 [(.v 0), (.v 12), (.v 13)] [(.sl [ku8]), ki64, ki64] [ki64, ki64, ki64])
    (.nd (.pr (.mk [ki64] 3) [(.v 17), (.k (.i 16)), (.k (.i 17))])
    (.nd (.call 2 [(.v 0), (.v 18), (.v 19), (.k (.i 3))] [(.sl [ku8]), ki64, ki64, ki64] [ki64, ki64, ki64])
    (.nd (.pr (.ixc .i64) [(.v 21), (.k (.i 3))])
    (.nd (.pr (.get [ki64] 0) [(.v 20), (.v 24)])
    (.out 0 [(.v 22), (.v 23), (.v 5), (.v 6), (.v 25), (.v 8), (.v 9)]))))))
    (.nd (.pr (.cmp .eql .i64) [(.v 11), (.k (.i 3))])
    (.ite (.v 17)
     (.nd (.call 4 [(.v 0), (.v 12), (.v 13)] [(.sl [ku8]), ki64, ki64] [ki64, ki64, ki64, (.sl [ki64])])
     (.nd (.pr (.len [ki64]) [(.v 21)])
     (.out 0 [(.v 18), (.v 19), (.v 5), (.v 6), (.v 7), (.v 20), (.v 21)])))
     (.out 0 [(.v 12), (.v 13), (.v 5), (.v 6), (.v 7), (.v 8), (.v 9)])))))))))
(.nd (.pr (.len [ki64]) [(.v 20)])
(.out 1 [(.v 14), (.v 15), (.v 16), (.v 17), (.v 18), (.v 19), (.v 20)]))))))
def e9 : Fe := ⟨⟨40, [(.sl [ku8]), ki64, ki64], [(.ptr 0 0)], [(0, (.cells [(.dat (.sl [ku8]) (.v 0)), (.dat ki64 (.v 1)), (.dat ki64 (.v 2))]))], [ki64, ki64, ki64, ki64, ki64, ki64, (.sl [ki64])], [(.agg [(.dat ki64 (.v 5)), (.dat ki64 (.v 6)), (.dat ki64 (.v 7)), (.dat ki64 (.v 8)), (.sl 2 (.k (.i 0)) (.v 10) 1)])], [(0, (.cells [(.dat (.sl [ku8]) (.v 0)), (.dat ki64 (.v 3)), (.dat ki64 (.v 4))])), (1, (.cells [(.dat ki64 (.v 5)), (.dat ki64 (.v 6)), (.dat ki64 (.v 7)), (.dat ki64 (.v 8)), (.sl 2 (.k (.i 0)) (.v 10) 1)])), (2, (.arr [ki64] (.v 9) (.v 10)))], 3⟩,
 ⟨[(29, ⟨[ki64, ki64, ki64, ki64, ki64, ki64, (.sl [ki64])], [(2, (.ptr 1 0)), (3, (.ptr 2 0))], [(0, (.cells [(.dat (.sl [ku8]) (.v 0)), (.dat ki64 (.v 14)), (.dat ki64 (.v 15))])), (1, (.cells [(.dat ki64 (.k (.i 0))), (.dat ki64 (.k (.i 0))), (.dat ki64 (.k (.i 0))), (.dat ki64 (.k (.i 0))), .nilS])), (2, (.cells [(.dat ki64 (.v 16)), (.dat ki64 (.v 17)), (.dat ki64 (.v 18)), (.dat ki64 (.v 19)), (.sl 3 (.k (.i 0)) (.v 21) 1)])), (3, (.arr [ki64] (.v 20) (.v 21)))], 4⟩)], []⟩,
 [(2, (.ptr 1 0))], some t9, fun _ => none⟩
/-- loop.example/g00709/spec.DrawEventBytes -/
def t10 : Tr :=
(.nd (.call 1 [(.v 0)] [(.sl [ku8])] [ki64])
(.nd (.call 9 [(.v 0), (.k (.i 0)), (.v 1)] [(.sl [ku8]), ki64, ki64] [ki64, ki64, ki64, ki64, ki64, ki64, (.sl [ki64])])
(.nd (.pr (.len [ki64]) [(.v 8)])
(.out 1 [(.v 4), (.v 5), (.v 6), (.v 7), (.v 8)]))))
def e10 : Fe := ⟨⟨20, [(.sl [ku8])], [(.dat (.sl [ku8]) (.v 0))], [], [ki64, ki64, ki64, ki64, (.sl [ki64])], [(.agg [(.dat ki64 (.v 1)), (.dat ki64 (.v 2)), (.dat ki64 (.v 3)), (.dat ki64 (.v 4)), (.sl 1 (.k (.i 0)) (.v 6) 1)])], [(0, (.cells [(.dat ki64 (.v 1)), (.dat ki64 (.v 2)), (.dat ki64 (.v 3)), (.dat ki64 (.v 4)), (.sl 1 (.k (.i 0)) (.v 6) 1)])), (1, (.arr [ki64] (.v 5) (.v 6)))], 2⟩,
 ⟨[], []⟩,
 [(2, (.ptr 0 0))], some t10, fun _ => none⟩
/-- loop.example/g00709/impl.within -/
def t11 : Tr :=
(.seq [kb]
 (.nd (.pr (.cmp .geq .i64) [(.v 0), (.v 1)])
 (.ite (.v 3)
  (.nd (.pr (.cmp .leq .i64) [(.v 0), (.v 2)])
  (.out 0 [(.v 4)]))
  (.out 0 [(.k (.b false))])))
(.out 1 [(.v 3)]))
def e11 : Fe := ⟨⟨27, [ki64, ki64, ki64], [(.dat ki64 (.v 0)), (.dat ki64 (.v 1)), (.dat ki64 (.v 2))], [], [kb], [(.dat kb (.v 3))], [], 0⟩,
 ⟨[(3, ⟨[kb], [(6, (.dat kb (.v 3)))], [], 0⟩)], []⟩,
 [(6, (.dat kb (.v 3)))], some t11, fun _ => none⟩
/-- loop.example/g00709/impl.isReq$1 -/
def t12 : Tr :=
(.nd (.call 11 [(.v 0), (.k (.i 0)), (.k (.i 256))] [ki64, ki64, ki64] [kb])
(.nd (.pr .not [(.v 1)])
(.out 1 [(.v 2)])))
def e12 : Fe := ⟨⟨66, [ki64], [(.dat ki64 (.v 0))], [], [kb], [(.dat kb (.v 1))], [], 0⟩,
 ⟨[], []⟩,
 [(2, (.dat kb (.v 1)))], some t12, fun _ => none⟩
/-- loop.example/g00709/impl.isReq$2 -/
def t13 : Tr :=
(.nd (.call 11 [(.v 0), (.k (.i (-1))), (.k (.i 4095))] [ki64, ki64, ki64] [kb])
(.nd (.pr .not [(.v 1)])
(.out 1 [(.v 2)])))
def e13 : Fe := ⟨⟨67, [ki64], [(.dat ki64 (.v 0))], [], [kb], [(.dat kb (.v 1))], [], 0⟩,
 ⟨[], []⟩,
 [(2, (.dat kb (.v 1)))], some t13, fun _ => none⟩
/-- slices.IndexFunc[[]int,int] -/
def t14 : Tr :=
(.nd (.pr (.len [ki64]) [(.v 0)])
(.blk 2 []
 (.loop [ki64] [(.k (.i 0))]
  (.nd (.pr (.cmp .lss .i64) [(.v 2), (.v 1)])
  (.ite (.v 3)
   (.blk 3 []
    (.nd (.pr (.len [ki64]) [(.v 0)])
    (.nd (.pr (.ixc .i64) [(.v 2), (.v 4)])
    (.nd (.pr (.get [ki64] 0) [(.v 0), (.v 5)])
    (.nd (.call 12 [(.v 6)] [ki64] [kb])
    (.ite (.v 7)
     (.out 1 [(.v 2)])
     (.out 0 []))))))
   (.nd (.pr (.bin .add .i64) [(.v 2), (.k (.i 1))])
   (.out 0 [(.v 4)])))
   (.out 2 []))))
(.out 1 [(.k (.i (-1)))])))
def e14 : Fe := ⟨⟨75, [(.sl [ki64])], [(.lz [ki64] (.v 0)), (.fn 66 [])], [], [ki64], [(.dat ki64 (.v 1))], [], 0⟩,
 ⟨[(13, ⟨[], [], [], 0⟩), (26, ⟨[ki64], [(0, (.lz [ki64] (.v 0))), (1, (.fn 66 [])), (7, (.dat ki64 (.v 1))), (8, (.dat ki64 (.v 2)))], [], 0⟩), (422, ⟨[], [(0, (.lz [ki64] (.v 0))), (1, (.fn 66 [])), (7, (.dat ki64 (.v 1))), (8, (.dat ki64 (.v 2)))], [], 0⟩)], []⟩,
 [(4, (.dat ki64 (.v 1)))], some t14, fun _ => none⟩
/-- slices.IndexFunc[[]int,int] -/
def t15 : Tr :=
(.nd (.pr (.len [ki64]) [(.v 0)])
(.blk 2 []
 (.loop [ki64] [(.k (.i 0))]
  (.nd (.pr (.cmp .lss .i64) [(.v 2), (.v 1)])
  (.ite (.v 3)
   (.blk 3 []
    (.nd (.pr (.len [ki64]) [(.v 0)])
    (.nd (.pr (.ixc .i64) [(.v 2), (.v 4)])
    (.nd (.pr (.get [ki64] 0) [(.v 0), (.v 5)])
    (.nd (.call 13 [(.v 6)] [ki64] [kb])
    (.ite (.v 7)
     (.out 1 [(.v 2)])
     (.out 0 []))))))
   (.nd (.pr (.bin .add .i64) [(.v 2), (.k (.i 1))])
   (.out 0 [(.v 4)])))
   (.out 2 []))))
(.out 1 [(.k (.i (-1)))])))
def e15 : Fe := ⟨⟨75, [(.sl [ki64])], [(.lz [ki64] (.v 0)), (.fn 67 [])], [], [ki64], [(.dat ki64 (.v 1))], [], 0⟩,
 ⟨[(13, ⟨[], [], [], 0⟩), (26, ⟨[ki64], [(0, (.lz [ki64] (.v 0))), (1, (.fn 67 [])), (7, (.dat ki64 (.v 1))), (8, (.dat ki64 (.v 2)))], [], 0⟩), (422, ⟨[], [(0, (.lz [ki64] (.v 0))), (1, (.fn 67 [])), (7, (.dat ki64 (.v 1))), (8, (.dat ki64 (.v 2)))], [], 0⟩)], []⟩,
 [(4, (.dat ki64 (.v 1)))], some t15, fun _ => none⟩
/-- slices.ContainsFunc[[]int,int] -/
def t16 : Tr :=
(.nd (.call 14 [(.v 0)] [(.sl [ki64])] [ki64])
(.nd (.pr (.cmp .geq .i64) [(.v 1), (.k (.i 0))])
(.out 1 [(.v 2)])))
def e16 : Fe := ⟨⟨65, [(.sl [ki64])], [(.lz [ki64] (.v 0)), (.fn 66 [])], [], [kb], [(.dat kb (.v 1))], [], 0⟩,
 ⟨[], []⟩,
 [(4, (.dat kb (.v 1)))], some t16, fun _ => none⟩
/-- slices.ContainsFunc[[]int,int] -/
def t17 : Tr :=
(.nd (.call 15 [(.v 0)] [(.sl [ki64])] [ki64])
(.nd (.pr (.cmp .geq .i64) [(.v 1), (.k (.i 0))])
(.out 1 [(.v 2)])))
def e17 : Fe := ⟨⟨65, [(.sl [ki64])], [(.lz [ki64] (.v 0)), (.fn 67 [])], [], [kb], [(.dat kb (.v 1))], [], 0⟩,
 ⟨[], []⟩,
 [(4, (.dat kb (.v 1)))], some t17, fun _ => none⟩
/-- loop.example/g00709/impl.isReq -/
def t18 : Tr :=
(.nd (.pr (.len [ki64]) [(.v 1)])
(.nd (.pr (.cmp .neq .i64) [(.v 2), (.k (.i 8))])
(.ite (.v 3)
 (.out 1 [(.k (.b false))])
 (.blk 2 []
  (.nd (.pr (.cmp .eql .i64) [(.v 0), (.k (.i 1))])
  (.ite (.v 4)
   (.nd (.call 16 [(.v 1)] [(.sl [ki64])] [kb])
   (.nd (.pr .not [(.v 5)])
   (.out 1 [(.v 6)])))
   (.nd (.pr (.cmp .eql .i64) [(.v 0), (.k (.i 2))])
   (.ite (.v 5)
    (.nd (.call 17 [(.v 1)] [(.sl [ki64])] [kb])
    (.nd (.pr .not [(.v 6)])
    (.out 1 [(.v 7)])))
    (.out 0 [])))))
 (.out 1 [(.k (.b false))])))))
def e18 : Fe := ⟨⟨50, [ki64, (.sl [ki64])], [(.agg [(.dat ki64 (.v 0)), (.lz [ki64] (.v 1))])], [], [kb], [(.dat kb (.v 2))], [], 0⟩,
 ⟨[(29, ⟨[], [], [], 0⟩)], []⟩,
 [(2, (.dat kb (.v 2)))], some t18, fun _ => none⟩
/-- loop.example/g00709/impl.isEvent -/
def t19 : Tr :=
(.seq [kb]
 (.nd (.pr (.cmp .eql .i64) [(.v 3), (.k (.i 0))])
 (.ite (.v 5)
  (.nd (.pr (.len [ki64]) [(.v 4)])
  (.nd (.pr (.cmp .eql .i64) [(.v 6), (.k (.i 0))])
  (.out 0 [(.v 7)])))
  (.out 0 [(.k (.b false))])))
(.blk 2 []
 (.nd (.pr (.cmp .eql .i64) [(.v 0), (.k (.i 1))])
 (.ite (.v 6)
  (.seq [kb]
   (.nd (.call 11 [(.v 1), (.k (.i 0)), (.k (.i 3))] [ki64, ki64, ki64] [kb])
   (.ite (.v 7)
    (.nd (.pr (.cmp .eql .i64) [(.v 2), (.k (.i 0))])
    (.ite (.v 8)
     (.nd (.call 18 [(.v 3), (.v 4)] [ki64, (.sl [ki64])] [kb])
     (.out 0 [(.v 9)]))
     (.out 0 [(.k (.b false))])))
    (.out 0 [(.k (.b false))])))
  (.out 1 [(.v 7)]))
  (.nd (.pr (.cmp .eql .i64) [(.v 0), (.k (.i 2))])
  (.ite (.v 7)
   (.seq [kb]
    (.nd (.call 11 [(.v 1), (.k (.i 0)), (.k (.i 3))] [ki64, ki64, ki64] [kb])
    (.ite (.v 8)
     (.nd (.pr (.cmp .eql .i64) [(.v 2), (.k (.i 0))])
     (.ite (.v 9)
      (.out 0 [(.v 5)])
      (.out 0 [(.k (.b false))])))
     (.out 0 [(.k (.b false))])))
   (.out 1 [(.v 8)]))
   (.nd (.pr (.cmp .eql .i64) [(.v 0), (.k (.i 3))])
   (.ite (.v 8)
    (.seq [kb]
     (.nd (.pr (.cmp .eql .i64) [(.v 1), (.k (.i 0))])
     (.ite (.v 9)
      (.nd (.call 11 [(.v 2), (.k (.i 1)), (.k (.i 16))] [ki64, ki64, ki64] [kb])
      (.ite (.v 10)
       (.out 0 [(.v 5)])
       (.out 0 [(.k (.b false))])))
      (.out 0 [(.k (.b false))])))
    (.out 1 [(.v 9)]))
    (.out 0 [])))))))
(.out 1 [(.k (.b false))])))
def e19 : Fe := ⟨⟨31, [ki64, ki64, ki64, ki64, (.sl [ki64])], [(.agg [(.dat ki64 (.v 0)), (.dat ki64 (.v 1)), (.dat ki64 (.v 2)), (.dat ki64 (.v 3)), (.lz [ki64] (.v 4))])], [], [kb], [(.dat kb (.v 5))], [], 0⟩,
 ⟨[(29, ⟨[], [], [], 0⟩), (3774, ⟨[kb], [(2, (.dat kb (.v 9)))], [], 0⟩), (942, ⟨[kb], [(2, (.dat kb (.v 8)))], [], 0⟩), (234, ⟨[kb], [(2, (.dat kb (.v 7)))], [], 0⟩), (3, ⟨[kb], [(1, (.ptr 0 0)), (3, (.dat kb (.v 5)))], [(0, (.cells [(.dat ki64 (.v 0)), (.dat ki64 (.v 1)), (.dat ki64 (.v 2)), (.dat ki64 (.v 3)), (.lz [ki64] (.v 4))]))], 1⟩)], []⟩,
 [(2, (.dat kb (.v 5)))], some t19, fun _ => none⟩
/-- loop.example/g00709/impl.numBytes -/
def t20 : Tr :=
(.blk 2 [ki64, (.sl [ku8])]
 (.loop [ki64, (.sl [ku8])] [(.v 1), (.v 0)]
  (.nd (.pr (.len [ku8]) [(.v 4)])
  (.nd (.pr (.cmp .gtr .i64) [(.v 3), (.k (.i 127))])
  (.ite (.v 6)
   (.blk 3 [(.sl [ku8])]
    (.nd (.pr (.bin .and .i64) [(.v 3), (.k (.i 127))])
    (.nd (.pr (.bin .or .i64) [(.v 7), (.k (.i 128))])
    (.nd (.pr (.conv .i64 .u8) [(.v 8)])
    (.nd (.pr (.mk [ku8] 1) [(.v 9)])
    (.nd (.pr (.app [ku8] 1) [(.v 4), (.v 10)])
    (.nd (.pr (.len [ku8]) [(.v 11)])
    (.out 0 [(.v 11)])))))))
   (.nd (.pr (.len [ku8]) [(.v 7)])
   (.nd (.pr (.sh .shr .i64 .u64) [(.v 3), (.k (.i 7))])
   (.out 0 [(.v 9), (.v 7)]))))
   (.out 2 [(.v 3), (.v 4)])))))
(.nd (.pr (.len [ku8]) [(.v 4)])
(.nd (.pr (.conv .i64 .u8) [(.v 3)])
(.nd (.pr (.mk [ku8] 1) [(.v 6)])
(.nd (.pr (.app [ku8] 1) [(.v 4), (.v 7)])
(.nd (.pr (.len [ku8]) [(.v 8)])
(.out 1 [(.v 8)])))))))
def e20 : Fe := ⟨⟨60, [(.sl [ku8]), ki64], [(.sl 0 (.k (.i 0)) (.v 2) 1), (.dat ki64 (.v 1))], [(0, (.arr [ku8] (.v 0) (.v 2)))], [(.sl [ku8])], [(.sl 1 (.k (.i 0)) (.v 3) 1)], [(1, (.arr [ku8] (.v 2) (.v 3)))], 2⟩,
 ⟨[(6, ⟨[ki64, (.sl [ku8])], [(0, (.sl 1 (.k (.i 0)) (.v 5) 1)), (1, (.dat ki64 (.v 3)))], [(1, (.arr [ku8] (.v 4) (.v 5)))], 2⟩), (12, ⟨[ki64, (.sl [ku8])], [(0, (.sl 1 (.k (.i 0)) (.v 5) 1)), (1, (.dat ki64 (.v 3)))], [(1, (.arr [ku8] (.v 4) (.v 5)))], 2⟩), (98, ⟨[(.sl [ku8])], [(0, (.sl 1 (.k (.i 0)) (.v 8) 1)), (1, (.dat ki64 (.v 3)))], [(1, (.arr [ku8] (.v 7) (.v 8)))], 2⟩)], []⟩,
 [(4, (.sl 1 (.k (.i 0)) (.v 3) 1))], some t20, fun _ => none⟩
/-- loop.example/g00709/impl.eventBytes -/
def t21 : Tr :=
(.nd (.pr (.conv .i64 .u8) [(.v 0)])
(.nd (.pr (.mk [ku8] 1) [(.v 5)])
(.blk 2 [(.sl [ku8])]
 (.nd (.pr (.cmp .eql .i64) [(.v 0), (.k (.i 1))])
 (.ite (.v 7)
  (.nd (.pr (.conv .i64 .u8) [(.v 3)])
  (.nd (.call 20 [(.v 6), (.v 1)] [(.sl [ku8]), ki64] [(.sl [ku8])])
  (.nd (.pr (.len [ku8]) [(.v 9)])
  (.nd (.pr (.mk [ku8] 1) [(.v 8)])
  (.nd (.pr (.app [ku8] 1) [(.v 9), (.v 11)])
  (.nd (.pr (.len [ku8]) [(.v 12)])
  (.nd (.pr (.len [ki64]) [(.v 4)])
  (.blk 3 [(.sl [ku8])]
   (.loop [ki64, (.sl [ku8])] [(.k (.i 0)), (.v 12)]
    (.nd (.pr (.len [ku8]) [(.v 16)])
    (.nd (.pr (.cmp .lss .i64) [(.v 15), (.v 14)])
    (.ite (.v 18)
     (.blk 4 [(.sl [ku8])]
      (.nd (.pr (.len [ki64]) [(.v 4)])
      (.nd (.pr (.ixc .i64) [(.v 15), (.v 19)])
      (.nd (.pr (.get [ki64] 0) [(.v 4), (.v 20)])
      (.nd (.pr (.bin .add .i64) [(.v 21), (.k (.i 1))])
      (.nd (.call 20 [(.v 16), (.v 22)] [(.sl [ku8]), ki64] [(.sl [ku8])])
      (.nd (.pr (.len [ku8]) [(.v 23)])
      (.out 0 [(.v 23)])))))))
     (.nd (.pr (.len [ku8]) [(.v 19)])
     (.nd (.pr (.bin .add .i64) [(.v 15), (.k (.i 1))])
     (.out 0 [(.v 21), (.v 19)]))))
     (.out 3 [(.v 16)])))))
  (.nd (.pr (.len [ku8]) [(.v 15)])
  (.out 0 [(.v 15)]))))))))))
  (.nd (.pr (.cmp .eql .i64) [(.v 0), (.k (.i 2))])
  (.ite (.v 8)
   (.nd (.call 20 [(.v 6), (.v 1)] [(.sl [ku8]), ki64] [(.sl [ku8])])
   (.nd (.pr (.len [ku8]) [(.v 9)])
   (.out 0 [(.v 9)])))
   (.nd (.call 20 [(.v 6), (.v 2)] [(.sl [ku8]), ki64] [(.sl [ku8])])
   (.nd (.pr (.len [ku8]) [(.v 9)])
   (.out 0 [(.v 9)])))))))
(.nd (.pr (.len [ku8]) [(.v 7)])
(.out 1 [(.v 7)])))))
def e21 : Fe := ⟨⟨41, [ki64, ki64, ki64, ki64, (.sl [ki64])], [(.agg [(.dat ki64 (.v 0)), (.dat ki64 (.v 1)), (.dat ki64 (.v 2)), (.dat ki64 (.v 3)), (.lz [ki64] (.v 4))])], [], [(.sl [ku8])], [(.sl 0 (.k (.i 0)) (.v 6) 1)], [(0, (.arr [ku8] (.v 5) (.v 6)))], 1⟩,
 ⟨[(29, ⟨[(.sl [ku8])], [(3, (.sl 0 (.k (.i 0)) (.v 8) 1))], [(0, (.arr [ku8] (.v 7) (.v 8)))], 1⟩), (939, ⟨[(.sl [ku8])], [(3, (.sl 0 (.k (.i 0)) (.v 16) 1))], [(0, (.arr [ku8] (.v 15) (.v 16)))], 1⟩), (1878, ⟨[ki64, (.sl [ku8])], [(3, (.sl 0 (.k (.i 0)) (.v 17) 1)), (30, (.lz [ki64] (.v 4))), (31, (.dat ki64 (.v 14))), (32, (.dat ki64 (.v 15)))], [(0, (.arr [ku8] (.v 16) (.v 17)))], 1⟩), (30054, ⟨[(.sl [ku8])], [(3, (.sl 0 (.k (.i 0)) (.v 20) 1)), (30, (.lz [ki64] (.v 4))), (31, (.dat ki64 (.v 14))), (32, (.dat ki64 (.v 15)))], [(0, (.arr [ku8] (.v 19) (.v 20)))], 1⟩)], [(468, [1])]⟩,
 [(2, (.sl 0 (.k (.i 0)) (.v 6) 1))], some t21, fun _ => none⟩
/-- loop.example/g00709/impl.EventBytes -/
def t22 : Tr :=
(.nd (.call 19 [(.v 0), (.v 1), (.v 2), (.v 3), (.v 4)] [ki64, ki64, ki64, ki64, (.sl [ki64])] [kb])
(.nd (.pr .not [(.v 5)])
(.ite (.v 6)
 (.out 1 [(.k (.l []))])
 (.nd (.call 21 [(.v 0), (.v 1), (.v 2), (.v 3), (.v 4)] [ki64, ki64, ki64, ki64, (.sl [ki64])] [(.sl [ku8])])
 (.nd (.pr (.len [ku8]) [(.v 7)])
 (.out 1 [(.v 7)]))))))
def e22 : Fe := ⟨⟨21, [ki64, ki64, ki64, ki64, (.sl [ki64])], [(.agg [(.dat ki64 (.v 0)), (.dat ki64 (.v 1)), (.dat ki64 (.v 2)), (.dat ki64 (.v 3)), (.lz [ki64] (.v 4))])], [], [(.sl [ku8])], [(.sl 0 (.k (.i 0)) (.v 6) 1)], [(0, (.arr [ku8] (.v 5) (.v 6)))], 1⟩,
 ⟨[], []⟩,
 [(2, (.sl 0 (.k (.i 0)) (.v 6) 1))], some t22, fun _ => none⟩
/-- loop.example/g00709/impl.words -/
def t23 : Tr := .out 0 []
def e23 : Fe := ⟨⟨28, [ks, (.sl [ki64])], [(.dat ks (.v 0)), (.lz [ki64] (.v 1))], [], [ks], [(.dat ks (.v 2))], [], 0⟩,
 ⟨[], []⟩,
 [], none, prim28⟩
/-- loop.example/g00709/impl.eventText -/
def t24 : Tr :=
(.blk 2 []
 (.nd (.pr (.cmp .eql .i64) [(.v 0), (.k (.i 2))])
 (.ite (.v 5)
  (.nd (.pr (.mk [ki64] 1) [(.v 1)])
  (.nd (.call 23 [(.k (.s ⟨#[112, 105, 99, 107]⟩)), (.v 6)] [ks, (.sl [ki64])] [ks])
  (.out 1 [(.v 7)])))
  (.nd (.pr (.cmp .eql .i64) [(.v 0), (.k (.i 3))])
  (.ite (.v 6)
   (.nd (.pr (.mk [ki64] 1) [(.v 2)])
   (.nd (.call 23 [(.k (.s ⟨#[103, 114, 111, 119]⟩)), (.v 7)] [ks, (.sl [ki64])] [ks])
   (.out 1 [(.v 8)])))
   (.nd (.pr (.cmp .eql .i64) [(.v 3), (.k (.i 1))])
   (.ite (.v 7)
    (.nd (.pr (.mk [ki64] 1) [(.v 1)])
    (.nd (.call 23 [(.k (.s ⟨#[116, 97, 107, 101]⟩)), (.v 8)] [ks, (.sl [ki64])] [ks])
    (.nd (.call 23 [(.v 9), (.v 4)] [ks, (.sl [ki64])] [ks])
    (.out 1 [(.v 10)]))))
    (.out 0 [])))))))
(.nd (.pr (.mk [ki64] 1) [(.v 1)])
(.nd (.call 23 [(.k (.s ⟨#[103, 105, 118, 101]⟩)), (.v 5)] [ks, (.sl [ki64])] [ks])
(.nd (.call 23 [(.v 6), (.v 4)] [ks, (.sl [ki64])] [ks])
(.out 1 [(.v 7)])))))
def e24 : Fe := ⟨⟨32, [ki64, ki64, ki64, ki64, (.sl [ki64])], [(.agg [(.dat ki64 (.v 0)), (.dat ki64 (.v 1)), (.dat ki64 (.v 2)), (.dat ki64 (.v 3)), (.lz [ki64] (.v 4))])], [], [ks], [(.dat ks (.v 5))], [], 0⟩,
 ⟨[(6, ⟨[], [(1, (.ptr 0 0))], [(0, (.cells [(.dat ki64 (.v 0)), (.dat ki64 (.v 1)), (.dat ki64 (.v 2)), (.dat ki64 (.v 3)), (.lz [ki64] (.v 4))]))], 1⟩)], []⟩,
 [(2, (.dat ks (.v 5)))], some t24, fun _ => none⟩
/-- loop.example/g00709/impl.EventText -/
def t25 : Tr :=
(.nd (.call 19 [(.v 0), (.v 1), (.v 2), (.v 3), (.v 4)] [ki64, ki64, ki64, ki64, (.sl [ki64])] [kb])
(.nd (.pr .not [(.v 5)])
(.ite (.v 6)
 (.out 1 [(.k (.s ⟨#[]⟩))])
 (.nd (.call 24 [(.v 0), (.v 1), (.v 2), (.v 3), (.v 4)] [ki64, ki64, ki64, ki64, (.sl [ki64])] [ks])
 (.out 1 [(.v 7)])))))
def e25 : Fe := ⟨⟨13, [ki64, ki64, ki64, ki64, (.sl [ki64])], [(.agg [(.dat ki64 (.v 0)), (.dat ki64 (.v 1)), (.dat ki64 (.v 2)), (.dat ki64 (.v 3)), (.lz [ki64] (.v 4))])], [], [ks], [(.dat ks (.v 5))], [], 0⟩,
 ⟨[], []⟩,
 [(2, (.dat ks (.v 5)))], some t25, fun _ => none⟩
/-- loop.example/g00709/spec.EventOk -/
def t26 : Tr :=
(.seq [kb]
 (.nd (.pr (.cmp .eql .i64) [(.v 3), (.k (.i 0))])
 (.ite (.v 5)
  (.nd (.pr (.len [ki64]) [(.v 4)])
  (.nd (.pr (.cmp .eql .i64) [(.v 6), (.k (.i 0))])
  (.out 0 [(.v 7)])))
  (.out 0 [(.k (.b false))])))
(.seq [kb]
 (.nd (.pr (.cmp .geq .i64) [(.v 1), (.k (.i 0))])
 (.ite (.v 6)
  (.nd (.pr (.cmp .lss .i64) [(.v 1), (.k (.i 4))])
  (.out 0 [(.v 7)]))
  (.out 0 [(.k (.b false))])))
(.blk 2 []
 (.nd (.pr (.cmp .eql .i64) [(.v 0), (.k (.i 1))])
 (.ite (.v 7)
  (.seq [kb]
   (.ite (.v 6)
    (.nd (.pr (.cmp .eql .i64) [(.v 2), (.k (.i 0))])
    (.ite (.v 8)
     (.nd (.call 5 [(.v 3), (.v 4)] [ki64, (.sl [ki64])] [kb])
     (.out 0 [(.v 9)]))
     (.out 0 [(.k (.b false))])))
    (.out 0 [(.k (.b false))]))
  (.out 1 [(.v 8)]))
  (.nd (.pr (.cmp .eql .i64) [(.v 0), (.k (.i 2))])
  (.ite (.v 8)
   (.seq [kb]
    (.ite (.v 6)
     (.nd (.pr (.cmp .eql .i64) [(.v 2), (.k (.i 0))])
     (.ite (.v 9)
      (.out 0 [(.v 5)])
      (.out 0 [(.k (.b false))])))
     (.out 0 [(.k (.b false))]))
   (.out 1 [(.v 9)]))
   (.nd (.pr (.cmp .eql .i64) [(.v 0), (.k (.i 3))])
   (.ite (.v 9)
    (.seq [kb]
     (.nd (.pr (.cmp .eql .i64) [(.v 1), (.k (.i 0))])
     (.ite (.v 10)
      (.nd (.pr (.cmp .geq .i64) [(.v 2), (.k (.i 1))])
      (.ite (.v 11)
       (.nd (.pr (.cmp .leq .i64) [(.v 2), (.k (.i 16))])
       (.ite (.v 12)
        (.out 0 [(.v 5)])
        (.out 0 [(.k (.b false))])))
       (.out 0 [(.k (.b false))])))
      (.out 0 [(.k (.b false))])))
    (.out 1 [(.v 10)]))
    (.out 0 [])))))))
(.out 1 [(.k (.b false))]))))
def e26 : Fe := ⟨⟨22, [ki64, ki64, ki64, ki64, (.sl [ki64])], [(.agg [(.dat ki64 (.v 0)), (.dat ki64 (.v 1)), (.dat ki64 (.v 2)), (.dat ki64 (.v 3)), (.lz [ki64] (.v 4))])], [], [kb], [(.dat kb (.v 5))], [], 0⟩,
 ⟨[(61, ⟨[], [], [], 0⟩), (7870, ⟨[kb], [(2, (.dat kb (.v 10)))], [], 0⟩), (1966, ⟨[kb], [(2, (.dat kb (.v 9)))], [], 0⟩), (490, ⟨[kb], [(2, (.dat kb (.v 8)))], [], 0⟩), (7, ⟨[kb], [(1, (.ptr 0 0)), (3, (.dat kb (.v 5))), (4, (.dat kb (.v 6)))], [(0, (.cells [(.dat ki64 (.v 0)), (.dat ki64 (.v 1)), (.dat ki64 (.v 2)), (.dat ki64 (.v 3)), (.lz [ki64] (.v 4))]))], 1⟩), (3, ⟨[kb], [(1, (.ptr 0 0)), (3, (.dat kb (.v 5)))], [(0, (.cells [(.dat ki64 (.v 0)), (.dat ki64 (.v 1)), (.dat ki64 (.v 2)), (.dat ki64 (.v 3)), (.lz [ki64] (.v 4))]))], 1⟩)], []⟩,
 [(2, (.dat kb (.v 5)))], some t26, fun _ => none⟩
/-- loop.example/g00709/laws.bytesOf -/
def t27 : Tr :=
(.nd (.pr (.app [ku8] 1) [(.k (.l [])), (.v 0)])
(.nd (.pr (.len [ku8]) [(.v 1)])
(.out 1 [(.v 1)])))
def e27 : Fe := ⟨⟨24, [(.sl [ku8])], [(.lz [ku8] (.v 0))], [], [(.sl [ku8])], [(.sl 0 (.k (.i 0)) (.v 2) 1)], [(0, (.arr [ku8] (.v 1) (.v 2)))], 1⟩,
 ⟨[], []⟩,
 [(2, (.sl 0 (.k (.i 0)) (.v 2) 1))], some t27, fun _ => none⟩
/-- loop.example/g00709/impl.numRead -/
def t28 : Tr :=
(.nd (.pr (.cmp .lss .i64) [(.v 1), (.k (.i 0))])
(.ite (.v 2)
 (.out 1 [(.k (.i 0)), (.k (.i 0)), (.k (.b false))])
 (.blk 2 []
  (.loop [ki64, ki64] [(.k (.i 0)), (.v 1)]
   (.seq [kb]
    (.nd (.pr (.len [ku8]) [(.v 0)])
    (.nd (.pr (.cmp .lss .i64) [(.v 4), (.v 5)])
    (.ite (.v 6)
     (.nd (.pr (.bin .add .i64) [(.v 1), (.k (.i 3))])
     (.nd (.pr (.cmp .lss .i64) [(.v 4), (.v 7)])
     (.out 0 [(.v 8)])))
     (.out 0 [(.k (.b false))]))))
   (.ite (.v 5)
    (.blk 3 [ki64]
     (.nd (.pr (.len [ku8]) [(.v 0)])
     (.nd (.pr (.ixc .i64) [(.v 4), (.v 6)])
     (.nd (.pr (.get [ku8] 0) [(.v 0), (.v 7)])
     (.nd (.pr (.bin .and .u8) [(.v 8), (.k (.i 127))])
     (.nd (.pr (.conv .u8 .i64) [(.v 9)])
     (.nd (.pr (.bin .sub .i64) [(.v 4), (.v 1)])
     (.nd (.pr (.bin .mul .i64) [(.k (.i 7)), (.v 11)])
     (.nd (.pr (.sh .shl .i64 .i64) [(.v 10), (.v 12)])
     (.nd (.pr (.bin .or .i64) [(.v 3), (.v 13)])
     (.nd (.pr (.len [ku8]) [(.v 0)])
     (.nd (.pr (.ixc .i64) [(.v 4), (.v 15)])
     (.nd (.pr (.get [ku8] 0) [(.v 0), (.v 16)])
     (.nd (.pr (.cmp .gtr .u8) [(.v 17), (.k (.i 127))])
     (.ite (.v 18)
      (.out 3 [(.v 14)])
      (.seq [kb]
       (.nd (.pr (.cmp .gtr .i64) [(.v 14), (.k (.i 65535))])
       (.ite (.v 19)
        (.out 0 [(.k (.b true))])
        (.nd (.pr (.cmp .gtr .i64) [(.v 4), (.v 1)])
        (.ite (.v 20)
         (.nd (.pr (.len [ku8]) [(.v 0)])
         (.nd (.pr (.ixc .i64) [(.v 4), (.v 21)])
         (.nd (.pr (.get [ku8] 0) [(.v 0), (.v 22)])
         (.nd (.pr (.cmp .eql .u8) [(.v 23), (.k (.i 0))])
         (.out 0 [(.v 24)])))))
         (.out 0 [(.k (.b false))])))))
      (.ite (.v 19)
       (.out 2 [])
       (.nd (.pr (.bin .add .i64) [(.v 4), (.k (.i 1))])
       (.out 1 [(.v 14), (.v 20), (.k (.b true))]))))))))))))))))))
    (.nd (.pr (.bin .add .i64) [(.v 4), (.k (.i 1))])
    (.out 0 [(.v 6), (.v 7)])))
    (.out 2 []))))
 (.out 1 [(.k (.i 0)), (.k (.i 0)), (.k (.b false))]))))
def e28 : Fe := ⟨⟨61, [(.sl [ku8]), ki64], [(.lz [ku8] (.v 0)), (.dat ki64 (.v 1))], [], [ki64, ki64, kb], [(.dat ki64 (.v 2)), (.dat ki64 (.v 3)), (.dat kb (.v 4))], [], 0⟩,
 ⟨[(61, ⟨[], [], [], 0⟩), (122, ⟨[ki64, ki64], [(0, (.lz [ku8] (.v 0))), (1, (.dat ki64 (.v 1))), (7, (.dat ki64 (.v 3))), (8, (.dat ki64 (.v 4)))], [], 0⟩), (978, ⟨[ki64], [(0, (.lz [ku8] (.v 0))), (1, (.dat ki64 (.v 1))), (7, (.dat ki64 (.v 6))), (8, (.dat ki64 (.v 4)))], [], 0⟩), (15654, ⟨[kb], [(7, (.dat ki64 (.v 14))), (8, (.dat ki64 (.v 4))), (55, (.dat kb (.v 19)))], [], 0⟩), (488, ⟨[kb], [(0, (.lz [ku8] (.v 0))), (1, (.dat ki64 (.v 1))), (7, (.dat ki64 (.v 3))), (8, (.dat ki64 (.v 4))), (21, (.dat kb (.v 5)))], [], 0⟩)], []⟩,
 [(4, (.dat ki64 (.v 2))), (5, (.dat ki64 (.v 3))), (6, (.dat kb (.v 4)))], some t28, fun _ => none⟩
/-- bytes.Equal -/
def t29 : Tr :=
(.nd (.pr .bstr [(.v 0)])
(.nd (.pr .bstr [(.v 1)])
(.nd (.pr (.cmpS .eql) [(.v 2), (.v 3)])
(.out 1 [(.v 4)]))))
def e29 : Fe := ⟨⟨62, [(.sl [ku8]), (.sl [ku8])], [(.lz [ku8] (.v 0)), (.lz [ku8] (.v 1))], [], [kb], [(.dat kb (.v 2))], [], 0⟩,
 ⟨[], []⟩,
 [(4, (.dat kb (.v 2)))], some t29, fun _ => none⟩
/-- loop.example/g00709/impl.eventRead -/
def t30 : Tr :=
(.nd (.pr (.len [ku8]) [(.v 0)])
(.nd (.pr (.cmp .eql .i64) [(.v 1), (.k (.i 0))])
(.ite (.v 2)
 (.out 1 [(.k (.b false)), (.k (.i 0)), (.k (.i 0)), (.k (.i 0)), (.k (.i 0)), (.k (.l []))])
 (.nd (.pr (.len [ku8]) [(.v 0)])
 (.nd (.pr (.ixc .i64) [(.k (.i 0)), (.v 3)])
 (.nd (.pr (.get [ku8] 0) [(.v 0), (.v 4)])
 (.nd (.pr (.conv .u8 .i64) [(.v 5)])
 (.nd (.call 28 [(.v 0), (.k (.i 1))] [(.sl [ku8]), ki64] [ki64, ki64, kb])
 (.nd (.pr .not [(.v 9)])
 (.ite (.v 10)
  (.out 1 [(.k (.b false)), (.k (.i 0)), (.k (.i 0)), (.k (.i 0)), (.k (.i 0)), (.k (.l []))])
  (.blk 2 [ki64, ki64, ki64, (.sl [ki64])]
   (.nd (.pr (.cmp .eql .i64) [(.v 6), (.k (.i 3))])
   (.ite (.v 11)
    (.out 0 [(.k (.i 0)), (.v 7), (.k (.i 0)), (.k (.l []))])
    (.nd (.pr (.cmp .eql .i64) [(.v 6), (.k (.i 1))])
    (.ite (.v 12)
     (.nd (.pr (.len [ku8]) [(.v 0)])
     (.nd (.pr (.cmp .eql .i64) [(.v 8), (.v 13)])
     (.ite (.v 14)
      (.out 1 [(.k (.b false)), (.k (.i 0)), (.k (.i 0)), (.k (.i 0)), (.k (.i 0)), (.k (.l []))])
      (.nd (.pr (.len [ku8]) [(.v 0)])
      (.nd (.pr (.ixc .i64) [(.v 8), (.v 15)])
      (.nd (.pr (.get [ku8] 0) [(.v 0), (.v 16)])
      (.nd (.pr (.conv .u8 .i64) [(.v 17)])
      (.nd (.pr (.bin .add .i64) [(.v 8), (.k (.i 1))])
      (.blk 3 [(.sl [ki64])]
       (.loop [ki64, ki64, (.sl [ki64])] [(.v 19), (.k (.i 0)), (.k (.l []))]
        (.nd (.pr (.len [ki64]) [(.v 22)])
        (.nd (.pr (.cmp .lss .i64) [(.v 21), (.k (.i 8))])
        (.ite (.v 24)
         (.blk 4 [ki64, (.sl [ki64])]
          (.nd (.call 28 [(.v 0), (.v 20)] [(.sl [ku8]), ki64] [ki64, ki64, kb])
          (.nd (.pr .not [(.v 27)])
          (.ite (.v 28)
           (.out 1 [(.k (.b false)), (.k (.i 0)), (.k (.i 0)), (.k (.i 0)), (.k (.i 0)), (.k (.l []))])
           (.nd (.pr (.bin .sub .i64) [(.v 25), (.k (.i 1))])
           (.nd (.pr (.mk [ki64] 1) [(.v 29)])
           (.nd (.pr (.app [ki64] 8) [(.v 22), (.v 30)])
           (.nd (.pr (.len [ki64]) [(.v 31)])
           (.out 0 [(.v 26), (.v 31)]))))))))
         (.nd (.pr (.len [ki64]) [(.v 26)])
         (.nd (.pr (.bin .add .i64) [(.v 21), (.k (.i 1))])
         (.out 0 [(.v 25), (.v 28), (.v 26)]))))
         (.out 3 [(.v 22)])))))
      (.nd (.pr (.len [ki64]) [(.v 20)])
      (.out 0 [(.v 7), (.k (.i 0)), (.v 18), (.v 20)])))))))))))
     (.out 0 [(.v 7), (.k (.i 0)), (.k (.i 0)), (.k (.l []))])))))
  (.nd (.pr (.len [ki64]) [(.v 14)])
  (.seq [kb]
   (.nd (.call 19 [(.v 6), (.v 11), (.v 12), (.v 13), (.v 14)] [ki64, ki64, ki64, ki64, (.sl [ki64])] [kb])
   (.nd (.pr .not [(.v 16)])
   (.ite (.v 17)
    (.out 0 [(.k (.b true))])
    (.nd (.call 21 [(.v 6), (.v 11), (.v 12), (.v 13), (.v 14)] [ki64, ki64, ki64, ki64, (.sl [ki64])] [(.sl [ku8])])
    (.nd (.pr (.len [ku8]) [(.v 18)])
    (.nd (.call 29 [(.v 18), (.v 0)] [(.sl [ku8]), (.sl [ku8])] [kb])
    (.nd (.pr .not [(.v 20)])
    (.out 0 [(.v 21)]))))))))
  (.nd (.pr (.len [ki64]) [(.v 14)])
  (.ite (.v 16)
   (.out 1 [(.k (.b false)), (.k (.i 0)), (.k (.i 0)), (.k (.i 0)), (.k (.i 0)), (.k (.l []))])
   (.out 1 [(.k (.b true)), (.v 6), (.v 11), (.v 12), (.v 13), (.v 14)]))))))))))))))))
def e30 : Fe := ⟨⟨43, [(.sl [ku8])], [(.lz [ku8] (.v 0))], [], [kb, ki64, ki64, ki64, ki64, (.sl [ki64])], [(.agg [(.dat ki64 (.v 2)), (.dat ki64 (.v 3)), (.dat ki64 (.v 4)), (.dat ki64 (.v 5)), (.sl 1 (.k (.i 0)) (.v 7) 1)]), (.dat kb (.v 1))], [(0, (.cells [(.dat ki64 (.v 2)), (.dat ki64 (.v 3)), (.dat ki64 (.v 4)), (.dat ki64 (.v 5)), (.sl 1 (.k (.i 0)) (.v 7) 1)])), (1, (.arr [ki64] (.v 6) (.v 7)))], 2⟩,
 ⟨[(510, ⟨[kb], [(2, (.ptr 0 0)), (4, (.ptr 1 0)), (86, (.dat kb (.v 16)))], [(0, (.cells [(.dat ki64 (.k (.i 0))), (.dat ki64 (.k (.i 0))), (.dat ki64 (.k (.i 0))), (.dat ki64 (.k (.i 0))), .nilS])), (1, (.cells [(.dat ki64 (.v 6)), (.dat ki64 (.v 11)), (.dat ki64 (.v 12)), (.dat ki64 (.v 13)), (.sl 2 (.k (.i 0)) (.v 17) 1)])), (2, (.arr [ki64] (.v 14) (.v 17)))], 3⟩), (509, ⟨[ki64, ki64, ki64, (.sl [ki64])], [(0, (.lz [ku8] (.v 0))), (2, (.ptr 0 0)), (4, (.ptr 1 0))], [(0, (.cells [(.dat ki64 (.k (.i 0))), (.dat ki64 (.k (.i 0))), (.dat ki64 (.k (.i 0))), (.dat ki64 (.k (.i 0))), .nilS])), (1, (.cells [(.dat ki64 (.v 6)), (.dat ki64 (.v 11)), (.dat ki64 (.v 12)), (.dat ki64 (.v 13)), (.sl 2 (.k (.i 0)) (.v 15) 1)])), (2, (.arr [ki64] (.v 14) (.v 15)))], 3⟩), (260847, ⟨[(.sl [ki64])], [(0, (.lz [ku8] (.v 0))), (2, (.ptr 0 0)), (4, (.ptr 1 0))], [(0, (.cells [(.dat ki64 (.k (.i 0))), (.dat ki64 (.k (.i 0))), (.dat ki64 (.k (.i 0))), (.dat ki64 (.k (.i 0))), .nilS])), (1, (.cells [(.dat ki64 (.v 6)), (.dat ki64 (.v 7)), (.dat ki64 (.k (.i 0))), (.dat ki64 (.v 18)), (.sl 2 (.k (.i 0)) (.v 21) 1)])), (2, (.arr [ki64] (.v 20) (.v 21)))], 3⟩), (521694, ⟨[ki64, ki64, (.sl [ki64])], [(0, (.lz [ku8] (.v 0))), (2, (.ptr 0 0)), (4, (.ptr 1 0)), (6, (.dat ki64 (.v 20))), (54, (.dat ki64 (.v 21)))], [(0, (.cells [(.dat ki64 (.k (.i 0))), (.dat ki64 (.k (.i 0))), (.dat ki64 (.k (.i 0))), (.dat ki64 (.k (.i 0))), .nilS])), (1, (.cells [(.dat ki64 (.v 6)), (.dat ki64 (.v 7)), (.dat ki64 (.k (.i 0))), (.dat ki64 (.v 18)), (.sl 2 (.k (.i 0)) (.v 23) 1)])), (2, (.arr [ki64] (.v 22) (.v 23)))], 3⟩), (8347110, ⟨[ki64, (.sl [ki64])], [(0, (.lz [ku8] (.v 0))), (2, (.ptr 0 0)), (4, (.ptr 1 0)), (6, (.dat ki64 (.v 25))), (54, (.dat ki64 (.v 21)))], [(0, (.cells [(.dat ki64 (.k (.i 0))), (.dat ki64 (.k (.i 0))), (.dat ki64 (.k (.i 0))), (.dat ki64 (.k (.i 0))), .nilS])), (1, (.cells [(.dat ki64 (.v 6)), (.dat ki64 (.v 7)), (.dat ki64 (.k (.i 0))), (.dat ki64 (.v 18)), (.sl 2 (.k (.i 0)) (.v 27) 1)])), (2, (.arr [ki64] (.v 26) (.v 27)))], 3⟩)], []⟩,
 [(2, (.ptr 0 0)), (3, (.dat kb (.v 1)))], some t30, fun _ => none⟩
/-- loop.example/g00709/impl.EventRead -/
def t31 : Tr :=
(.nd (.call 30 [(.v 0)] [(.sl [ku8])] [kb, ki64, ki64, ki64, ki64, (.sl [ki64])])
(.nd (.pr (.len [ki64]) [(.v 6)])
(.out 1 [(.v 1), (.v 2), (.v 3), (.v 4), (.v 5), (.v 6)])))
def e31 : Fe := ⟨⟨23, [(.sl [ku8])], [(.lz [ku8] (.v 0))], [], [kb, ki64, ki64, ki64, ki64, (.sl [ki64])], [(.agg [(.dat ki64 (.v 2)), (.dat ki64 (.v 3)), (.dat ki64 (.v 4)), (.dat ki64 (.v 5)), (.sl 1 (.k (.i 0)) (.v 7) 1)]), (.dat kb (.v 1))], [(0, (.cells [(.dat ki64 (.v 2)), (.dat ki64 (.v 3)), (.dat ki64 (.v 4)), (.dat ki64 (.v 5)), (.sl 1 (.k (.i 0)) (.v 7) 1)])), (1, (.arr [ki64] (.v 6) (.v 7)))], 2⟩,
 ⟨[], []⟩,
 [(2, (.ptr 0 0)), (3, (.dat kb (.v 1)))], some t31, fun _ => none⟩
/-- strings.Split -/
def t32 : Tr := .out 0 []
def e32 : Fe := ⟨⟨52, [ks, ks], [(.dat ks (.v 0)), (.dat ks (.v 1))], [], [(.sl [ks])], [(.dat (.sl [ks]) (.v 2))], [], 0⟩,
 ⟨[], []⟩,
 [], none, prim52⟩
/-- strconv.Atoi -/
def t33 : Tr := .out 0 []
def e33 : Fe := ⟨⟨53, [ks], [(.dat ks (.v 0))], [], [ki64, kb], [(.dat ki64 (.v 1)), (.ifc (.v 2))], [], 0⟩,
 ⟨[], []⟩,
 [], none, prim53⟩
/-- loop.example/g00709/impl.eventTextRead -/
def t34 : Tr :=
(.nd (.pr .lenS [(.v 0)])
(.nd (.pr (.cmp .gtr .i64) [(.v 1), (.k (.i 12000))])
(.ite (.v 2)
 (.out 1 [(.k (.b false)), (.k (.i 0)), (.k (.i 0)), (.k (.i 0)), (.k (.i 0)), (.k (.l []))])
 (.nd (.call 32 [(.v 0), (.k (.s ⟨#[32]⟩))] [ks, ks] [(.sl [ks])])
 (.nd (.pr (.len [ks]) [(.v 3)])
 (.nd (.pr (.cut [ks] .i64 .i64) [(.v 3), (.k (.i 1)), (.v 4)])
 (.nd (.pr (.len [ks]) [(.v 5)])
 (.blk 2 [(.sl [ki64])]
  (.loop [ki64, (.sl [ki64])] [(.k (.i 0)), (.k (.l []))]
   (.nd (.pr (.len [ki64]) [(.v 8)])
   (.nd (.pr (.cmp .lss .i64) [(.v 7), (.v 6)])
   (.ite (.v 10)
    (.blk 3 [(.sl [ki64])]
     (.nd (.pr (.len [ks]) [(.v 5)])
     (.nd (.pr (.ixc .i64) [(.v 7), (.v 11)])
     (.nd (.pr (.get [ks] 0) [(.v 5), (.v 12)])
     (.nd (.call 33 [(.v 13)] [ks] [ki64, kb])
     (.nd (.pr .not [(.v 15)])
     (.ite (.v 16)
      (.out 1 [(.k (.b false)), (.k (.i 0)), (.k (.i 0)), (.k (.i 0)), (.k (.i 0)), (.k (.l []))])
      (.nd (.pr (.mk [ki64] 1) [(.v 14)])
      (.nd (.pr (.app [ki64] 8) [(.v 8), (.v 17)])
      (.nd (.pr (.len [ki64]) [(.v 18)])
      (.out 0 [(.v 18)]))))))))))
    (.nd (.pr (.len [ki64]) [(.v 11)])
    (.nd (.pr (.bin .add .i64) [(.v 7), (.k (.i 1))])
    (.out 0 [(.v 13), (.v 11)]))))
    (.out 2 [(.v 8)])))))
 (.nd (.pr (.len [ki64]) [(.v 7)])
 (.nd (.pr (.cmp .eql .i64) [(.v 8), (.k (.i 0))])
 (.ite (.v 9)
  (.out 1 [(.k (.b false)), (.k (.i 0)), (.k (.i 0)), (.k (.i 0)), (.k (.i 0)), (.k (.l []))])
  (.nd (.pr (.ixc .i64) [(.k (.i 0)), (.v 8)])
  (.nd (.pr (.get [ki64] 0) [(.v 7), (.v 10)])
  (.nd (.pr (.len [ks]) [(.v 3)])
  (.nd (.pr (.ixc .i64) [(.k (.i 0)), (.v 12)])
  (.nd (.pr (.get [ks] 0) [(.v 3), (.v 13)])
  (.blk 4 [ki64, ki64, ki64, ki64, (.sl [ki64])]
   (.nd (.pr (.cmpS .eql) [(.v 14), (.k (.s ⟨#[112, 105, 99, 107]⟩))])
   (.ite (.v 15)
    (.out 0 [(.k (.i 2)), (.v 11), (.k (.i 0)), (.k (.i 0)), (.k (.l []))])
    (.nd (.pr (.cmpS .eql) [(.v 14), (.k (.s ⟨#[103, 114, 111, 119]⟩))])
    (.ite (.v 16)
     (.nd (.pr (.ixc .i64) [(.k (.i 0)), (.v 8)])
     (.nd (.pr (.get [ki64] 0) [(.v 7), (.v 17)])
     (.out 0 [(.k (.i 3)), (.k (.i 0)), (.v 18), (.k (.i 0)), (.k (.l []))])))
     (.nd (.pr (.cmpS .eql) [(.v 14), (.k (.s ⟨#[116, 97, 107, 101]⟩))])
     (.ite (.v 17)
      (.nd (.pr (.rng .i64 .i64) [(.k (.i 1)), (.v 8), (.v 8)])
      (.nd (.pr (.cut [ki64] .i64 .i64) [(.v 7), (.k (.i 1)), (.v 8)])
      (.out 0 [(.k (.i 1)), (.v 11), (.k (.i 0)), (.k (.i 1)), (.v 19)])))
      (.nd (.pr (.cmpS .eql) [(.v 14), (.k (.s ⟨#[103, 105, 118, 101]⟩))])
      (.ite (.v 18)
       (.nd (.pr (.rng .i64 .i64) [(.k (.i 1)), (.v 8), (.v 8)])
       (.nd (.pr (.cut [ki64] .i64 .i64) [(.v 7), (.k (.i 1)), (.v 8)])
       (.out 0 [(.k (.i 1)), (.v 11), (.k (.i 0)), (.k (.i 2)), (.v 20)])))
       (.out 0 [(.k (.i 0)), (.v 11), (.k (.i 0)), (.k (.i 0)), (.k (.l []))])))))))))
  (.nd (.pr (.len [ki64]) [(.v 19)])
  (.seq [kb]
   (.nd (.call 19 [(.v 15), (.v 16), (.v 17), (.v 18), (.v 19)] [ki64, ki64, ki64, ki64, (.sl [ki64])] [kb])
   (.nd (.pr .not [(.v 21)])
   (.ite (.v 22)
    (.out 0 [(.k (.b true))])
    (.nd (.call 24 [(.v 15), (.v 16), (.v 17), (.v 18), (.v 19)] [ki64, ki64, ki64, ki64, (.sl [ki64])] [ks])
    (.nd (.pr (.cmpS .neq) [(.v 23), (.v 0)])
    (.out 0 [(.v 24)]))))))
  (.nd (.pr (.len [ki64]) [(.v 19)])
  (.ite (.v 21)
   (.out 1 [(.k (.b false)), (.k (.i 0)), (.k (.i 0)), (.k (.i 0)), (.k (.i 0)), (.k (.l []))])
   (.out 1 [(.k (.b true)), (.v 15), (.v 16), (.v 17), (.v 18), (.v 19)]))))))))))))))))))))))
def e34 : Fe := ⟨⟨36, [ks], [(.dat ks (.v 0))], [], [kb, ki64, ki64, ki64, ki64, (.sl [ki64])], [(.agg [(.dat ki64 (.v 2)), (.dat ki64 (.v 3)), (.dat ki64 (.v 4)), (.dat ki64 (.v 5)), (.sl 1 (.k (.i 0)) (.v 7) 1)]), (.dat kb (.v 1))], [(0, (.cells [(.dat ki64 (.v 2)), (.dat ki64 (.v 3)), (.dat ki64 (.v 4)), (.dat ki64 (.v 5)), (.sl 1 (.k (.i 0)) (.v 7) 1)])), (1, (.arr [ki64] (.v 6) (.v 7)))], 2⟩,
 ⟨[(1022, ⟨[kb], [(2, (.ptr 0 0)), (10, (.ptr 1 0)), (79, (.dat kb (.v 21)))], [(0, (.cells [(.dat ki64 (.k (.i 0))), (.dat ki64 (.k (.i 0))), (.dat ki64 (.k (.i 0))), (.dat ki64 (.k (.i 0))), .nilS])), (1, (.cells [(.dat ki64 (.v 15)), (.dat ki64 (.v 16)), (.dat ki64 (.v 17)), (.dat ki64 (.v 18)), (.sl 2 (.k (.i 0)) (.v 22) 1)])), (2, (.arr [ki64] (.v 19) (.v 22)))], 3⟩), (1021, ⟨[ki64, ki64, ki64, ki64, (.sl [ki64])], [(0, (.dat ks (.v 0))), (2, (.ptr 0 0)), (10, (.ptr 1 0))], [(0, (.cells [(.dat ki64 (.k (.i 0))), (.dat ki64 (.k (.i 0))), (.dat ki64 (.k (.i 0))), (.dat ki64 (.k (.i 0))), .nilS])), (1, (.cells [(.dat ki64 (.v 15)), (.dat ki64 (.v 16)), (.dat ki64 (.v 17)), (.dat ki64 (.v 18)), (.sl 2 (.k (.i 0)) (.v 20) 1)])), (2, (.arr [ki64] (.v 19) (.v 20)))], 3⟩), (125, ⟨[(.sl [ki64])], [(0, (.dat ks (.v 0))), (2, (.ptr 0 0)), (4, (.dat (.sl [ks]) (.v 3))), (5, (.sl 1 (.k (.i 0)) (.v 8) 1))], [(0, (.cells [(.dat ki64 (.k (.i 0))), (.dat ki64 (.k (.i 0))), (.dat ki64 (.k (.i 0))), (.dat ki64 (.k (.i 0))), .nilS])), (1, (.arr [ki64] (.v 7) (.v 8)))], 2⟩), (250, ⟨[ki64, (.sl [ki64])], [(0, (.dat ks (.v 0))), (2, (.ptr 0 0)), (4, (.dat (.sl [ks]) (.v 3))), (5, (.sl 1 (.k (.i 0)) (.v 9) 1)), (18, (.dat (.sl [ks]) (.v 5))), (19, (.dat ki64 (.v 6))), (20, (.dat ki64 (.v 7)))], [(0, (.cells [(.dat ki64 (.k (.i 0))), (.dat ki64 (.k (.i 0))), (.dat ki64 (.k (.i 0))), (.dat ki64 (.k (.i 0))), .nilS])), (1, (.arr [ki64] (.v 8) (.v 9)))], 2⟩), (4006, ⟨[(.sl [ki64])], [(0, (.dat ks (.v 0))), (2, (.ptr 0 0)), (4, (.dat (.sl [ks]) (.v 3))), (5, (.sl 1 (.k (.i 0)) (.v 12) 1)), (18, (.dat (.sl [ks]) (.v 5))), (19, (.dat ki64 (.v 6))), (20, (.dat ki64 (.v 7)))], [(0, (.cells [(.dat ki64 (.k (.i 0))), (.dat ki64 (.k (.i 0))), (.dat ki64 (.k (.i 0))), (.dat ki64 (.k (.i 0))), .nilS])), (1, (.arr [ki64] (.v 11) (.v 12)))], 2⟩)], [(0, [1]), (523006, [1, 2]), (130750, [1, 2])]⟩,
 [(2, (.ptr 0 0)), (3, (.dat kb (.v 1)))], some t34, fun _ => none⟩
/-- loop.example/g00709/impl.EventTextRead -/
def t35 : Tr :=
(.nd (.call 34 [(.v 0)] [ks] [kb, ki64, ki64, ki64, ki64, (.sl [ki64])])
(.nd (.pr (.len [ki64]) [(.v 6)])
(.out 1 [(.v 1), (.v 2), (.v 3), (.v 4), (.v 5), (.v 6)])))
def e35 : Fe := ⟨⟨16, [ks], [(.dat ks (.v 0))], [], [kb, ki64, ki64, ki64, ki64, (.sl [ki64])], [(.agg [(.dat ki64 (.v 2)), (.dat ki64 (.v 3)), (.dat ki64 (.v 4)), (.dat ki64 (.v 5)), (.sl 1 (.k (.i 0)) (.v 7) 1)]), (.dat kb (.v 1))], [(0, (.cells [(.dat ki64 (.v 2)), (.dat ki64 (.v 3)), (.dat ki64 (.v 4)), (.dat ki64 (.v 5)), (.sl 1 (.k (.i 0)) (.v 7) 1)])), (1, (.arr [ki64] (.v 6) (.v 7)))], 2⟩,
 ⟨[], []⟩,
 [(2, (.ptr 0 0)), (3, (.dat kb (.v 1)))], some t35, fun _ => none⟩
/-- loop.example/g00709/spec.l15Num -/
def t36 : Tr :=
(.nd (.pr (.cmp .eql .i64) [(.v 0), (.k (.i 0))])
(.ite (.v 1)
 (.out 1 [(.k (.s ⟨#[48]⟩))])
 (.blk 2 [(.sl [ku8])]
  (.loop [ki64, (.sl [ku8])] [(.v 0), (.k (.l []))]
   (.nd (.pr (.len [ku8]) [(.v 3)])
   (.nd (.pr (.cmp .neq .i64) [(.v 2), (.k (.i 0))])
   (.ite (.v 5)
    (.blk 3 [(.sl [ku8])]
     (.nd (.pr (.bin .rem .i64) [(.v 2), (.k (.i 10))])
     (.seq [ki64]
      (.nd (.pr (.cmp .lss .i64) [(.v 6), (.k (.i 0))])
      (.ite (.v 7)
       (.nd (.pr (.neg .i64) [(.v 6)])
       (.out 0 [(.v 8)]))
       (.out 0 [(.v 6)])))
     (.nd (.pr (.len [ku8]) [(.v 3)])
     (.nd (.pr (.bin .add .i64) [(.k (.i 48)), (.v 7)])
     (.nd (.pr (.conv .i64 .u8) [(.v 9)])
     (.nd (.pr (.mk [ku8] 1) [(.v 10)])
     (.nd (.pr (.app [ku8] 1) [(.v 11), (.v 3)])
     (.nd (.pr (.len [ku8]) [(.v 12)])
     (.out 0 [(.v 12)])))))))))
    (.nd (.pr (.len [ku8]) [(.v 6)])
    (.nd (.pr (.bin .quo .i64) [(.v 2), (.k (.i 10))])
    (.out 0 [(.v 8), (.v 6)]))))
    (.out 2 [(.v 3)])))))
 (.nd (.pr (.len [ku8]) [(.v 2)])
 (.seq [(.sl [ku8])]
  (.nd (.pr (.cmp .lss .i64) [(.v 0), (.k (.i 0))])
  (.ite (.v 4)
   (.nd (.pr (.mk [ku8] 1) [(.k (.i 45))])
   (.nd (.pr (.app [ku8] 1) [(.v 5), (.v 2)])
   (.nd (.pr (.len [ku8]) [(.v 6)])
   (.out 0 [(.v 6)]))))
   (.out 0 [(.v 2)])))
 (.nd (.pr (.len [ku8]) [(.v 4)])
 (.nd (.pr .bstr [(.v 4)])
 (.out 1 [(.v 6)]))))))))
def e36 : Fe := ⟨⟨26, [ki64], [(.dat ki64 (.v 0))], [], [ks], [(.dat ks (.v 1))], [], 0⟩,
 ⟨[(31, ⟨[(.sl [ku8])], [(3, (.sl 0 (.k (.i 0)) (.v 5) 1))], [(0, (.arr [ku8] (.v 4) (.v 5)))], 1⟩), (61, ⟨[(.sl [ku8])], [(0, (.dat ki64 (.v 0))), (3, (.sl 0 (.k (.i 0)) (.v 3) 1))], [(0, (.arr [ku8] (.v 2) (.v 3)))], 1⟩), (122, ⟨[ki64, (.sl [ku8])], [(0, (.dat ki64 (.v 0))), (3, (.sl 0 (.k (.i 0)) (.v 4) 1)), (4, (.dat ki64 (.v 2)))], [(0, (.arr [ku8] (.v 3) (.v 4)))], 1⟩), (978, ⟨[(.sl [ku8])], [(0, (.dat ki64 (.v 0))), (3, (.sl 0 (.k (.i 0)) (.v 7) 1)), (4, (.dat ki64 (.v 2)))], [(0, (.arr [ku8] (.v 6) (.v 7)))], 1⟩), (3913, ⟨[ki64], [(0, (.dat ki64 (.v 0))), (3, (.sl 0 (.k (.i 0)) (.v 8) 1)), (4, (.dat ki64 (.v 2))), (5, (.dat ki64 (.v 7)))], [(0, (.arr [ku8] (.v 3) (.v 8)))], 1⟩)], []⟩,
 [(2, (.dat ks (.v 1)))], some t36, fun _ => none⟩
/-- loop.example/g00709/spec.EventText -/
def t37 : Tr :=
(.nd (.call 26 [(.v 0), (.v 1), (.v 2), (.v 3), (.v 4)] [ki64, ki64, ki64, ki64, (.sl [ki64])] [kb])
(.nd (.pr .not [(.v 5)])
(.ite (.v 6)
 (.out 1 [(.k (.s ⟨#[]⟩))])
 (.blk 2 []
  (.nd (.pr (.cmp .eql .i64) [(.v 0), (.k (.i 3))])
  (.ite (.v 7)
   (.nd (.call 36 [(.v 2)] [ki64] [ks])
   (.nd (.pr .cat [(.k (.s ⟨#[103, 114, 111, 119, 32]⟩)), (.v 8)])
   (.out 1 [(.v 9)])))
   (.nd (.pr (.cmp .eql .i64) [(.v 0), (.k (.i 2))])
   (.ite (.v 8)
    (.nd (.call 36 [(.v 1)] [ki64] [ks])
    (.nd (.pr .cat [(.k (.s ⟨#[112, 105, 99, 107, 32]⟩)), (.v 9)])
    (.out 1 [(.v 10)])))
    (.out 0 [])))))
 (.nd (.pr (.bin .sub .i64) [(.v 3), (.k (.i 1))])
 (.nd (.pr (.mk [ks] 2) [(.k (.s ⟨#[116, 97, 107, 101, 32]⟩)), (.k (.s ⟨#[103, 105, 118, 101, 32]⟩))])
 (.nd (.pr (.ixc .i64) [(.v 7), (.k (.i 2))])
 (.nd (.pr (.get [ks] 0) [(.v 8), (.v 9)])
 (.nd (.call 36 [(.v 1)] [ki64] [ks])
 (.nd (.pr .cat [(.v 10), (.v 11)])
 (.blk 3 [ks]
  (.loop [ks, ki64] [(.v 12), (.k (.i 0))]
   (.nd (.pr (.len [ki64]) [(.v 4)])
   (.nd (.pr (.cmp .lss .i64) [(.v 14), (.v 15)])
   (.ite (.v 16)
    (.blk 4 [ks]
     (.nd (.pr .cat [(.v 13), (.k (.s ⟨#[32]⟩))])
     (.nd (.pr (.len [ki64]) [(.v 4)])
     (.nd (.pr (.ixc .i64) [(.v 14), (.v 18)])
     (.nd (.pr (.get [ki64] 0) [(.v 4), (.v 19)])
     (.nd (.call 36 [(.v 20)] [ki64] [ks])
     (.nd (.pr .cat [(.v 17), (.v 21)])
     (.out 0 [(.v 22)])))))))
    (.nd (.pr (.bin .add .i64) [(.v 14), (.k (.i 1))])
    (.out 0 [(.v 17), (.v 18)])))
    (.out 3 [(.v 13)])))))
 (.out 1 [(.v 13)]))))))))))))
def e37 : Fe := ⟨⟨11, [ki64, ki64, ki64, ki64, (.sl [ki64])], [(.agg [(.dat ki64 (.v 0)), (.dat ki64 (.v 1)), (.dat ki64 (.v 2)), (.dat ki64 (.v 3)), (.lz [ki64] (.v 4))])], [], [ks], [(.dat ks (.v 5))], [], 0⟩,
 ⟨[(125, ⟨[ks], [(3, (.dat ks (.v 13)))], [], 0⟩), (250, ⟨[ks, ki64], [(1, (.ptr 0 0)), (3, (.dat ks (.v 13))), (4, (.dat ki64 (.v 14)))], [(0, (.cells [(.dat ki64 (.v 0)), (.dat ki64 (.v 1)), (.dat ki64 (.v 2)), (.dat ki64 (.v 3)), (.lz [ki64] (.v 4))]))], 1⟩), (2002, ⟨[ks], [(1, (.ptr 0 0)), (3, (.dat ks (.v 17))), (4, (.dat ki64 (.v 14)))], [(0, (.cells [(.dat ki64 (.v 0)), (.dat ki64 (.v 1)), (.dat ki64 (.v 2)), (.dat ki64 (.v 3)), (.lz [ki64] (.v 4))]))], 1⟩), (29, ⟨[], [(1, (.ptr 0 0))], [(0, (.cells [(.dat ki64 (.v 0)), (.dat ki64 (.v 1)), (.dat ki64 (.v 2)), (.dat ki64 (.v 3)), (.lz [ki64] (.v 4))]))], 1⟩)], []⟩,
 [(2, (.dat ks (.v 5)))], some t37, fun _ => none⟩
/-- loop.example/g00709/laws.same -/
def t38 : Tr :=
(.nd (.pr (.len [ki64]) [(.v 0)])
(.nd (.pr (.len [ki64]) [(.v 1)])
(.nd (.pr (.cmp .neq .i64) [(.v 2), (.v 3)])
(.ite (.v 4)
 (.out 1 [(.k (.b false))])
 (.blk 2 []
  (.loop [ki64] [(.k (.i 0))]
   (.nd (.pr (.len [ki64]) [(.v 0)])
   (.nd (.pr (.cmp .lss .i64) [(.v 5), (.v 6)])
   (.ite (.v 7)
    (.blk 3 []
     (.nd (.pr (.len [ki64]) [(.v 0)])
     (.nd (.pr (.ixc .i64) [(.v 5), (.v 8)])
     (.nd (.pr (.get [ki64] 0) [(.v 0), (.v 9)])
     (.nd (.pr (.len [ki64]) [(.v 1)])
     (.nd (.pr (.ixc .i64) [(.v 5), (.v 11)])
     (.nd (.pr (.get [ki64] 0) [(.v 1), (.v 12)])
     (.nd (.pr (.cmp .neq .i64) [(.v 10), (.v 13)])
     (.ite (.v 14)
      (.out 1 [(.k (.b false))])
      (.out 0 [])))))))))
    (.nd (.pr (.bin .add .i64) [(.v 5), (.k (.i 1))])
    (.out 0 [(.v 8)])))
    (.out 2 [])))))
 (.out 1 [(.k (.b true))]))))))
def e38 : Fe := ⟨⟨44, [(.sl [ki64]), (.sl [ki64])], [(.lz [ki64] (.v 0)), (.lz [ki64] (.v 1))], [], [kb], [(.dat kb (.v 2))], [], 0⟩,
 ⟨[(29, ⟨[], [], [], 0⟩), (58, ⟨[ki64], [(0, (.lz [ki64] (.v 0))), (1, (.lz [ki64] (.v 1))), (5, (.dat ki64 (.v 5)))], [], 0⟩), (466, ⟨[], [(0, (.lz [ki64] (.v 0))), (1, (.lz [ki64] (.v 1))), (5, (.dat ki64 (.v 5)))], [], 0⟩)], []⟩,
 [(4, (.dat kb (.v 2)))], some t38, fun _ => none⟩
/-- loop.example/g00709/laws.sameEvent -/
def t39 : Tr :=
(.seq [kb]
 (.nd (.pr (.cmp .eql .i64) [(.v 0), (.v 5)])
 (.ite (.v 10)
  (.nd (.pr (.cmp .eql .i64) [(.v 1), (.v 6)])
  (.ite (.v 11)
   (.nd (.pr (.cmp .eql .i64) [(.v 2), (.v 7)])
   (.ite (.v 12)
    (.nd (.pr (.cmp .eql .i64) [(.v 3), (.v 8)])
    (.ite (.v 13)
     (.nd (.call 38 [(.v 4), (.v 9)] [(.sl [ki64]), (.sl [ki64])] [kb])
     (.out 0 [(.v 14)]))
     (.out 0 [(.k (.b false))])))
    (.out 0 [(.k (.b false))])))
   (.out 0 [(.k (.b false))])))
  (.out 0 [(.k (.b false))])))
(.out 1 [(.v 10)]))
def e39 : Fe := ⟨⟨25, [ki64, ki64, ki64, ki64, (.sl [ki64]), ki64, ki64, ki64, ki64, (.sl [ki64])], [(.agg [(.dat ki64 (.v 0)), (.dat ki64 (.v 1)), (.dat ki64 (.v 2)), (.dat ki64 (.v 3)), (.lz [ki64] (.v 4))]), (.agg [(.dat ki64 (.v 5)), (.dat ki64 (.v 6)), (.dat ki64 (.v 7)), (.dat ki64 (.v 8)), (.lz [ki64] (.v 9))])], [], [kb], [(.dat kb (.v 10))], [], 0⟩,
 ⟨[(3, ⟨[kb], [(4, (.dat kb (.v 10)))], [], 0⟩)], []⟩,
 [(4, (.dat kb (.v 10)))], some t39, fun _ => none⟩
/-- loop.example/g00709/laws.FnEventBack -/
def t40 : Tr :=
(.nd (.call 0 [(.v 0)] [(.sl [ku8])] [kb])
(.ite (.v 1)
 (.out 1 [(.k (.b true))])
 (.nd (.call 10 [(.v 0)] [(.sl [ku8])] [ki64, ki64, ki64, ki64, (.sl [ki64])])
 (.nd (.pr (.len [ki64]) [(.v 6)])
 (.nd (.call 22 [(.v 2), (.v 3), (.v 4), (.v 5), (.v 6)] [ki64, ki64, ki64, ki64, (.sl [ki64])] [(.sl [ku8])])
 (.nd (.pr (.len [ku8]) [(.v 8)])
 (.nd (.call 25 [(.v 2), (.v 3), (.v 4), (.v 5), (.v 6)] [ki64, ki64, ki64, ki64, (.sl [ki64])] [ks])
 (.nd (.call 26 [(.v 2), (.v 3), (.v 4), (.v 5), (.v 6)] [ki64, ki64, ki64, ki64, (.sl [ki64])] [kb])
 (.nd (.pr .not [(.v 11)])
 (.ite (.v 12)
  (.seq [kb]
   (.nd (.pr (.cmp .eql .i64) [(.v 9), (.k (.i 0))])
   (.ite (.v 13)
    (.nd (.pr (.cmpS .eql) [(.v 10), (.k (.s ⟨#[]⟩))])
    (.out 0 [(.v 14)]))
    (.out 0 [(.k (.b false))])))
  (.out 1 [(.v 13)]))
  (.nd (.call 27 [(.v 8)] [(.sl [ku8])] [(.sl [ku8])])
  (.nd (.pr (.len [ku8]) [(.v 13)])
  (.nd (.call 31 [(.v 13)] [(.sl [ku8])] [kb, ki64, ki64, ki64, ki64, (.sl [ki64])])
  (.nd (.pr (.len [ki64]) [(.v 20)])
  (.nd (.call 35 [(.v 10)] [ks] [kb, ki64, ki64, ki64, ki64, (.sl [ki64])])
  (.nd (.pr (.len [ki64]) [(.v 27)])
  (.seq [kb]
   (.ite (.v 15)
    (.ite (.v 22)
     (.nd (.call 37 [(.v 2), (.v 3), (.v 4), (.v 5), (.v 6)] [ki64, ki64, ki64, ki64, (.sl [ki64])] [ks])
     (.nd (.pr (.cmpS .eql) [(.v 10), (.v 29)])
     (.ite (.v 30)
      (.nd (.call 39 [(.v 16), (.v 17), (.v 18), (.v 19), (.v 20), (.v 2), (.v 3), (.v 4), (.v 5), (.v 6)] [ki64, ki64, ki64, ki64, (.sl [ki64]), ki64, ki64, ki64, ki64, (.sl [ki64])] [kb])
      (.ite (.v 31)
       (.nd (.call 39 [(.v 23), (.v 24), (.v 25), (.v 26), (.v 27), (.v 2), (.v 3), (.v 4), (.v 5), (.v 6)] [ki64, ki64, ki64, ki64, (.sl [ki64]), ki64, ki64, ki64, ki64, (.sl [ki64])] [kb])
       (.out 0 [(.v 32)]))
       (.out 0 [(.k (.b false))])))
      (.out 0 [(.k (.b false))]))))
     (.out 0 [(.k (.b false))]))
    (.out 0 [(.k (.b false))]))
  (.out 1 [(.v 29)]))))))))))))))))))
def e40 : Fe := ⟨⟨6, [(.sl [ku8])], [(.dat (.sl [ku8]) (.v 0))], [], [kb], [(.dat kb (.v 1))], [], 0⟩,
 ⟨[(511, ⟨[kb], [(2, (.dat kb (.v 29)))], [], 0⟩), (506, ⟨[kb], [(2, (.dat kb (.v 13)))], [], 0⟩)], []⟩,
 [(2, (.dat kb (.v 1)))], some t40, fun _ => none⟩
def fes : List Fe := [e0, e1, e2, e3, e4, e5, e6, e7, e8, e9, e10, e11, e12, e13, e14, e15, e16, e17, e18, e19, e20, e21, e22, e23, e24, e25, e26, e27, e28, e29, e30, e31, e32, e33, e34, e35, e36, e37, e38, e39, e40]
theorem tabOk : TabOk Tryd.prog tab := tabB_ok (by kernel_rfl)
theorem ok0 : e0.ok Tryd.prog tab (sigsOf fes) (kindsOf fes) = true := by kernel_rfl
theorem ok1 : e1.ok Tryd.prog tab (sigsOf fes) (kindsOf fes) = true := by kernel_rfl
theorem ok2 : e2.ok Tryd.prog tab (sigsOf fes) (kindsOf fes) = true := by kernel_rfl
theorem ok3 : e3.ok Tryd.prog tab (sigsOf fes) (kindsOf fes) = true := by kernel_rfl
theorem ok4 : e4.ok Tryd.prog tab (sigsOf fes) (kindsOf fes) = true := by kernel_rfl
theorem ok5 : e5.ok Tryd.prog tab (sigsOf fes) (kindsOf fes) = true := by kernel_rfl
theorem ok6 : e6.ok Tryd.prog tab (sigsOf fes) (kindsOf fes) = true := by kernel_rfl
theorem ok7 : e7.ok Tryd.prog tab (sigsOf fes) (kindsOf fes) = true := by kernel_rfl
theorem ok8 : e8.ok Tryd.prog tab (sigsOf fes) (kindsOf fes) = true := by kernel_rfl
theorem ok9 : e9.ok Tryd.prog tab (sigsOf fes) (kindsOf fes) = true := by kernel_rfl
theorem ok10 : e10.ok Tryd.prog tab (sigsOf fes) (kindsOf fes) = true := by kernel_rfl
theorem ok11 : e11.ok Tryd.prog tab (sigsOf fes) (kindsOf fes) = true := by kernel_rfl
theorem ok12 : e12.ok Tryd.prog tab (sigsOf fes) (kindsOf fes) = true := by kernel_rfl
theorem ok13 : e13.ok Tryd.prog tab (sigsOf fes) (kindsOf fes) = true := by kernel_rfl
theorem ok14 : e14.ok Tryd.prog tab (sigsOf fes) (kindsOf fes) = true := by kernel_rfl
theorem ok15 : e15.ok Tryd.prog tab (sigsOf fes) (kindsOf fes) = true := by kernel_rfl
theorem ok16 : e16.ok Tryd.prog tab (sigsOf fes) (kindsOf fes) = true := by kernel_rfl
theorem ok17 : e17.ok Tryd.prog tab (sigsOf fes) (kindsOf fes) = true := by kernel_rfl
theorem ok18 : e18.ok Tryd.prog tab (sigsOf fes) (kindsOf fes) = true := by kernel_rfl
theorem ok19 : e19.ok Tryd.prog tab (sigsOf fes) (kindsOf fes) = true := by kernel_rfl
theorem ok20 : e20.ok Tryd.prog tab (sigsOf fes) (kindsOf fes) = true := by kernel_rfl
theorem ok21 : e21.ok Tryd.prog tab (sigsOf fes) (kindsOf fes) = true := by kernel_rfl
theorem ok22 : e22.ok Tryd.prog tab (sigsOf fes) (kindsOf fes) = true := by kernel_rfl
theorem ok23 : FeOk Tryd.prog tab fes 23 e23 := prim28_ok 23
theorem ok24 : e24.ok Tryd.prog tab (sigsOf fes) (kindsOf fes) = true := by kernel_rfl
theorem ok25 : e25.ok Tryd.prog tab (sigsOf fes) (kindsOf fes) = true := by kernel_rfl
theorem ok26 : e26.ok Tryd.prog tab (sigsOf fes) (kindsOf fes) = true := by kernel_rfl
theorem ok27 : e27.ok Tryd.prog tab (sigsOf fes) (kindsOf fes) = true := by kernel_rfl
theorem ok28 : e28.ok Tryd.prog tab (sigsOf fes) (kindsOf fes) = true := by kernel_rfl
theorem ok29 : e29.ok Tryd.prog tab (sigsOf fes) (kindsOf fes) = true := by kernel_rfl
theorem ok30 : e30.ok Tryd.prog tab (sigsOf fes) (kindsOf fes) = true := by kernel_rfl
theorem ok31 : e31.ok Tryd.prog tab (sigsOf fes) (kindsOf fes) = true := by kernel_rfl
theorem ok32 : FeOk Tryd.prog tab fes 32 e32 := prim52_ok 32
theorem ok33 : FeOk Tryd.prog tab fes 33 e33 := prim53_ok 33
theorem ok34 : e34.ok Tryd.prog tab (sigsOf fes) (kindsOf fes) = true := by kernel_rfl
theorem ok35 : e35.ok Tryd.prog tab (sigsOf fes) (kindsOf fes) = true := by kernel_rfl
theorem ok36 : e36.ok Tryd.prog tab (sigsOf fes) (kindsOf fes) = true := by kernel_rfl
theorem ok37 : e37.ok Tryd.prog tab (sigsOf fes) (kindsOf fes) = true := by kernel_rfl
theorem ok38 : e38.ok Tryd.prog tab (sigsOf fes) (kindsOf fes) = true := by kernel_rfl
theorem ok39 : e39.ok Tryd.prog tab (sigsOf fes) (kindsOf fes) = true := by kernel_rfl
theorem ok40 : e40.ok Tryd.prog tab (sigsOf fes) (kindsOf fes) = true := by kernel_rfl
theorem fesOk : FeL Tryd.prog tab fes 0 fes := ⟨ok0, ok1, ok2, ok3, ok4, ok5, ok6, ok7, ok8, ok9, ok10, ok11, ok12, ok13, ok14, ok15, ok16, ok17, ok18, ok19, ok20, ok21, ok22, ok23, ok24, ok25, ok26, ok27, ok28, ok29, ok30, ok31, ok32, ok33, ok34, ok35, ok36, ok37, ok38, ok39, ok40, trivial⟩
end Go.Proofs.YtdjfhggmcigahaaDoor.EBack
