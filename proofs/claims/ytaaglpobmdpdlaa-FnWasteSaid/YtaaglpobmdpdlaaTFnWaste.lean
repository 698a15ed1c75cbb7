/- What the functions behind FnWaste compute, as trees; that they do is checked by the kernel. Printed by bench/Bench.lean. -/
import Derived.Test.YtaaglpobmdpdlaaB33
import Derived.Test.YtaaglpobmdpdlaaProg
set_option maxRecDepth 100000
set_option linter.unusedVariables false
namespace Go.Proofs.Ytaaglpobmdpdlaa.FnWaste
open Go.BH
def tab : TyTab := [(3, ⟨1, 8, false, (.int .i64), [(.int .i64 (0))], [ki64], false⟩),
 (4, ⟨1, 1, false, .bool, [(.bool false)], [kb], false⟩),
 (5, ⟨1, 1, false, (.int .u8), [(.int .u8 (0))], [ku8], false⟩),
 (9, ⟨1, 16, false, .str, [(.string ⟨#[]⟩)], [ks], false⟩),
 (22, ⟨1, 24, false, (.slice 5), [(.slice none 0 0)], [(.sl [ku8])], false⟩),
 (32, ⟨1, 24, false, (.slice 3), [(.slice none 0 0)], [(.sl [ki64])], false⟩),
 (113, ⟨1, 4, false, (.int .u32), [(.int .u32 (0))], [ku32], false⟩),
 (134, ⟨1, 8, false, .other, [(.pointer none)], [], false⟩),
 (169, ⟨3, 40, true, (.struct [(22, 0), (3, 1), (3, 2)]), [(.slice none 0 0), (.int .i64 (0)), (.int .i64 (0))], [(.sl [ku8]), ki64, ki64], false⟩),
 (171, ⟨1, 8, false, (.int .u64), [(.int .u64 (0))], [ku64], false⟩),
 (187, ⟨1, 8, false, (.int .u64), [(.int .u64 (0))], [ku64], false⟩)]
/-- loop.example/g00709/laws.big -/
def t0 : Tr :=
(.nd (.pr (.len [ku8]) [(.v 0)])
(.nd (.pr (.cmp .gtr .i64) [(.v 1), (.k (.i 1048576))])
(.out 1 [(.v 2)])))
def e0 : Fe := ⟨⟨24, [(.sl [ku8])], [(.dat (.sl [ku8]) (.v 0))], [], [kb], [(.dat kb (.v 1))], [], 0⟩,
 ⟨[], []⟩,
 [(2, (.dat kb (.v 1)))], some t0, fun _ => none⟩
/-- loop.example/g00709/spec.l01Open -/
def t1 : Tr :=
(.nd (.pr (.len [ku8]) [(.v 0)])
(.nd (.pr (.bin .rem .i64) [(.v 1), (.k (.i 1000))])
(.nd (.pr (.bin .add .i64) [(.k (.i 107)), (.v 2)])
(.out 1 [(.v 3)]))))
def e1 : Fe := ⟨⟨111, [(.sl [ku8])], [(.dat (.sl [ku8]) (.v 0))], [], [ki64], [(.ptr 0 0)], [(0, (.cells [(.dat (.sl [ku8]) (.v 0)), (.dat ki64 (.k (.i 0))), (.dat ki64 (.v 1))]))], 1⟩,
 ⟨[], []⟩,
 [(2, (.ptr 0 0))], some t1, fun _ => none⟩
/-- (*loop.example/g00709/spec.l01Cur).pick -/
def t2 : Tr :=
(.nd (.pr (.cmp .lss .i64) [(.v 3), (.k (.i 2))])
(.ite (.v 4)
 (.out 1 [(.k (.i 0)), (.v 1), (.v 2)])
 (.seq [ki64, ki64]
  (.nd (.pr (.len [ku8]) [(.v 0)])
  (.nd (.pr (.cmp .lss .i64) [(.v 1), (.v 5)])
  (.ite (.v 6)
   (.nd (.pr (.len [ku8]) [(.v 0)])
   (.nd (.pr (.ixc .i64) [(.v 1), (.v 7)])
   (.nd (.pr (.get [ku8] 0) [(.v 0), (.v 8)])
   (.nd (.pr (.conv .u8 .i64) [(.v 9)])
   (.out 0 [(.v 10), (.v 2)])))))
   (.nd (.pr (.bin .mul .i64) [(.v 2), (.k (.i 1103))])
   (.nd (.pr (.bin .add .i64) [(.v 7), (.k (.i 12345))])
   (.nd (.pr (.bin .rem .i64) [(.v 8), (.k (.i 65521))])
   (.nd (.pr (.len [ku8]) [(.v 0)])
   (.nd (.pr (.cmp .gtr .i64) [(.v 10), (.k (.i 0))])
   (.ite (.v 11)
    (.nd (.pr (.bin .quo .i64) [(.v 9), (.k (.i 7))])
    (.nd (.pr (.len [ku8]) [(.v 0)])
    (.nd (.pr (.bin .rem .i64) [(.v 1), (.v 13)])
    (.nd (.pr (.len [ku8]) [(.v 0)])
    (.nd (.pr (.ixc .i64) [(.v 14), (.v 15)])
    (.nd (.pr (.get [ku8] 0) [(.v 0), (.v 16)])
    (.nd (.pr (.conv .u8 .i64) [(.v 17)])
    (.nd (.pr (.bin .add .i64) [(.v 12), (.v 18)])
    (.out 0 [(.v 19), (.v 9)])))))))))
    (.out 0 [(.k (.i 0)), (.v 9)]))))))))))
 (.nd (.pr (.bin .add .i64) [(.v 1), (.k (.i 1))])
 (.nd (.pr (.bin .rem .i64) [(.v 5), (.v 3)])
 (.out 1 [(.v 8), (.v 7), (.v 6)]))))))
def e2 : Fe := ⟨⟨113, [(.sl [ku8]), ki64, ki64, ki64], [(.ptr 0 0), (.dat ki64 (.v 3))], [(0, (.cells [(.dat (.sl [ku8]) (.v 0)), (.dat ki64 (.v 1)), (.dat ki64 (.v 2))]))], [ki64, ki64, ki64], [(.dat ki64 (.v 4))], [(0, (.cells [(.dat (.sl [ku8]) (.v 0)), (.dat ki64 (.v 5)), (.dat ki64 (.v 6))]))], 1⟩,
 ⟨[(15, ⟨[ki64, ki64], [(0, (.ptr 0 0)), (1, (.dat ki64 (.v 3))), (5, (.dat ki64 (.v 5)))], [(0, (.cells [(.dat (.sl [ku8]) (.v 0)), (.dat ki64 (.v 1)), (.dat ki64 (.v 6))]))], 1⟩)], []⟩,
 [(4, (.dat ki64 (.v 4)))], some t2, fun _ => none⟩
/-- (*loop.example/g00709/spec.l01Cur).size -/
def t3 : Tr :=
(.nd (.pr (.len [ku8]) [(.v 0)])
(.nd (.pr (.bin .quo .i64) [(.v 4), (.k (.i 8))])
(.nd (.pr (.bin .add .i64) [(.k (.i 1)), (.v 5)])
(.nd (.pr (.mn .i64) [(.v 3), (.v 6)])
(.nd (.pr (.bin .add .i64) [(.v 7), (.k (.i 1))])
(.nd (.call 2 [(.v 0), (.v 1), (.v 2), (.v 8)] [(.sl [ku8]), ki64, ki64, ki64] [ki64, ki64, ki64])
(.out 1 [(.v 9), (.v 10), (.v 11)])))))))
def e3 : Fe := ⟨⟨112, [(.sl [ku8]), ki64, ki64, ki64], [(.ptr 0 0), (.dat ki64 (.v 3))], [(0, (.cells [(.dat (.sl [ku8]) (.v 0)), (.dat ki64 (.v 1)), (.dat ki64 (.v 2))]))], [ki64, ki64, ki64], [(.dat ki64 (.v 4))], [(0, (.cells [(.dat (.sl [ku8]) (.v 0)), (.dat ki64 (.v 5)), (.dat ki64 (.v 6))]))], 1⟩,
 ⟨[], []⟩,
 [(4, (.dat ki64 (.v 4)))], some t3, fun _ => none⟩
/-- (*loop.example/g00709/spec.l01Cur).raw -/
def t4 : Tr :=
(.nd (.call 2 [(.v 0), (.v 1), (.v 2), (.k (.i 8))] [(.sl [ku8]), ki64, ki64, ki64] [ki64, ki64, ki64])
(.blk 2 []
 (.nd (.pr (.cmp .eql .i64) [(.v 3), (.k (.i 0))])
 (.ite (.v 6)
  (.nd (.call 2 [(.v 0), (.v 4), (.v 5), (.k (.i 256))] [(.sl [ku8]), ki64, ki64, ki64] [ki64, ki64, ki64])
  (.nd (.pr (.bin .sub .i64) [(.v 7), (.k (.i 128))])
  (.out 1 [(.v 10), (.v 8), (.v 9)])))
  (.nd (.pr (.cmp .eql .i64) [(.v 3), (.k (.i 1))])
  (.ite (.v 7)
   (.nd (.pr (.mk [ki64] 8) [(.k (.i 9223372036854775807)), (.k (.i (-9223372036854775808))), (.k (.i 4611686018427387904)), (.k (.i 4294967295)), (.k (.i 4294967296)), (.k (.i (-1000))), (.k (.i 1000)), (.k (.i 64))])
   (.nd (.call 2 [(.v 0), (.v 4), (.v 5), (.k (.i 8))] [(.sl [ku8]), ki64, ki64, ki64] [ki64, ki64, ki64])
   (.nd (.pr (.ixc .i64) [(.v 9), (.k (.i 8))])
   (.nd (.pr (.get [ki64] 0) [(.v 8), (.v 12)])
   (.out 1 [(.v 13), (.v 10), (.v 11)])))))
   (.out 0 [])))))
(.nd (.call 2 [(.v 0), (.v 4), (.v 5), (.k (.i 14))] [(.sl [ku8]), ki64, ki64, ki64] [ki64, ki64, ki64])
(.nd (.pr (.bin .sub .i64) [(.v 6), (.k (.i 3))])
(.out 1 [(.v 9), (.v 7), (.v 8)])))))
def e4 : Fe := ⟨⟨114, [(.sl [ku8]), ki64, ki64], [(.ptr 0 0)], [(0, (.cells [(.dat (.sl [ku8]) (.v 0)), (.dat ki64 (.v 1)), (.dat ki64 (.v 2))]))], [ki64, ki64, ki64], [(.dat ki64 (.v 3))], [(0, (.cells [(.dat (.sl [ku8]) (.v 0)), (.dat ki64 (.v 4)), (.dat ki64 (.v 5))]))], 1⟩,
 ⟨[(13, ⟨[], [(0, (.ptr 0 0))], [(0, (.cells [(.dat (.sl [ku8]) (.v 0)), (.dat ki64 (.v 4)), (.dat ki64 (.v 5))]))], 1⟩)], []⟩,
 [(2, (.dat ki64 (.v 3)))], some t4, fun _ => none⟩
/-- loop.example/g00709/spec.DrawWaste -/
def t5 : Tr :=
(.nd (.call 1 [(.v 0)] [(.sl [ku8])] [ki64])
(.nd (.call 3 [(.v 0), (.k (.i 0)), (.v 1), (.k (.i 12))] [(.sl [ku8]), ki64, ki64, ki64] [ki64, ki64, ki64])
(.blk 2 [ki64, ki64, (.sl [ki64])]
 (.loop [ki64, ki64, ki64, (.sl [ki64])] [(.v 2), (.v 3), (.v 4), (.k (.l []))]
  (.nd (.pr (.len [ki64]) [(.v 8)])
  (.nd (.pr (.cmp .gtr .i64) [(.v 5), (.k (.i 0))])
  (.ite (.v 10)
   (.blk 3 [ki64, ki64, (.sl [ki64])]
    (.nd (.call 2 [(.v 0), (.v 6), (.v 7), (.k (.i 256))] [(.sl [ku8]), ki64, ki64, ki64] [ki64, ki64, ki64])
    (.nd (.pr (.bin .add .i64) [(.k (.i 1)), (.v 11)])
    (.nd (.pr (.mk [ki64] 1) [(.v 14)])
    (.nd (.pr (.app [ki64] 8) [(.v 8), (.v 15)])
    (.nd (.pr (.len [ki64]) [(.v 16)])
    (.out 0 [(.v 12), (.v 13), (.v 16)]))))))
   (.nd (.pr (.len [ki64]) [(.v 13)])
   (.nd (.pr (.bin .sub .i64) [(.v 5), (.k (.i 1))])
   (.out 0 [(.v 15), (.v 11), (.v 12), (.v 13)]))))
   (.out 2 [(.v 6), (.v 7), (.v 8)])))))
(.nd (.pr (.len [ki64]) [(.v 7)])
(.nd (.call 2 [(.v 0), (.v 5), (.v 6), (.k (.i 9))] [(.sl [ku8]), ki64, ki64, ki64] [ki64, ki64, ki64])
(.blk 4 [(.sl [ki64])]
 (.nd (.pr (.cmp .eql .i64) [(.v 9), (.k (.i 0))])
 (.ite (.v 12)
  (.nd (.call 4 [(.v 0), (.v 10), (.v 11)] [(.sl [ku8]), ki64, ki64] [ki64, ki64, ki64])
  (.nd (.pr (.mk [ki64] 3) [(.v 13), (.k (.i 0)), (.k (.i 257))])
  (.nd (.call 2 [(.v 0), (.v 14), (.v 15), (.k (.i 3))] [(.sl [ku8]), ki64, ki64, ki64] [ki64, ki64, ki64])
  (.nd (.pr (.ixc .i64) [(.v 17), (.k (.i 3))])
  (.nd (.pr (.get [ki64] 0) [(.v 16), (.v 20)])
  (.nd (.pr (.mk [ki64] 1) [(.v 21)])
  (.nd (.pr (.app [ki64] 8) [(.v 7), (.v 22)])
  (.nd (.pr (.len [ki64]) [(.v 23)])
  (.out 0 [(.v 23)])))))))))
  (.nd (.pr (.cmp .eql .i64) [(.v 9), (.k (.i 1))])
  (.ite (.v 13)
   (.nd (.call 2 [(.v 0), (.v 10), (.v 11), (.k (.i 2))] [(.sl [ku8]), ki64, ki64, ki64] [ki64, ki64, ki64])
   (.nd (.pr (.bin .add .i64) [(.k (.i 1000)), (.v 14)])
   (.nd (.pr (.mkz [ki64] .i64 8 [(.i 0)]) [(.v 17)])
   (.nd (.pr (.len [ki64]) [(.v 18)])
   (.blk 5 [(.sl [ki64])]
    (.loop [ki64, (.sl [ki64])] [(.k (.i 0)), (.v 18)]
     (.nd (.pr (.len [ki64]) [(.v 21)])
     (.nd (.pr (.cmp .lss .i64) [(.v 20), (.v 19)])
     (.ite (.v 23)
      (.blk 6 [(.sl [ki64])]
       (.nd (.pr (.bin .rem .i64) [(.v 20), (.k (.i 256))])
       (.nd (.pr (.bin .add .i64) [(.k (.i 1)), (.v 24)])
       (.nd (.pr (.ixc .i64) [(.v 20), (.v 22)])
       (.nd (.pr (.set [ki64] 0) [(.v 21), (.v 26), (.v 25)])
       (.out 0 [(.v 27)])))))
      (.nd (.pr (.len [ki64]) [(.v 24)])
      (.nd (.pr (.bin .add .i64) [(.v 20), (.k (.i 1))])
      (.out 0 [(.v 26), (.v 24)]))))
      (.out 5 [(.v 21)])))))
   (.nd (.pr (.len [ki64]) [(.v 20)])
   (.out 0 [(.v 20)])))))))
   (.out 0 [(.v 7)])))))
(.nd (.pr (.len [ki64]) [(.v 12)])
(.out 1 [(.v 12)]))))))))
def e5 : Fe := ⟨⟨38, [(.sl [ku8])], [(.dat (.sl [ku8]) (.v 0))], [], [(.sl [ki64])], [(.sl 0 (.k (.i 0)) (.v 2) 1)], [(0, (.arr [ki64] (.v 1) (.v 2)))], 1⟩,
 ⟨[(125, ⟨[(.sl [ki64])], [(4, (.sl 0 (.k (.i 0)) (.v 13) 1))], [(0, (.arr [ki64] (.v 12) (.v 13)))], 1⟩), (16059, ⟨[(.sl [ki64])], [(4, (.sl 0 (.k (.i 0)) (.v 21) 1))], [(0, (.arr [ki64] (.v 20) (.v 21)))], 1⟩), (32118, ⟨[ki64, (.sl [ki64])], [(4, (.sl 0 (.k (.i 0)) (.v 22) 1)), (43, (.dat ki64 (.v 19))), (44, (.dat ki64 (.v 20)))], [(0, (.arr [ki64] (.v 21) (.v 22)))], 1⟩), (513894, ⟨[(.sl [ki64])], [(4, (.sl 0 (.k (.i 0)) (.v 25) 1)), (43, (.dat ki64 (.v 19))), (44, (.dat ki64 (.v 20)))], [(0, (.arr [ki64] (.v 24) (.v 25)))], 1⟩), (61, ⟨[ki64, ki64, (.sl [ki64])], [(3, (.ptr 0 0)), (4, (.sl 1 (.k (.i 0)) (.v 8) 1))], [(0, (.cells [(.dat (.sl [ku8]) (.v 0)), (.dat ki64 (.v 5)), (.dat ki64 (.v 6))])), (1, (.arr [ki64] (.v 7) (.v 8)))], 2⟩), (122, ⟨[ki64, ki64, ki64, (.sl [ki64])], [(3, (.ptr 0 0)), (4, (.sl 1 (.k (.i 0)) (.v 9) 1)), (5, (.dat ki64 (.v 5)))], [(0, (.cells [(.dat (.sl [ku8]) (.v 0)), (.dat ki64 (.v 6)), (.dat ki64 (.v 7))])), (1, (.arr [ki64] (.v 8) (.v 9)))], 2⟩), (978, ⟨[ki64, ki64, (.sl [ki64])], [(3, (.ptr 0 0)), (4, (.sl 1 (.k (.i 0)) (.v 14) 1)), (5, (.dat ki64 (.v 5)))], [(0, (.cells [(.dat (.sl [ku8]) (.v 0)), (.dat ki64 (.v 11)), (.dat ki64 (.v 12))])), (1, (.arr [ki64] (.v 13) (.v 14)))], 2⟩)], []⟩,
 [(2, (.sl 0 (.k (.i 0)) (.v 2) 1))], some t5, fun _ => none⟩
/-- loop.example/g00709/impl.within -/
def t6 : Tr :=
(.seq [kb]
 (.nd (.pr (.cmp .geq .i64) [(.v 0), (.v 1)])
 (.ite (.v 3)
  (.nd (.pr (.cmp .leq .i64) [(.v 0), (.v 2)])
  (.out 0 [(.v 4)]))
  (.out 0 [(.k (.b false))])))
(.out 1 [(.v 3)]))
def e6 : Fe := ⟨⟨104, [ki64, ki64, ki64], [(.dat ki64 (.v 0)), (.dat ki64 (.v 1)), (.dat ki64 (.v 2))], [], [kb], [(.dat kb (.v 3))], [], 0⟩,
 ⟨[(3, ⟨[kb], [(6, (.dat kb (.v 3)))], [], 0⟩)], []⟩,
 [(6, (.dat kb (.v 3)))], some t6, fun _ => none⟩
/-- loop.example/g00709/impl.ChunksFor -/
def t7 : Tr :=
(.nd (.call 6 [(.v 0), (.k (.i 17)), (.k (.i 256))] [ki64, ki64, ki64] [kb])
(.nd (.pr .not [(.v 1)])
(.ite (.v 2)
 (.out 1 [(.k (.i 0))])
 (.nd (.pr (.bin .add .i64) [(.v 0), (.k (.i 16))])
 (.nd (.pr (.bin .sub .i64) [(.v 3), (.k (.i 1))])
 (.nd (.pr (.bin .quo .i64) [(.v 4), (.k (.i 16))])
 (.out 1 [(.v 5)])))))))
def e7 : Fe := ⟨⟨115, [ki64], [(.dat ki64 (.v 0))], [], [ki64], [(.dat ki64 (.v 1))], [], 0⟩,
 ⟨[], []⟩,
 [(2, (.dat ki64 (.v 1)))], some t7, fun _ => none⟩
/-- math/bits.Len32 -/
def t8 : Tr :=
(.seq [ku32, ki64]
 (.nd (.pr (.cmp .geq .u32) [(.v 0), (.k (.i 65536))])
 (.ite (.v 1)
  (.nd (.pr (.sh .shr .u32 .u64) [(.v 0), (.k (.i 16))])
  (.out 0 [(.v 2), (.k (.i 16))]))
  (.out 0 [(.v 0), (.k (.i 0))])))
(.seq [ku32, ki64]
 (.nd (.pr (.cmp .geq .u32) [(.v 1), (.k (.i 256))])
 (.ite (.v 3)
  (.nd (.pr (.sh .shr .u32 .u64) [(.v 1), (.k (.i 8))])
  (.nd (.pr (.bin .add .i64) [(.v 2), (.k (.i 8))])
  (.out 0 [(.v 4), (.v 5)])))
  (.out 0 [(.v 1), (.v 2)])))
(.nd (.pr (.conv .u32 .u8) [(.v 3)])
(.nd (.pr (.idxS .u8) [(.k (.s ⟨#[0, 1, 2, 2, 3, 3, 3, 3, 4, 4, 4, 4, 4, 4, 4, 4, 5, 5, 5, 5, 5, 5, 5, 5, 5, 5, 5, 5, 5, 5, 5, 5, 6, 6, 6, 6, 6, 6, 6, 6, 6, 6, 6, 6, 6, 6, 6, 6, 6, 6, 6, 6, 6, 6, 6, 6, 6, 6, 6, 6, 6, 6, 6, 6, 7, 7, 7, 7, 7, 7, 7, 7, 7, 7, 7, 7, 7, 7, 7, 7, 7, 7, 7, 7, 7, 7, 7, 7, 7, 7, 7, 7, 7, 7, 7, 7, 7, 7, 7, 7, 7, 7, 7, 7, 7, 7, 7, 7, 7, 7, 7, 7, 7, 7, 7, 7, 7, 7, 7, 7, 7, 7, 7, 7, 7, 7, 7, 7, 8, 8, 8, 8, 8, 8, 8, 8, 8, 8, 8, 8, 8, 8, 8, 8, 8, 8, 8, 8, 8, 8, 8, 8, 8, 8, 8, 8, 8, 8, 8, 8, 8, 8, 8, 8, 8, 8, 8, 8, 8, 8, 8, 8, 8, 8, 8, 8, 8, 8, 8, 8, 8, 8, 8, 8, 8, 8, 8, 8, 8, 8, 8, 8, 8, 8, 8, 8, 8, 8, 8, 8, 8, 8, 8, 8, 8, 8, 8, 8, 8, 8, 8, 8, 8, 8, 8, 8, 8, 8, 8, 8, 8, 8, 8, 8, 8, 8, 8, 8, 8, 8, 8, 8, 8, 8, 8, 8, 8, 8, 8, 8, 8, 8, 8, 8, 8, 8, 8, 8, 8, 8, 8, 8, 8, 8, 8, 8]⟩)), (.v 5)])
(.nd (.pr (.conv .u8 .i64) [(.v 6)])
(.nd (.pr (.bin .add .i64) [(.v 4), (.v 7)])
(.out 1 [(.v 8)])))))))
def e8 : Fe := ⟨⟨198, [ku32], [(.dat ku32 (.v 0))], [], [ki64], [(.dat ki64 (.v 1))], [], 0⟩,
 ⟨[(7, ⟨[ku32, ki64], [(0, (.dat ku32 (.v 3))), (2, (.dat ki64 (.v 4)))], [], 0⟩), (3, ⟨[ku32, ki64], [(0, (.dat ku32 (.v 1))), (2, (.dat ki64 (.v 2)))], [], 0⟩)], []⟩,
 [(2, (.dat ki64 (.v 1)))], some t8, fun _ => none⟩
/-- math/bits.Len64 -/
def t9 : Tr :=
(.seq [ku64, ki64]
 (.nd (.pr (.cmp .geq .u64) [(.v 0), (.k (.i 4294967296))])
 (.ite (.v 1)
  (.nd (.pr (.sh .shr .u64 .u64) [(.v 0), (.k (.i 32))])
  (.out 0 [(.v 2), (.k (.i 32))]))
  (.out 0 [(.v 0), (.k (.i 0))])))
(.seq [ku64, ki64]
 (.nd (.pr (.cmp .geq .u64) [(.v 1), (.k (.i 65536))])
 (.ite (.v 3)
  (.nd (.pr (.sh .shr .u64 .u64) [(.v 1), (.k (.i 16))])
  (.nd (.pr (.bin .add .i64) [(.v 2), (.k (.i 16))])
  (.out 0 [(.v 4), (.v 5)])))
  (.out 0 [(.v 1), (.v 2)])))
(.seq [ku64, ki64]
 (.nd (.pr (.cmp .geq .u64) [(.v 3), (.k (.i 256))])
 (.ite (.v 5)
  (.nd (.pr (.sh .shr .u64 .u64) [(.v 3), (.k (.i 8))])
  (.nd (.pr (.bin .add .i64) [(.v 4), (.k (.i 8))])
  (.out 0 [(.v 6), (.v 7)])))
  (.out 0 [(.v 3), (.v 4)])))
(.nd (.pr (.conv .u64 .u8) [(.v 5)])
(.nd (.pr (.idxS .u8) [(.k (.s ⟨#[0, 1, 2, 2, 3, 3, 3, 3, 4, 4, 4, 4, 4, 4, 4, 4, 5, 5, 5, 5, 5, 5, 5, 5, 5, 5, 5, 5, 5, 5, 5, 5, 6, 6, 6, 6, 6, 6, 6, 6, 6, 6, 6, 6, 6, 6, 6, 6, 6, 6, 6, 6, 6, 6, 6, 6, 6, 6, 6, 6, 6, 6, 6, 6, 7, 7, 7, 7, 7, 7, 7, 7, 7, 7, 7, 7, 7, 7, 7, 7, 7, 7, 7, 7, 7, 7, 7, 7, 7, 7, 7, 7, 7, 7, 7, 7, 7, 7, 7, 7, 7, 7, 7, 7, 7, 7, 7, 7, 7, 7, 7, 7, 7, 7, 7, 7, 7, 7, 7, 7, 7, 7, 7, 7, 7, 7, 7, 7, 8, 8, 8, 8, 8, 8, 8, 8, 8, 8, 8, 8, 8, 8, 8, 8, 8, 8, 8, 8, 8, 8, 8, 8, 8, 8, 8, 8, 8, 8, 8, 8, 8, 8, 8, 8, 8, 8, 8, 8, 8, 8, 8, 8, 8, 8, 8, 8, 8, 8, 8, 8, 8, 8, 8, 8, 8, 8, 8, 8, 8, 8, 8, 8, 8, 8, 8, 8, 8, 8, 8, 8, 8, 8, 8, 8, 8, 8, 8, 8, 8, 8, 8, 8, 8, 8, 8, 8, 8, 8, 8, 8, 8, 8, 8, 8, 8, 8, 8, 8, 8, 8, 8, 8, 8, 8, 8, 8, 8, 8, 8, 8, 8, 8, 8, 8, 8, 8, 8, 8, 8, 8, 8, 8, 8, 8, 8, 8]⟩)), (.v 7)])
(.nd (.pr (.conv .u8 .i64) [(.v 8)])
(.nd (.pr (.bin .add .i64) [(.v 6), (.v 9)])
(.out 1 [(.v 10)]))))))))
def e9 : Fe := ⟨⟨199, [ku64], [(.dat ku64 (.v 0))], [], [ki64], [(.dat ki64 (.v 1))], [], 0⟩,
 ⟨[(15, ⟨[ku64, ki64], [(0, (.dat ku64 (.v 5))), (2, (.dat ki64 (.v 6)))], [], 0⟩), (7, ⟨[ku64, ki64], [(0, (.dat ku64 (.v 3))), (2, (.dat ki64 (.v 4)))], [], 0⟩), (3, ⟨[ku64, ki64], [(0, (.dat ku64 (.v 1))), (2, (.dat ki64 (.v 2)))], [], 0⟩)], []⟩,
 [(2, (.dat ki64 (.v 1)))], some t9, fun _ => none⟩
/-- math/bits.Len -/
def t10 : Tr :=
(.nd (.call 9 [(.v 0)] [ku64] [ki64])
(.out 1 [(.v 1)]))
def e10 : Fe := ⟨⟨164, [ku64], [(.dat ku64 (.v 0))], [], [ki64], [(.dat ki64 (.v 1))], [], 0⟩,
 ⟨[], []⟩,
 [(2, (.dat ki64 (.v 1)))], some t10, fun _ => none⟩
/-- loop.example/g00709/impl.ClassOf -/
def t11 : Tr :=
(.nd (.call 6 [(.v 0), (.k (.i 1)), (.k (.i 16))] [ki64, ki64, ki64] [kb])
(.nd (.pr .not [(.v 1)])
(.ite (.v 2)
 (.out 1 [(.k (.i (-1)))])
 (.nd (.pr (.bin .sub .i64) [(.v 0), (.k (.i 1))])
 (.nd (.pr (.conv .i64 .u64) [(.v 3)])
 (.nd (.call 10 [(.v 4)] [ku64] [ki64])
 (.out 1 [(.v 5)])))))))
def e11 : Fe := ⟨⟨116, [ki64], [(.dat ki64 (.v 0))], [], [ki64], [(.dat ki64 (.v 1))], [], 0⟩,
 ⟨[], []⟩,
 [(2, (.dat ki64 (.v 1)))], some t11, fun _ => none⟩
/-- loop.example/g00709/impl.isClass -/
def t12 : Tr :=
(.nd (.call 6 [(.v 0), (.k (.i 0)), (.k (.i 4))] [ki64, ki64, ki64] [kb])
(.out 1 [(.v 1)]))
def e12 : Fe := ⟨⟨156, [ki64], [(.dat ki64 (.v 0))], [], [kb], [(.dat kb (.v 1))], [], 0⟩,
 ⟨[], []⟩,
 [(2, (.dat kb (.v 1)))], some t12, fun _ => none⟩
/-- loop.example/g00709/impl.ClassSize -/
def t13 : Tr :=
(.nd (.call 12 [(.v 0)] [ki64] [kb])
(.nd (.pr .not [(.v 1)])
(.ite (.v 2)
 (.out 1 [(.k (.i 0))])
 (.nd (.pr (.sh .shl .i64 .i64) [(.k (.i 1)), (.v 0)])
 (.out 1 [(.v 3)])))))
def e13 : Fe := ⟨⟨86, [ki64], [(.dat ki64 (.v 0))], [], [ki64], [(.dat ki64 (.v 1))], [], 0⟩,
 ⟨[], []⟩,
 [(2, (.dat ki64 (.v 1)))], some t13, fun _ => none⟩
/-- loop.example/g00709/impl.Waste -/
def t14 : Tr :=
(.nd (.pr (.len [ki64]) [(.v 0)])
(.nd (.pr (.cmp .gtr .i64) [(.v 1), (.k (.i 1000))])
(.ite (.v 2)
 (.out 1 [(.k (.i (-1)))])
 (.nd (.pr (.len [ki64]) [(.v 0)])
 (.blk 2 [ki64]
  (.loop [ki64, ki64] [(.k (.i 0)), (.k (.i 0))]
   (.nd (.pr (.cmp .lss .i64) [(.v 5), (.v 3)])
   (.ite (.v 6)
    (.blk 3 [ki64]
     (.nd (.pr (.len [ki64]) [(.v 0)])
     (.nd (.pr (.ixc .i64) [(.v 5), (.v 7)])
     (.nd (.pr (.get [ki64] 0) [(.v 0), (.v 8)])
     (.nd (.call 7 [(.v 9)] [ki64] [ki64])
     (.nd (.pr (.bin .mul .i64) [(.v 10), (.k (.i 16))])
     (.seq [ki64]
      (.nd (.call 11 [(.v 9)] [ki64] [ki64])
      (.nd (.pr (.cmp .geq .i64) [(.v 12), (.k (.i 0))])
      (.ite (.v 13)
       (.nd (.call 13 [(.v 12)] [ki64] [ki64])
       (.out 0 [(.v 14)]))
       (.out 0 [(.v 11)]))))
     (.nd (.pr (.cmp .eql .i64) [(.v 12), (.k (.i 0))])
     (.ite (.v 13)
      (.out 1 [(.k (.i (-1)))])
      (.nd (.pr (.bin .sub .i64) [(.v 12), (.v 9)])
      (.nd (.pr (.bin .add .i64) [(.v 4), (.v 14)])
      (.out 0 [(.v 15)])))))))))))
    (.nd (.pr (.bin .add .i64) [(.v 5), (.k (.i 1))])
    (.out 0 [(.v 7), (.v 8)])))
    (.out 2 [(.v 4)]))))
 (.out 1 [(.v 4)]))))))
def e14 : Fe := ⟨⟨39, [(.sl [ki64])], [(.lz [ki64] (.v 0))], [], [ki64], [(.dat ki64 (.v 1))], [], 0⟩,
 ⟨[(61, ⟨[ki64], [(3, (.dat ki64 (.v 4)))], [], 0⟩), (122, ⟨[ki64, ki64], [(3, (.dat ki64 (.v 4))), (11, (.lz [ki64] (.v 0))), (12, (.dat ki64 (.v 3))), (13, (.dat ki64 (.v 5)))], [], 0⟩), (1958, ⟨[ki64], [(3, (.dat ki64 (.v 7))), (11, (.lz [ki64] (.v 0))), (12, (.dat ki64 (.v 3))), (13, (.dat ki64 (.v 5)))], [], 0⟩), (15667, ⟨[ki64], [(3, (.dat ki64 (.v 4))), (5, (.dat ki64 (.v 9))), (6, (.dat ki64 (.v 12))), (11, (.lz [ki64] (.v 0))), (12, (.dat ki64 (.v 3))), (13, (.dat ki64 (.v 5)))], [], 0⟩)], []⟩,
 [(2, (.dat ki64 (.v 1)))], some t14, fun _ => none⟩
/-- loop.example/g00709/spec.l04Pow -/
def t15 : Tr :=
(.blk 2 [ki64]
 (.loop [ki64, ki64] [(.v 0), (.k (.i 1))]
  (.nd (.pr (.cmp .gtr .i64) [(.v 1), (.k (.i 0))])
  (.ite (.v 3)
   (.blk 3 [ki64]
    (.nd (.pr (.bin .mul .i64) [(.k (.i 2)), (.v 2)])
    (.out 0 [(.v 4)]))
   (.nd (.pr (.bin .sub .i64) [(.v 1), (.k (.i 1))])
   (.out 0 [(.v 5), (.v 4)])))
   (.out 2 [(.v 2)]))))
(.out 1 [(.v 1)]))
def e15 : Fe := ⟨⟨165, [ki64], [(.dat ki64 (.v 0))], [], [ki64], [(.dat ki64 (.v 1))], [], 0⟩,
 ⟨[(14, ⟨[ki64], [(3, (.dat ki64 (.v 1)))], [], 0⟩), (28, ⟨[ki64, ki64], [(0, (.dat ki64 (.v 1))), (3, (.dat ki64 (.v 2)))], [], 0⟩), (226, ⟨[ki64], [(0, (.dat ki64 (.v 1))), (3, (.dat ki64 (.v 4)))], [], 0⟩)], []⟩,
 [(2, (.dat ki64 (.v 1)))], some t15, fun _ => none⟩
/-- loop.example/g00709/spec.ClassOf -/
def t16 : Tr :=
(.blk 2 []
 (.loop [ki64] [(.k (.i 0))]
  (.seq [kb]
   (.nd (.pr (.cmp .lss .i64) [(.v 1), (.k (.i 5))])
   (.ite (.v 2)
    (.nd (.pr (.cmp .geq .i64) [(.v 0), (.k (.i 1))])
    (.out 0 [(.v 3)]))
    (.out 0 [(.k (.b false))])))
  (.ite (.v 2)
   (.blk 3 []
    (.nd (.call 15 [(.v 1)] [ki64] [ki64])
    (.nd (.pr (.cmp .geq .i64) [(.v 3), (.v 0)])
    (.ite (.v 4)
     (.out 1 [(.v 1)])
     (.out 0 []))))
   (.nd (.pr (.bin .add .i64) [(.v 1), (.k (.i 1))])
   (.out 0 [(.v 3)])))
   (.out 2 []))))
(.out 1 [(.k (.i (-1)))]))
def e16 : Fe := ⟨⟨117, [ki64], [(.dat ki64 (.v 0))], [], [ki64], [(.dat ki64 (.v 1))], [], 0⟩,
 ⟨[(13, ⟨[], [], [], 0⟩), (26, ⟨[ki64], [(0, (.dat ki64 (.v 0))), (3, (.dat ki64 (.v 1)))], [], 0⟩), (210, ⟨[], [(0, (.dat ki64 (.v 0))), (3, (.dat ki64 (.v 1)))], [], 0⟩), (104, ⟨[kb], [(0, (.dat ki64 (.v 0))), (3, (.dat ki64 (.v 1))), (9, (.dat kb (.v 2)))], [], 0⟩)], []⟩,
 [(2, (.dat ki64 (.v 1)))], some t16, fun _ => none⟩
/-- loop.example/g00709/spec.ChunksFor -/
def t17 : Tr :=
(.seq [kb]
 (.nd (.pr (.cmp .leq .i64) [(.v 0), (.k (.i 16))])
 (.ite (.v 1)
  (.out 0 [(.k (.b true))])
  (.nd (.pr (.cmp .gtr .i64) [(.v 0), (.k (.i 256))])
  (.out 0 [(.v 2)]))))
(.ite (.v 1)
 (.out 1 [(.k (.i 0))])
 (.nd (.pr (.bin .add .i64) [(.v 0), (.k (.i 16))])
 (.nd (.pr (.bin .sub .i64) [(.v 2), (.k (.i 1))])
 (.nd (.pr (.bin .quo .i64) [(.v 3), (.k (.i 16))])
 (.out 1 [(.v 4)]))))))
def e17 : Fe := ⟨⟨118, [ki64], [(.dat ki64 (.v 0))], [], [ki64], [(.dat ki64 (.v 1))], [], 0⟩,
 ⟨[(6, ⟨[kb], [(0, (.dat ki64 (.v 0))), (8, (.dat kb (.v 1)))], [], 0⟩)], []⟩,
 [(2, (.dat ki64 (.v 1)))], some t17, fun _ => none⟩
/-- loop.example/g00709/spec.l04Class -/
def t18 : Tr :=
(.seq [kb]
 (.nd (.pr (.cmp .geq .i64) [(.v 0), (.k (.i 0))])
 (.ite (.v 1)
  (.nd (.pr (.cmp .lss .i64) [(.v 0), (.k (.i 5))])
  (.out 0 [(.v 2)]))
  (.out 0 [(.k (.b false))])))
(.out 1 [(.v 1)]))
def e18 : Fe := ⟨⟨166, [ki64], [(.dat ki64 (.v 0))], [], [kb], [(.dat kb (.v 1))], [], 0⟩,
 ⟨[(3, ⟨[kb], [(2, (.dat kb (.v 1)))], [], 0⟩)], []⟩,
 [(2, (.dat kb (.v 1)))], some t18, fun _ => none⟩
/-- loop.example/g00709/spec.ClassSize -/
def t19 : Tr :=
(.nd (.call 18 [(.v 0)] [ki64] [kb])
(.nd (.pr .not [(.v 1)])
(.ite (.v 2)
 (.out 1 [(.k (.i 0))])
 (.nd (.call 15 [(.v 0)] [ki64] [ki64])
 (.out 1 [(.v 3)])))))
def e19 : Fe := ⟨⟨119, [ki64], [(.dat ki64 (.v 0))], [], [ki64], [(.dat ki64 (.v 1))], [], 0⟩,
 ⟨[], []⟩,
 [(2, (.dat ki64 (.v 1)))], some t19, fun _ => none⟩
/-- loop.example/g00709/spec.Waste -/
def t20 : Tr :=
(.nd (.pr (.len [ki64]) [(.v 0)])
(.nd (.pr (.cmp .gtr .i64) [(.v 1), (.k (.i 1000))])
(.ite (.v 2)
 (.out 1 [(.k (.i (-1)))])
 (.blk 2 [ki64]
  (.loop [ki64, ki64] [(.k (.i 0)), (.k (.i 0))]
   (.nd (.pr (.len [ki64]) [(.v 0)])
   (.nd (.pr (.cmp .lss .i64) [(.v 4), (.v 5)])
   (.ite (.v 6)
    (.blk 3 [ki64]
     (.nd (.pr (.len [ki64]) [(.v 0)])
     (.nd (.pr (.ixc .i64) [(.v 4), (.v 7)])
     (.nd (.pr (.get [ki64] 0) [(.v 0), (.v 8)])
     (.nd (.call 16 [(.v 9)] [ki64] [ki64])
     (.nd (.pr (.len [ki64]) [(.v 0)])
     (.nd (.pr (.ixc .i64) [(.v 4), (.v 11)])
     (.nd (.pr (.get [ki64] 0) [(.v 0), (.v 12)])
     (.nd (.call 17 [(.v 13)] [ki64] [ki64])
     (.blk 4 [ki64]
      (.nd (.pr (.cmp .geq .i64) [(.v 10), (.k (.i 0))])
      (.ite (.v 15)
       (.nd (.pr (.len [ki64]) [(.v 0)])
       (.nd (.pr (.ixc .i64) [(.v 4), (.v 16)])
       (.nd (.pr (.get [ki64] 0) [(.v 0), (.v 17)])
       (.nd (.call 19 [(.v 10)] [ki64] [ki64])
       (.nd (.pr (.bin .add .i64) [(.v 3), (.v 19)])
       (.nd (.pr (.bin .sub .i64) [(.v 20), (.v 18)])
       (.out 0 [(.v 21)])))))))
       (.nd (.pr (.cmp .gtr .i64) [(.v 14), (.k (.i 0))])
       (.ite (.v 16)
        (.nd (.pr (.bin .mul .i64) [(.v 14), (.k (.i 16))])
        (.nd (.pr (.bin .add .i64) [(.v 3), (.v 17)])
        (.nd (.pr (.len [ki64]) [(.v 0)])
        (.nd (.pr (.ixc .i64) [(.v 4), (.v 19)])
        (.nd (.pr (.get [ki64] 0) [(.v 0), (.v 20)])
        (.nd (.pr (.bin .sub .i64) [(.v 18), (.v 21)])
        (.out 0 [(.v 22)])))))))
        (.out 1 [(.k (.i (-1)))])))))
     (.out 0 [(.v 15)]))))))))))
    (.nd (.pr (.bin .add .i64) [(.v 4), (.k (.i 1))])
    (.out 0 [(.v 7), (.v 8)])))
    (.out 2 [(.v 3)])))))
 (.out 1 [(.v 3)])))))
def e20 : Fe := ⟨⟨40, [(.sl [ki64])], [(.lz [ki64] (.v 0))], [], [ki64], [(.dat ki64 (.v 1))], [], 0⟩,
 ⟨[(61, ⟨[ki64], [(3, (.dat ki64 (.v 3)))], [], 0⟩), (122, ⟨[ki64, ki64], [(0, (.lz [ki64] (.v 0))), (3, (.dat ki64 (.v 3))), (4, (.dat ki64 (.v 4)))], [], 0⟩), (978, ⟨[ki64], [(0, (.lz [ki64] (.v 0))), (3, (.dat ki64 (.v 7))), (4, (.dat ki64 (.v 4)))], [], 0⟩), (7827, ⟨[ki64], [(0, (.lz [ki64] (.v 0))), (3, (.dat ki64 (.v 15))), (4, (.dat ki64 (.v 4)))], [], 0⟩)], []⟩,
 [(2, (.dat ki64 (.v 1)))], some t20, fun _ => none⟩
/-- loop.example/g00709/laws.pick -/
def t21 : Tr :=
(.seq [kb]
 (.nd (.pr (.len [ku8]) [(.v 0)])
 (.nd (.pr (.cmp .eql .i64) [(.v 3), (.k (.i 0))])
 (.ite (.v 4)
  (.out 0 [(.k (.b true))])
  (.nd (.pr (.cmp .lss .i64) [(.v 2), (.k (.i 2))])
  (.out 0 [(.v 5)])))))
(.ite (.v 3)
 (.out 1 [(.k (.i 0))])
 (.blk 2 [ki64]
  (.loop [ki64, ki64] [(.k (.i 0)), (.k (.i 0))]
   (.nd (.pr (.cmp .lss .i64) [(.v 5), (.k (.i 3))])
   (.ite (.v 6)
    (.blk 3 [ki64]
     (.nd (.pr (.bin .mul .i64) [(.k (.i 31)), (.v 4)])
     (.nd (.pr (.bin .add .i64) [(.v 1), (.v 5)])
     (.nd (.pr (.len [ku8]) [(.v 0)])
     (.nd (.pr (.bin .rem .i64) [(.v 8), (.v 9)])
     (.nd (.pr (.len [ku8]) [(.v 0)])
     (.nd (.pr (.ixc .i64) [(.v 10), (.v 11)])
     (.nd (.pr (.get [ku8] 0) [(.v 0), (.v 12)])
     (.nd (.pr (.conv .u8 .i64) [(.v 13)])
     (.nd (.pr (.bin .add .i64) [(.v 7), (.v 14)])
     (.out 0 [(.v 15)]))))))))))
    (.nd (.pr (.bin .add .i64) [(.v 5), (.k (.i 1))])
    (.out 0 [(.v 7), (.v 8)])))
    (.out 2 [(.v 4)]))))
 (.nd (.pr (.bin .add .i64) [(.v 4), (.v 1)])
 (.nd (.pr (.bin .rem .i64) [(.v 5), (.v 2)])
 (.out 1 [(.v 6)]))))))
def e21 : Fe := ⟨⟨25, [(.sl [ku8]), ki64, ki64], [(.dat (.sl [ku8]) (.v 0)), (.dat ki64 (.v 1)), (.dat ki64 (.v 2))], [], [ki64], [(.dat ki64 (.v 3))], [], 0⟩,
 ⟨[(61, ⟨[ki64], [(1, (.dat ki64 (.v 1))), (2, (.dat ki64 (.v 2))), (7, (.dat ki64 (.v 4)))], [], 0⟩), (122, ⟨[ki64, ki64], [(0, (.dat (.sl [ku8]) (.v 0))), (1, (.dat ki64 (.v 1))), (2, (.dat ki64 (.v 2))), (7, (.dat ki64 (.v 4))), (8, (.dat ki64 (.v 5)))], [], 0⟩), (978, ⟨[ki64], [(0, (.dat (.sl [ku8]) (.v 0))), (1, (.dat ki64 (.v 1))), (2, (.dat ki64 (.v 2))), (7, (.dat ki64 (.v 7))), (8, (.dat ki64 (.v 5)))], [], 0⟩), (6, ⟨[kb], [(0, (.dat (.sl [ku8]) (.v 0))), (1, (.dat ki64 (.v 1))), (2, (.dat ki64 (.v 2))), (15, (.dat kb (.v 3)))], [], 0⟩)], []⟩,
 [(6, (.dat ki64 (.v 3)))], some t21, fun _ => none⟩
/-- loop.example/g00709/laws.FnWaste -/
def t22 : Tr :=
(.nd (.call 0 [(.v 0)] [(.sl [ku8])] [kb])
(.ite (.v 1)
 (.out 1 [(.k (.b true))])
 (.nd (.call 5 [(.v 0)] [(.sl [ku8])] [(.sl [ki64])])
 (.nd (.pr (.len [ki64]) [(.v 2)])
 (.nd (.call 14 [(.v 2)] [(.sl [ki64])] [ki64])
 (.seq [kb]
  (.nd (.call 20 [(.v 2)] [(.sl [ki64])] [ki64])
  (.nd (.pr (.cmp .neq .i64) [(.v 4), (.v 5)])
  (.ite (.v 6)
   (.out 0 [(.k (.b true))])
   (.nd (.pr (.cmp .lss .i64) [(.v 4), (.k (.i 0))])
   (.out 0 [(.v 7)])))))
 (.nd (.pr (.len [ki64]) [(.v 2)])
 (.ite (.v 5)
  (.nd (.call 20 [(.v 2)] [(.sl [ki64])] [ki64])
  (.nd (.pr (.cmp .eql .i64) [(.v 4), (.v 7)])
  (.out 1 [(.v 8)])))
  (.nd (.pr (.bin .add .i64) [(.v 6), (.k (.i 1))])
  (.nd (.call 21 [(.v 0), (.k (.i 3)), (.v 7)] [(.sl [ku8]), ki64, ki64] [ki64])
  (.blk 2 [ki64]
   (.loop [ki64, ki64] [(.k (.i 0)), (.k (.i 0))]
    (.nd (.pr (.len [ki64]) [(.v 2)])
    (.nd (.pr (.cmp .lss .i64) [(.v 10), (.v 11)])
    (.ite (.v 12)
     (.blk 3 [ki64]
      (.nd (.pr (.bin .add .i64) [(.v 10), (.k (.i 1))])
      (.nd (.pr (.rng .i64 .i64) [(.v 10), (.v 13), (.v 11)])
      (.nd (.pr (.nat .i64) [(.v 10)])
      (.nd (.pr .plus [(.v 15), (.v 14)])
      (.nd (.pr (.cut [ki64] .i64 .i64) [(.v 2), (.v 15), (.v 16)])
      (.nd (.call 14 [(.v 17)] [(.sl [ki64])] [ki64])
      (.seq [kb]
       (.nd (.pr (.cmp .lss .i64) [(.v 18), (.k (.i 0))])
       (.ite (.v 19)
        (.out 0 [(.k (.b true))])
        (.nd (.pr (.ixc .i64) [(.v 10), (.v 11)])
        (.nd (.pr (.get [ki64] 0) [(.v 2), (.v 20)])
        (.nd (.pr (.mx .i64) [(.v 21), (.k (.i 16))])
        (.nd (.pr (.cmp .geq .i64) [(.v 18), (.v 22)])
        (.out 0 [(.v 23)])))))))
      (.nd (.pr (.len [ki64]) [(.v 2)])
      (.ite (.v 19)
       (.out 1 [(.k (.b false))])
       (.nd (.pr (.bin .add .i64) [(.v 9), (.v 18)])
       (.out 0 [(.v 21)])))))))))))
     (.nd (.pr (.len [ki64]) [(.v 2)])
     (.nd (.pr (.bin .add .i64) [(.v 10), (.k (.i 1))])
     (.out 0 [(.v 13), (.v 15)]))))
     (.out 2 [(.v 9)])))))
  (.nd (.pr (.len [ki64]) [(.v 2)])
  (.seq [kb]
   (.nd (.pr (.rng .i64 .i64) [(.k (.i 0)), (.v 8), (.v 10)])
   (.nd (.pr (.nat .i64) [(.k (.i 0))])
   (.nd (.pr (.rng .i64 .i64) [(.v 8), (.v 10), (.v 10)])
   (.nd (.pr (.nat .i64) [(.v 8)])
   (.nd (.pr .plus [(.v 12), (.v 11)])
   (.nd (.pr (.cut [ki64] .i64 .i64) [(.v 2), (.v 12), (.v 15)])
   (.nd (.call 14 [(.v 16)] [(.sl [ki64])] [ki64])
   (.nd (.pr .plus [(.v 14), (.v 13)])
   (.nd (.pr (.cut [ki64] .i64 .i64) [(.v 2), (.v 14), (.v 18)])
   (.nd (.call 14 [(.v 19)] [(.sl [ki64])] [ki64])
   (.nd (.pr (.bin .add .i64) [(.v 17), (.v 20)])
   (.nd (.pr (.cmp .eql .i64) [(.v 21), (.v 4)])
   (.ite (.v 22)
    (.nd (.pr (.cmp .eql .i64) [(.v 9), (.v 4)])
    (.out 0 [(.v 23)]))
    (.out 0 [(.k (.b false))]))))))))))))))
  (.out 1 [(.v 11)]))))))))))))))
def e22 : Fe := ⟨⟨6, [(.sl [ku8])], [(.dat (.sl [ku8]) (.v 0))], [], [kb], [(.dat kb (.v 1))], [], 0⟩,
 ⟨[(511, ⟨[kb], [(2, (.dat kb (.v 11)))], [], 0⟩), (1021, ⟨[ki64], [(3, (.sl 0 (.k (.i 0)) (.v 10) 1)), (4, (.dat ki64 (.v 4))), (5, (.dat ki64 (.v 8))), (6, (.dat ki64 (.v 9)))], [(0, (.arr [ki64] (.v 2) (.v 10)))], 1⟩), (2042, ⟨[ki64, ki64], [(3, (.sl 0 (.k (.i 0)) (.v 11) 1)), (4, (.dat ki64 (.v 4))), (5, (.dat ki64 (.v 8))), (6, (.dat ki64 (.v 9))), (7, (.dat ki64 (.v 10)))], [(0, (.arr [ki64] (.v 2) (.v 11)))], 1⟩), (16338, ⟨[ki64], [(3, (.sl 0 (.k (.i 0)) (.v 14) 1)), (4, (.dat ki64 (.v 4))), (5, (.dat ki64 (.v 8))), (6, (.dat ki64 (.v 13))), (7, (.dat ki64 (.v 10)))], [(0, (.arr [ki64] (.v 2) (.v 14)))], 1⟩), (130706, ⟨[kb], [(3, (.sl 0 (.k (.i 0)) (.v 20) 1)), (4, (.dat ki64 (.v 4))), (5, (.dat ki64 (.v 8))), (6, (.dat ki64 (.v 9))), (7, (.dat ki64 (.v 10))), (8, (.dat ki64 (.v 18))), (54, (.dat kb (.v 19)))], [(0, (.arr [ki64] (.v 2) (.v 20)))], 1⟩), (62, ⟨[kb], [(0, (.dat (.sl [ku8]) (.v 0))), (3, (.sl 0 (.k (.i 0)) (.v 6) 1)), (4, (.dat ki64 (.v 4))), (22, (.dat kb (.v 5)))], [(0, (.arr [ki64] (.v 2) (.v 6)))], 1⟩)], []⟩,
 [(2, (.dat kb (.v 1)))], some t22, fun _ => none⟩
def fes : List Fe := [e0, e1, e2, e3, e4, e5, e6, e7, e8, e9, e10, e11, e12, e13, e14, e15, e16, e17, e18, e19, e20, e21, e22]
theorem tabOk : TabOk Try.prog tab := tabB_ok (by kernel_rfl)
theorem ok0 : e0.ok Try.prog tab (sigsOf fes) (kindsOf fes) = true := by kernel_rfl
theorem ok1 : e1.ok Try.prog tab (sigsOf fes) (kindsOf fes) = true := by kernel_rfl
theorem ok2 : e2.ok Try.prog tab (sigsOf fes) (kindsOf fes) = true := by kernel_rfl
theorem ok3 : e3.ok Try.prog tab (sigsOf fes) (kindsOf fes) = true := by kernel_rfl
theorem ok4 : e4.ok Try.prog tab (sigsOf fes) (kindsOf fes) = true := by kernel_rfl
theorem ok5 : e5.ok Try.prog tab (sigsOf fes) (kindsOf fes) = true := by kernel_rfl
theorem ok6 : e6.ok Try.prog tab (sigsOf fes) (kindsOf fes) = true := by kernel_rfl
theorem ok7 : e7.ok Try.prog tab (sigsOf fes) (kindsOf fes) = true := by kernel_rfl
theorem ok8 : e8.ok Try.prog tab (sigsOf fes) (kindsOf fes) = true := by kernel_rfl
theorem ok9 : e9.ok Try.prog tab (sigsOf fes) (kindsOf fes) = true := by kernel_rfl
theorem ok10 : e10.ok Try.prog tab (sigsOf fes) (kindsOf fes) = true := by kernel_rfl
theorem ok11 : e11.ok Try.prog tab (sigsOf fes) (kindsOf fes) = true := by kernel_rfl
theorem ok12 : e12.ok Try.prog tab (sigsOf fes) (kindsOf fes) = true := by kernel_rfl
theorem ok13 : e13.ok Try.prog tab (sigsOf fes) (kindsOf fes) = true := by kernel_rfl
theorem ok14 : e14.ok Try.prog tab (sigsOf fes) (kindsOf fes) = true := by kernel_rfl
theorem ok15 : e15.ok Try.prog tab (sigsOf fes) (kindsOf fes) = true := by kernel_rfl
theorem ok16 : e16.ok Try.prog tab (sigsOf fes) (kindsOf fes) = true := by kernel_rfl
theorem ok17 : e17.ok Try.prog tab (sigsOf fes) (kindsOf fes) = true := by kernel_rfl
theorem ok18 : e18.ok Try.prog tab (sigsOf fes) (kindsOf fes) = true := by kernel_rfl
theorem ok19 : e19.ok Try.prog tab (sigsOf fes) (kindsOf fes) = true := by kernel_rfl
theorem ok20 : e20.ok Try.prog tab (sigsOf fes) (kindsOf fes) = true := by kernel_rfl
theorem ok21 : e21.ok Try.prog tab (sigsOf fes) (kindsOf fes) = true := by kernel_rfl
theorem ok22 : e22.ok Try.prog tab (sigsOf fes) (kindsOf fes) = true := by kernel_rfl
theorem fesOk : FeL Try.prog tab fes 0 fes := ⟨ok0, ok1, ok2, ok3, ok4, ok5, ok6, ok7, ok8, ok9, ok10, ok11, ok12, ok13, ok14, ok15, ok16, ok17, ok18, ok19, ok20, ok21, ok22, trivial⟩
end Go.Proofs.Ytaaglpobmdpdlaa.FnWaste
