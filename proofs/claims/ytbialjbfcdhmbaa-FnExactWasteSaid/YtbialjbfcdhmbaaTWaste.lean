/- What the functions behind Waste compute, as trees; that they do is checked by the kernel. Printed by bench/Bench.lean. -/
import Derived.Test.YtbialjbfcdhmbaaB33
import Derived.Test.YtbialjbfcdhmbaaProg
set_option maxRecDepth 100000
set_option linter.unusedVariables false
namespace Go.Proofs.Ytbialjbfcdhmbaa.Waste
open Go.BH
def tab : TyTab := [(3, ⟨1, 8, false, (.int .i64), [(.int .i64 (0))], [ki64], false⟩),
 (4, ⟨1, 1, false, .bool, [(.bool false)], [kb], false⟩),
 (5, ⟨1, 1, false, (.int .u8), [(.int .u8 (0))], [ku8], false⟩),
 (9, ⟨1, 16, false, .str, [(.string ⟨#[]⟩)], [ks], false⟩),
 (22, ⟨1, 24, false, (.slice 3), [(.slice none 0 0)], [(.sl [ki64])], false⟩),
 (64, ⟨1, 4, false, (.int .u32), [(.int .u32 (0))], [ku32], false⟩),
 (103, ⟨1, 8, false, (.int .u64), [(.int .u64 (0))], [ku64], false⟩),
 (120, ⟨1, 8, false, (.int .u64), [(.int .u64 (0))], [ku64], false⟩)]
/-- loop.example/g00709/impl.within -/
def t0 : Tr :=
(.seq [kb]
 (.nd (.pr (.cmp .geq .i64) [(.v 0), (.v 1)])
 (.ite (.v 3)
  (.nd (.pr (.cmp .leq .i64) [(.v 0), (.v 2)])
  (.out 0 [(.v 4)]))
  (.out 0 [(.k (.b false))])))
(.out 1 [(.v 3)]))
def e0 : Fe := ⟨⟨97, [ki64, ki64, ki64], [(.dat ki64 (.v 0)), (.dat ki64 (.v 1)), (.dat ki64 (.v 2))], [], [kb], [(.dat kb (.v 3))], [], 0⟩,
 ⟨[(3, ⟨[kb], [(6, (.dat kb (.v 3)))], [], 0⟩)], []⟩,
 [(6, (.dat kb (.v 3)))], some t0, fun _ => none⟩
/-- math/bits.Len64 -/
def t1 : Tr :=
(.seq [ku64, ki64]
 (.nd (.pr (.cmp .geq .u64) [(.v 0), (.k (.i 4294967296))])
 (.ite (.v 1)
  (.nd (.pr (.sh .shr .u64 .u64) [(.v 0), (.k (.i 32))])
  (.out 0 [(.v 2), (.k (.i 32))]))
  (.out 0 [(.v 0), (.k (.i 0))])))
(.seq [ku64, ki64]
 (.nd (.pr (.cmp .geq .u64) [(.v 1), (.k (.i 65536))])
 (.ite (.v 3)
  (.nd (.pr (.sh .shr .u64 .u64) [(.v 1), (.k (.i 16))])
  (.nd (.pr (.bin .add .i64) [(.v 2), (.k (.i 16))])
  (.out 0 [(.v 4), (.v 5)])))
  (.out 0 [(.v 1), (.v 2)])))
(.seq [ku64, ki64]
 (.nd (.pr (.cmp .geq .u64) [(.v 3), (.k (.i 256))])
 (.ite (.v 5)
  (.nd (.pr (.sh .shr .u64 .u64) [(.v 3), (.k (.i 8))])
  (.nd (.pr (.bin .add .i64) [(.v 4), (.k (.i 8))])
  (.out 0 [(.v 6), (.v 7)])))
  (.out 0 [(.v 3), (.v 4)])))
(.nd (.pr (.conv .u64 .u8) [(.v 5)])
(.nd (.pr (.idxS .u8) [(.k (.s ⟨#[0, 1, 2, 2, 3, 3, 3, 3, 4, 4, 4, 4, 4, 4, 4, 4, 5, 5, 5, 5, 5, 5, 5, 5, 5, 5, 5, 5, 5, 5, 5, 5, 6, 6, 6, 6, 6, 6, 6, 6, 6, 6, 6, 6, 6, 6, 6, 6, 6, 6, 6, 6, 6, 6, 6, 6, 6, 6, 6, 6, 6, 6, 6, 6, 7, 7, 7, 7, 7, 7, 7, 7, 7, 7, 7, 7, 7, 7, 7, 7, 7, 7, 7, 7, 7, 7, 7, 7, 7, 7, 7, 7, 7, 7, 7, 7, 7, 7, 7, 7, 7, 7, 7, 7, 7, 7, 7, 7, 7, 7, 7, 7, 7, 7, 7, 7, 7, 7, 7, 7, 7, 7, 7, 7, 7, 7, 7, 7, 8, 8, 8, 8, 8, 8, 8, 8, 8, 8, 8, 8, 8, 8, 8, 8, 8, 8, 8, 8, 8, 8, 8, 8, 8, 8, 8, 8, 8, 8, 8, 8, 8, 8, 8, 8, 8, 8, 8, 8, 8, 8, 8, 8, 8, 8, 8, 8, 8, 8, 8, 8, 8, 8, 8, 8, 8, 8, 8, 8, 8, 8, 8, 8, 8, 8, 8, 8, 8, 8, 8, 8, 8, 8, 8, 8, 8, 8, 8, 8, 8, 8, 8, 8, 8, 8, 8, 8, 8, 8, 8, 8, 8, 8, 8, 8, 8, 8, 8, 8, 8, 8, 8, 8, 8, 8, 8, 8, 8, 8, 8, 8, 8, 8, 8, 8, 8, 8, 8, 8, 8, 8, 8, 8, 8, 8, 8, 8]⟩)), (.v 7)])
(.nd (.pr (.conv .u8 .i64) [(.v 8)])
(.nd (.pr (.bin .add .i64) [(.v 6), (.v 9)])
(.out 1 [(.v 10)]))))))))
def e1 : Fe := ⟨⟨121, [ku64], [(.dat ku64 (.v 0))], [], [ki64], [(.dat ki64 (.v 1))], [], 0⟩,
 ⟨[(15, ⟨[ku64, ki64], [(0, (.dat ku64 (.v 5))), (2, (.dat ki64 (.v 6)))], [], 0⟩), (7, ⟨[ku64, ki64], [(0, (.dat ku64 (.v 3))), (2, (.dat ki64 (.v 4)))], [], 0⟩), (3, ⟨[ku64, ki64], [(0, (.dat ku64 (.v 1))), (2, (.dat ki64 (.v 2)))], [], 0⟩)], []⟩,
 [(2, (.dat ki64 (.v 1)))], some t1, fun _ => none⟩
/-- math/bits.Len32 -/
def t2 : Tr :=
(.seq [ku32, ki64]
 (.nd (.pr (.cmp .geq .u32) [(.v 0), (.k (.i 65536))])
 (.ite (.v 1)
  (.nd (.pr (.sh .shr .u32 .u64) [(.v 0), (.k (.i 16))])
  (.out 0 [(.v 2), (.k (.i 16))]))
  (.out 0 [(.v 0), (.k (.i 0))])))
(.seq [ku32, ki64]
 (.nd (.pr (.cmp .geq .u32) [(.v 1), (.k (.i 256))])
 (.ite (.v 3)
  (.nd (.pr (.sh .shr .u32 .u64) [(.v 1), (.k (.i 8))])
  (.nd (.pr (.bin .add .i64) [(.v 2), (.k (.i 8))])
  (.out 0 [(.v 4), (.v 5)])))
  (.out 0 [(.v 1), (.v 2)])))
(.nd (.pr (.conv .u32 .u8) [(.v 3)])
(.nd (.pr (.idxS .u8) [(.k (.s ⟨#[0, 1, 2, 2, 3, 3, 3, 3, 4, 4, 4, 4, 4, 4, 4, 4, 5, 5, 5, 5, 5, 5, 5, 5, 5, 5, 5, 5, 5, 5, 5, 5, 6, 6, 6, 6, 6, 6, 6, 6, 6, 6, 6, 6, 6, 6, 6, 6, 6, 6, 6, 6, 6, 6, 6, 6, 6, 6, 6, 6, 6, 6, 6, 6, 7, 7, 7, 7, 7, 7, 7, 7, 7, 7, 7, 7, 7, 7, 7, 7, 7, 7, 7, 7, 7, 7, 7, 7, 7, 7, 7, 7, 7, 7, 7, 7, 7, 7, 7, 7, 7, 7, 7, 7, 7, 7, 7, 7, 7, 7, 7, 7, 7, 7, 7, 7, 7, 7, 7, 7, 7, 7, 7, 7, 7, 7, 7, 7, 8, 8, 8, 8, 8, 8, 8, 8, 8, 8, 8, 8, 8, 8, 8, 8, 8, 8, 8, 8, 8, 8, 8, 8, 8, 8, 8, 8, 8, 8, 8, 8, 8, 8, 8, 8, 8, 8, 8, 8, 8, 8, 8, 8, 8, 8, 8, 8, 8, 8, 8, 8, 8, 8, 8, 8, 8, 8, 8, 8, 8, 8, 8, 8, 8, 8, 8, 8, 8, 8, 8, 8, 8, 8, 8, 8, 8, 8, 8, 8, 8, 8, 8, 8, 8, 8, 8, 8, 8, 8, 8, 8, 8, 8, 8, 8, 8, 8, 8, 8, 8, 8, 8, 8, 8, 8, 8, 8, 8, 8, 8, 8, 8, 8, 8, 8, 8, 8, 8, 8, 8, 8, 8, 8, 8, 8, 8, 8]⟩)), (.v 5)])
(.nd (.pr (.conv .u8 .i64) [(.v 6)])
(.nd (.pr (.bin .add .i64) [(.v 4), (.v 7)])
(.out 1 [(.v 8)])))))))
def e2 : Fe := ⟨⟨120, [ku32], [(.dat ku32 (.v 0))], [], [ki64], [(.dat ki64 (.v 1))], [], 0⟩,
 ⟨[(7, ⟨[ku32, ki64], [(0, (.dat ku32 (.v 3))), (2, (.dat ki64 (.v 4)))], [], 0⟩), (3, ⟨[ku32, ki64], [(0, (.dat ku32 (.v 1))), (2, (.dat ki64 (.v 2)))], [], 0⟩)], []⟩,
 [(2, (.dat ki64 (.v 1)))], some t2, fun _ => none⟩
/-- math/bits.Len -/
def t3 : Tr :=
(.nd (.call 1 [(.v 0)] [ku64] [ki64])
(.out 1 [(.v 1)]))
def e3 : Fe := ⟨⟨98, [ku64], [(.dat ku64 (.v 0))], [], [ki64], [(.dat ki64 (.v 1))], [], 0⟩,
 ⟨[], []⟩,
 [(2, (.dat ki64 (.v 1)))], some t3, fun _ => none⟩
/-- loop.example/g00709/impl.ClassOf -/
def t4 : Tr :=
(.nd (.call 0 [(.v 0), (.k (.i 1)), (.k (.i 16))] [ki64, ki64, ki64] [kb])
(.nd (.pr .not [(.v 1)])
(.ite (.v 2)
 (.out 1 [(.k (.i (-1)))])
 (.nd (.pr (.bin .sub .i64) [(.v 0), (.k (.i 1))])
 (.nd (.pr (.conv .i64 .u64) [(.v 3)])
 (.nd (.call 3 [(.v 4)] [ku64] [ki64])
 (.out 1 [(.v 5)])))))))
def e4 : Fe := ⟨⟨62, [ki64], [(.dat ki64 (.v 0))], [], [ki64], [(.dat ki64 (.v 1))], [], 0⟩,
 ⟨[], []⟩,
 [(2, (.dat ki64 (.v 1)))], some t4, fun _ => none⟩
/-- loop.example/g00709/impl.isClass -/
def t5 : Tr :=
(.nd (.call 0 [(.v 0), (.k (.i 0)), (.k (.i 4))] [ki64, ki64, ki64] [kb])
(.out 1 [(.v 1)]))
def e5 : Fe := ⟨⟨88, [ki64], [(.dat ki64 (.v 0))], [], [kb], [(.dat kb (.v 1))], [], 0⟩,
 ⟨[], []⟩,
 [(2, (.dat kb (.v 1)))], some t5, fun _ => none⟩
/-- loop.example/g00709/impl.ClassSize -/
def t6 : Tr :=
(.nd (.call 5 [(.v 0)] [ki64] [kb])
(.nd (.pr .not [(.v 1)])
(.ite (.v 2)
 (.out 1 [(.k (.i 0))])
 (.nd (.pr (.sh .shl .i64 .i64) [(.k (.i 1)), (.v 0)])
 (.out 1 [(.v 3)])))))
def e6 : Fe := ⟨⟨46, [ki64], [(.dat ki64 (.v 0))], [], [ki64], [(.dat ki64 (.v 1))], [], 0⟩,
 ⟨[], []⟩,
 [(2, (.dat ki64 (.v 1)))], some t6, fun _ => none⟩
/-- loop.example/g00709/impl.ChunksFor -/
def t7 : Tr :=
(.nd (.call 0 [(.v 0), (.k (.i 17)), (.k (.i 256))] [ki64, ki64, ki64] [kb])
(.nd (.pr .not [(.v 1)])
(.ite (.v 2)
 (.out 1 [(.k (.i 0))])
 (.nd (.pr (.bin .add .i64) [(.v 0), (.k (.i 16))])
 (.nd (.pr (.bin .sub .i64) [(.v 3), (.k (.i 1))])
 (.nd (.pr (.bin .quo .i64) [(.v 4), (.k (.i 16))])
 (.out 1 [(.v 5)])))))))
def e7 : Fe := ⟨⟨61, [ki64], [(.dat ki64 (.v 0))], [], [ki64], [(.dat ki64 (.v 1))], [], 0⟩,
 ⟨[], []⟩,
 [(2, (.dat ki64 (.v 1)))], some t7, fun _ => none⟩
/-- loop.example/g00709/impl.Waste -/
def t8 : Tr :=
(.nd (.pr (.len [ki64]) [(.v 0)])
(.nd (.pr (.cmp .gtr .i64) [(.v 1), (.k (.i 1000))])
(.ite (.v 2)
 (.out 1 [(.k (.i (-1)))])
 (.nd (.pr (.len [ki64]) [(.v 0)])
 (.blk 2 [ki64]
  (.loop [ki64, ki64] [(.k (.i 0)), (.k (.i 0))]
   (.nd (.pr (.cmp .lss .i64) [(.v 5), (.v 3)])
   (.ite (.v 6)
    (.blk 3 [ki64]
     (.nd (.pr (.len [ki64]) [(.v 0)])
     (.nd (.pr (.ixc .i64) [(.v 5), (.v 7)])
     (.nd (.pr (.get [ki64] 0) [(.v 0), (.v 8)])
     (.nd (.call 7 [(.v 9)] [ki64] [ki64])
     (.nd (.pr (.bin .mul .i64) [(.v 10), (.k (.i 16))])
     (.seq [ki64]
      (.nd (.call 4 [(.v 9)] [ki64] [ki64])
      (.nd (.pr (.cmp .geq .i64) [(.v 12), (.k (.i 0))])
      (.ite (.v 13)
       (.nd (.call 6 [(.v 12)] [ki64] [ki64])
       (.out 0 [(.v 14)]))
       (.out 0 [(.v 11)]))))
     (.nd (.pr (.cmp .eql .i64) [(.v 12), (.k (.i 0))])
     (.ite (.v 13)
      (.out 1 [(.k (.i (-1)))])
      (.nd (.pr (.bin .sub .i64) [(.v 12), (.v 9)])
      (.nd (.pr (.bin .add .i64) [(.v 4), (.v 14)])
      (.out 0 [(.v 15)])))))))))))
    (.nd (.pr (.bin .add .i64) [(.v 5), (.k (.i 1))])
    (.out 0 [(.v 7), (.v 8)])))
    (.out 2 [(.v 4)]))))
 (.out 1 [(.v 4)]))))))
def e8 : Fe := ⟨⟨18, [(.sl [ki64])], [(.lz [ki64] (.v 0))], [], [ki64], [(.dat ki64 (.v 1))], [], 0⟩,
 ⟨[(61, ⟨[ki64], [(3, (.dat ki64 (.v 4)))], [], 0⟩), (122, ⟨[ki64, ki64], [(3, (.dat ki64 (.v 4))), (11, (.lz [ki64] (.v 0))), (12, (.dat ki64 (.v 3))), (13, (.dat ki64 (.v 5)))], [], 0⟩), (1958, ⟨[ki64], [(3, (.dat ki64 (.v 7))), (11, (.lz [ki64] (.v 0))), (12, (.dat ki64 (.v 3))), (13, (.dat ki64 (.v 5)))], [], 0⟩), (15667, ⟨[ki64], [(3, (.dat ki64 (.v 4))), (5, (.dat ki64 (.v 9))), (6, (.dat ki64 (.v 12))), (11, (.lz [ki64] (.v 0))), (12, (.dat ki64 (.v 3))), (13, (.dat ki64 (.v 5)))], [], 0⟩)], []⟩,
 [(2, (.dat ki64 (.v 1)))], some t8, fun _ => none⟩
/-- loop.example/g00709/spec.l04Pow -/
def t9 : Tr :=
(.blk 2 [ki64]
 (.loop [ki64, ki64] [(.v 0), (.k (.i 1))]
  (.nd (.pr (.cmp .gtr .i64) [(.v 1), (.k (.i 0))])
  (.ite (.v 3)
   (.blk 3 [ki64]
    (.nd (.pr (.bin .mul .i64) [(.k (.i 2)), (.v 2)])
    (.out 0 [(.v 4)]))
   (.nd (.pr (.bin .sub .i64) [(.v 1), (.k (.i 1))])
   (.out 0 [(.v 5), (.v 4)])))
   (.out 2 [(.v 2)]))))
(.out 1 [(.v 1)]))
def e9 : Fe := ⟨⟨95, [ki64], [(.dat ki64 (.v 0))], [], [ki64], [(.dat ki64 (.v 1))], [], 0⟩,
 ⟨[(14, ⟨[ki64], [(3, (.dat ki64 (.v 1)))], [], 0⟩), (28, ⟨[ki64, ki64], [(0, (.dat ki64 (.v 1))), (3, (.dat ki64 (.v 2)))], [], 0⟩), (226, ⟨[ki64], [(0, (.dat ki64 (.v 1))), (3, (.dat ki64 (.v 4)))], [], 0⟩)], []⟩,
 [(2, (.dat ki64 (.v 1)))], some t9, fun _ => none⟩
/-- loop.example/g00709/spec.l04Class -/
def t10 : Tr :=
(.seq [kb]
 (.nd (.pr (.cmp .geq .i64) [(.v 0), (.k (.i 0))])
 (.ite (.v 1)
  (.nd (.pr (.cmp .lss .i64) [(.v 0), (.k (.i 5))])
  (.out 0 [(.v 2)]))
  (.out 0 [(.k (.b false))])))
(.out 1 [(.v 1)]))
def e10 : Fe := ⟨⟨96, [ki64], [(.dat ki64 (.v 0))], [], [kb], [(.dat kb (.v 1))], [], 0⟩,
 ⟨[(3, ⟨[kb], [(2, (.dat kb (.v 1)))], [], 0⟩)], []⟩,
 [(2, (.dat kb (.v 1)))], some t10, fun _ => none⟩
/-- loop.example/g00709/spec.ClassOf -/
def t11 : Tr :=
(.blk 2 []
 (.loop [ki64] [(.k (.i 0))]
  (.seq [kb]
   (.nd (.pr (.cmp .lss .i64) [(.v 1), (.k (.i 5))])
   (.ite (.v 2)
    (.nd (.pr (.cmp .geq .i64) [(.v 0), (.k (.i 1))])
    (.out 0 [(.v 3)]))
    (.out 0 [(.k (.b false))])))
  (.ite (.v 2)
   (.blk 3 []
    (.nd (.call 9 [(.v 1)] [ki64] [ki64])
    (.nd (.pr (.cmp .geq .i64) [(.v 3), (.v 0)])
    (.ite (.v 4)
     (.out 1 [(.v 1)])
     (.out 0 []))))
   (.nd (.pr (.bin .add .i64) [(.v 1), (.k (.i 1))])
   (.out 0 [(.v 3)])))
   (.out 2 []))))
(.out 1 [(.k (.i (-1)))]))
def e11 : Fe := ⟨⟨58, [ki64], [(.dat ki64 (.v 0))], [], [ki64], [(.dat ki64 (.v 1))], [], 0⟩,
 ⟨[(13, ⟨[], [], [], 0⟩), (26, ⟨[ki64], [(0, (.dat ki64 (.v 0))), (3, (.dat ki64 (.v 1)))], [], 0⟩), (210, ⟨[], [(0, (.dat ki64 (.v 0))), (3, (.dat ki64 (.v 1)))], [], 0⟩), (104, ⟨[kb], [(0, (.dat ki64 (.v 0))), (3, (.dat ki64 (.v 1))), (9, (.dat kb (.v 2)))], [], 0⟩)], []⟩,
 [(2, (.dat ki64 (.v 1)))], some t11, fun _ => none⟩
/-- loop.example/g00709/spec.ChunksFor -/
def t12 : Tr :=
(.seq [kb]
 (.nd (.pr (.cmp .leq .i64) [(.v 0), (.k (.i 16))])
 (.ite (.v 1)
  (.out 0 [(.k (.b true))])
  (.nd (.pr (.cmp .gtr .i64) [(.v 0), (.k (.i 256))])
  (.out 0 [(.v 2)]))))
(.ite (.v 1)
 (.out 1 [(.k (.i 0))])
 (.nd (.pr (.bin .add .i64) [(.v 0), (.k (.i 16))])
 (.nd (.pr (.bin .sub .i64) [(.v 2), (.k (.i 1))])
 (.nd (.pr (.bin .quo .i64) [(.v 3), (.k (.i 16))])
 (.out 1 [(.v 4)]))))))
def e12 : Fe := ⟨⟨59, [ki64], [(.dat ki64 (.v 0))], [], [ki64], [(.dat ki64 (.v 1))], [], 0⟩,
 ⟨[(6, ⟨[kb], [(0, (.dat ki64 (.v 0))), (8, (.dat kb (.v 1)))], [], 0⟩)], []⟩,
 [(2, (.dat ki64 (.v 1)))], some t12, fun _ => none⟩
/-- loop.example/g00709/spec.ClassSize -/
def t13 : Tr :=
(.nd (.call 10 [(.v 0)] [ki64] [kb])
(.nd (.pr .not [(.v 1)])
(.ite (.v 2)
 (.out 1 [(.k (.i 0))])
 (.nd (.call 9 [(.v 0)] [ki64] [ki64])
 (.out 1 [(.v 3)])))))
def e13 : Fe := ⟨⟨60, [ki64], [(.dat ki64 (.v 0))], [], [ki64], [(.dat ki64 (.v 1))], [], 0⟩,
 ⟨[], []⟩,
 [(2, (.dat ki64 (.v 1)))], some t13, fun _ => none⟩
/-- loop.example/g00709/spec.Waste -/
def t14 : Tr :=
(.nd (.pr (.len [ki64]) [(.v 0)])
(.nd (.pr (.cmp .gtr .i64) [(.v 1), (.k (.i 1000))])
(.ite (.v 2)
 (.out 1 [(.k (.i (-1)))])
 (.blk 2 [ki64]
  (.loop [ki64, ki64] [(.k (.i 0)), (.k (.i 0))]
   (.nd (.pr (.len [ki64]) [(.v 0)])
   (.nd (.pr (.cmp .lss .i64) [(.v 4), (.v 5)])
   (.ite (.v 6)
    (.blk 3 [ki64]
     (.nd (.pr (.len [ki64]) [(.v 0)])
     (.nd (.pr (.ixc .i64) [(.v 4), (.v 7)])
     (.nd (.pr (.get [ki64] 0) [(.v 0), (.v 8)])
     (.nd (.call 11 [(.v 9)] [ki64] [ki64])
     (.nd (.pr (.len [ki64]) [(.v 0)])
     (.nd (.pr (.ixc .i64) [(.v 4), (.v 11)])
     (.nd (.pr (.get [ki64] 0) [(.v 0), (.v 12)])
     (.nd (.call 12 [(.v 13)] [ki64] [ki64])
     (.blk 4 [ki64]
      (.nd (.pr (.cmp .geq .i64) [(.v 10), (.k (.i 0))])
      (.ite (.v 15)
       (.nd (.pr (.len [ki64]) [(.v 0)])
       (.nd (.pr (.ixc .i64) [(.v 4), (.v 16)])
       (.nd (.pr (.get [ki64] 0) [(.v 0), (.v 17)])
       (.nd (.call 13 [(.v 10)] [ki64] [ki64])
       (.nd (.pr (.bin .add .i64) [(.v 3), (.v 19)])
       (.nd (.pr (.bin .sub .i64) [(.v 20), (.v 18)])
       (.out 0 [(.v 21)])))))))
       (.nd (.pr (.cmp .gtr .i64) [(.v 14), (.k (.i 0))])
       (.ite (.v 16)
        (.nd (.pr (.bin .mul .i64) [(.v 14), (.k (.i 16))])
        (.nd (.pr (.bin .add .i64) [(.v 3), (.v 17)])
        (.nd (.pr (.len [ki64]) [(.v 0)])
        (.nd (.pr (.ixc .i64) [(.v 4), (.v 19)])
        (.nd (.pr (.get [ki64] 0) [(.v 0), (.v 20)])
        (.nd (.pr (.bin .sub .i64) [(.v 18), (.v 21)])
        (.out 0 [(.v 22)])))))))
        (.out 1 [(.k (.i (-1)))])))))
     (.out 0 [(.v 15)]))))))))))
    (.nd (.pr (.bin .add .i64) [(.v 4), (.k (.i 1))])
    (.out 0 [(.v 7), (.v 8)])))
    (.out 2 [(.v 3)])))))
 (.out 1 [(.v 3)])))))
def e14 : Fe := ⟨⟨16, [(.sl [ki64])], [(.lz [ki64] (.v 0))], [], [ki64], [(.dat ki64 (.v 1))], [], 0⟩,
 ⟨[(61, ⟨[ki64], [(3, (.dat ki64 (.v 3)))], [], 0⟩), (122, ⟨[ki64, ki64], [(0, (.lz [ki64] (.v 0))), (3, (.dat ki64 (.v 3))), (4, (.dat ki64 (.v 4)))], [], 0⟩), (978, ⟨[ki64], [(0, (.lz [ki64] (.v 0))), (3, (.dat ki64 (.v 7))), (4, (.dat ki64 (.v 4)))], [], 0⟩), (7827, ⟨[ki64], [(0, (.lz [ki64] (.v 0))), (3, (.dat ki64 (.v 15))), (4, (.dat ki64 (.v 4)))], [], 0⟩)], []⟩,
 [(2, (.dat ki64 (.v 1)))], some t14, fun _ => none⟩
/-- loop.example/g00709/laws.toIntS -/
def t15 : Tr :=
(.nd (.pr (.len [ki64]) [(.v 0)])
(.nd (.pr (.mkz [ki64] .i64 8 [(.i 0)]) [(.v 1)])
(.nd (.pr (.len [ki64]) [(.v 2)])
(.blk 2 [(.sl [ki64])]
 (.loop [ki64, (.sl [ki64])] [(.k (.i 0)), (.v 2)]
  (.nd (.pr (.len [ki64]) [(.v 5)])
  (.nd (.pr (.len [ki64]) [(.v 0)])
  (.nd (.pr (.cmp .lss .i64) [(.v 4), (.v 7)])
  (.ite (.v 8)
   (.blk 3 [(.sl [ki64])]
    (.nd (.pr (.len [ki64]) [(.v 0)])
    (.nd (.pr (.ixc .i64) [(.v 4), (.v 9)])
    (.nd (.pr (.get [ki64] 0) [(.v 0), (.v 10)])
    (.nd (.pr (.ixc .i64) [(.v 4), (.v 6)])
    (.nd (.pr (.set [ki64] 0) [(.v 5), (.v 12), (.v 11)])
    (.out 0 [(.v 13)]))))))
   (.nd (.pr (.len [ki64]) [(.v 9)])
   (.nd (.pr (.bin .add .i64) [(.v 4), (.k (.i 1))])
   (.out 0 [(.v 11), (.v 9)]))))
   (.out 2 [(.v 5)]))))))
(.nd (.pr (.len [ki64]) [(.v 4)])
(.out 1 [(.v 4)]))))))
def e15 : Fe := ⟨⟨17, [(.sl [ki64])], [(.lz [ki64] (.v 0))], [], [(.sl [ki64])], [(.sl 0 (.k (.i 0)) (.v 2) 1)], [(0, (.arr [ki64] (.v 1) (.v 2)))], 1⟩,
 ⟨[(29, ⟨[(.sl [ki64])], [(3, (.sl 0 (.k (.i 0)) (.v 5) 1))], [(0, (.arr [ki64] (.v 4) (.v 5)))], 1⟩), (58, ⟨[ki64, (.sl [ki64])], [(0, (.lz [ki64] (.v 0))), (3, (.sl 0 (.k (.i 0)) (.v 6) 1)), (4, (.dat ki64 (.v 4)))], [(0, (.arr [ki64] (.v 5) (.v 6)))], 1⟩), (466, ⟨[(.sl [ki64])], [(0, (.lz [ki64] (.v 0))), (3, (.sl 0 (.k (.i 0)) (.v 10) 1)), (4, (.dat ki64 (.v 4)))], [(0, (.arr [ki64] (.v 9) (.v 10)))], 1⟩)], []⟩,
 [(2, (.sl 0 (.k (.i 0)) (.v 2) 1))], some t15, fun _ => none⟩
/-- loop.example/g00709/laws.eqIntS -/
def t16 : Tr :=
(.nd (.pr (.len [ki64]) [(.v 0)])
(.nd (.pr (.len [ki64]) [(.v 1)])
(.nd (.pr (.cmp .neq .i64) [(.v 2), (.v 3)])
(.ite (.v 4)
 (.out 1 [(.k (.b false))])
 (.blk 2 []
  (.loop [ki64] [(.k (.i 0))]
   (.nd (.pr (.len [ki64]) [(.v 0)])
   (.nd (.pr (.cmp .lss .i64) [(.v 5), (.v 6)])
   (.ite (.v 7)
    (.blk 3 []
     (.nd (.pr (.len [ki64]) [(.v 0)])
     (.nd (.pr (.ixc .i64) [(.v 5), (.v 8)])
     (.nd (.pr (.get [ki64] 0) [(.v 0), (.v 9)])
     (.nd (.pr (.len [ki64]) [(.v 1)])
     (.nd (.pr (.ixc .i64) [(.v 5), (.v 11)])
     (.nd (.pr (.get [ki64] 0) [(.v 1), (.v 12)])
     (.nd (.pr (.cmp .neq .i64) [(.v 10), (.v 13)])
     (.ite (.v 14)
      (.out 1 [(.k (.b false))])
      (.out 0 [])))))))))
    (.nd (.pr (.bin .add .i64) [(.v 5), (.k (.i 1))])
    (.out 0 [(.v 8)])))
    (.out 2 [])))))
 (.out 1 [(.k (.b true))]))))))
def e16 : Fe := ⟨⟨19, [(.sl [ki64]), (.sl [ki64])], [(.lz [ki64] (.v 0)), (.lz [ki64] (.v 1))], [], [kb], [(.dat kb (.v 2))], [], 0⟩,
 ⟨[(29, ⟨[], [], [], 0⟩), (58, ⟨[ki64], [(0, (.lz [ki64] (.v 0))), (1, (.lz [ki64] (.v 1))), (5, (.dat ki64 (.v 5)))], [], 0⟩), (466, ⟨[], [(0, (.lz [ki64] (.v 0))), (1, (.lz [ki64] (.v 1))), (5, (.dat ki64 (.v 5)))], [], 0⟩)], []⟩,
 [(4, (.dat kb (.v 2)))], some t16, fun _ => none⟩
/-- loop.example/g00709/laws.FnExactWaste -/
def t17 : Tr :=
(.nd (.pr (.len [ki64]) [(.v 0)])
(.nd (.pr (.cmp .gtr .i64) [(.v 1), (.k (.i 1048576))])
(.ite (.v 2)
 (.out 1 [(.k (.b true))])
 (.nd (.call 15 [(.v 0)] [(.sl [ki64])] [(.sl [ki64])])
 (.nd (.pr (.len [ki64]) [(.v 3)])
 (.nd (.call 14 [(.v 3)] [(.sl [ki64])] [ki64])
 (.nd (.call 15 [(.v 0)] [(.sl [ki64])] [(.sl [ki64])])
 (.nd (.pr (.len [ki64]) [(.v 6)])
 (.nd (.call 8 [(.v 6)] [(.sl [ki64])] [ki64])
 (.nd (.pr (.cmp .neq .i64) [(.v 8), (.v 5)])
 (.ite (.v 9)
  (.out 1 [(.k (.b false))])
  (.nd (.call 15 [(.v 0)] [(.sl [ki64])] [(.sl [ki64])])
  (.nd (.pr (.len [ki64]) [(.v 10)])
  (.nd (.call 16 [(.v 6), (.v 10)] [(.sl [ki64]), (.sl [ki64])] [kb])
  (.nd (.pr .not [(.v 12)])
  (.ite (.v 13)
   (.out 1 [(.k (.b false))])
   (.out 1 [(.k (.b true))])))))))))))))))))
def e17 : Fe := ⟨⟨3, [(.sl [ki64])], [(.lz [ki64] (.v 0))], [], [kb], [(.dat kb (.v 1))], [], 0⟩,
 ⟨[], []⟩,
 [(2, (.dat kb (.v 1)))], some t17, fun _ => none⟩
def fes : List Fe := [e0, e1, e2, e3, e4, e5, e6, e7, e8, e9, e10, e11, e12, e13, e14, e15, e16, e17]
theorem tabOk : TabOk Try.prog tab := tabB_ok (by kernel_rfl)
theorem ok0 : e0.ok Try.prog tab (sigsOf fes) (kindsOf fes) = true := by kernel_rfl
theorem ok1 : e1.ok Try.prog tab (sigsOf fes) (kindsOf fes) = true := by kernel_rfl
theorem ok2 : e2.ok Try.prog tab (sigsOf fes) (kindsOf fes) = true := by kernel_rfl
theorem ok3 : e3.ok Try.prog tab (sigsOf fes) (kindsOf fes) = true := by kernel_rfl
theorem ok4 : e4.ok Try.prog tab (sigsOf fes) (kindsOf fes) = true := by kernel_rfl
theorem ok5 : e5.ok Try.prog tab (sigsOf fes) (kindsOf fes) = true := by kernel_rfl
theorem ok6 : e6.ok Try.prog tab (sigsOf fes) (kindsOf fes) = true := by kernel_rfl
theorem ok7 : e7.ok Try.prog tab (sigsOf fes) (kindsOf fes) = true := by kernel_rfl
theorem ok8 : e8.ok Try.prog tab (sigsOf fes) (kindsOf fes) = true := by kernel_rfl
theorem ok9 : e9.ok Try.prog tab (sigsOf fes) (kindsOf fes) = true := by kernel_rfl
theorem ok10 : e10.ok Try.prog tab (sigsOf fes) (kindsOf fes) = true := by kernel_rfl
theorem ok11 : e11.ok Try.prog tab (sigsOf fes) (kindsOf fes) = true := by kernel_rfl
theorem ok12 : e12.ok Try.prog tab (sigsOf fes) (kindsOf fes) = true := by kernel_rfl
theorem ok13 : e13.ok Try.prog tab (sigsOf fes) (kindsOf fes) = true := by kernel_rfl
theorem ok14 : e14.ok Try.prog tab (sigsOf fes) (kindsOf fes) = true := by kernel_rfl
theorem ok15 : e15.ok Try.prog tab (sigsOf fes) (kindsOf fes) = true := by kernel_rfl
theorem ok16 : e16.ok Try.prog tab (sigsOf fes) (kindsOf fes) = true := by kernel_rfl
theorem ok17 : e17.ok Try.prog tab (sigsOf fes) (kindsOf fes) = true := by kernel_rfl
theorem fesOk : FeL Try.prog tab fes 0 fes := ⟨ok0, ok1, ok2, ok3, ok4, ok5, ok6, ok7, ok8, ok9, ok10, ok11, ok12, ok13, ok14, ok15, ok16, ok17, trivial⟩
end Go.Proofs.Ytbialjbfcdhmbaa.Waste
