/- What the functions behind FnExactUsesOf compute, as trees; that they do is checked by the kernel. Printed by bench/Bench.lean. -/
import Derived.Test.YtaaglpobmdpdlaaB33
import Derived.Test.YtaaglpobmdpdlaaProg
set_option maxRecDepth 100000
set_option linter.unusedVariables false
namespace Go.Proofs.Ytaaglpobmdpdlaa.UsesOf
open Go.BH
def tab : TyTab := [(3, ⟨1, 8, false, (.int .i64), [(.int .i64 (0))], [ki64], false⟩),
 (4, ⟨1, 1, false, .bool, [(.bool false)], [kb], false⟩),
 (5, ⟨1, 1, false, (.int .u8), [(.int .u8 (0))], [ku8], false⟩),
 (9, ⟨1, 16, false, .str, [(.string ⟨#[]⟩)], [ks], false⟩),
 (32, ⟨1, 24, false, (.slice 3), [(.slice none 0 0)], [(.sl [ki64])], false⟩),
 (68, ⟨1, 24, false, (.slice 113), [(.slice none 0 0)], [(.sl [ku32])], false⟩),
 (70, ⟨1, 24, true, (.struct [(68, 0)]), [(.slice none 0 0)], [(.sl [ku32])], false⟩),
 (72, ⟨1, 24, false, (.slice 104), [(.slice none 0 0)], [(.sl [ki64, ki64, ki64, ki64])], false⟩),
 (74, ⟨1, 24, true, (.struct [(68, 0)]), [(.slice none 0 0)], [(.sl [ku32])], false⟩),
 (104, ⟨4, 32, true, (.struct [(3, 0), (3, 1), (3, 2), (3, 3)]), [(.int .i64 (0)), (.int .i64 (0)), (.int .i64 (0)), (.int .i64 (0))], [ki64, ki64, ki64, ki64], true⟩),
 (113, ⟨1, 4, false, (.int .u32), [(.int .u32 (0))], [ku32], false⟩),
 (145, ⟨4, 32, true, (.struct [(3, 0), (3, 1), (113, 2), (3, 3)]), [(.int .i64 (0)), (.int .i64 (0)), (.int .u32 (0)), (.int .i64 (0))], [ki64, ki64, ku32, ki64], true⟩),
 (157, ⟨1, 8, false, .other, [.nilFunc], [], false⟩),
 (171, ⟨1, 8, false, (.int .u64), [(.int .u64 (0))], [ku64], false⟩)]
/-- loop.example/g00709/laws.szUint32S -/
def t0 : Tr :=
(.nd (.pr (.len [ku32]) [(.v 0)])
(.nd (.pr (.bin .sub .i64) [(.v 1), (.v 2)])
(.nd (.pr (.cmp .lss .i64) [(.v 3), (.k (.i 0))])
(.ite (.v 4)
 (.out 1 [(.k (.i (-1)))])
 (.out 1 [(.v 3)])))))
def e0 : Fe := ⟨⟨127, [(.sl [ku32]), ki64], [(.lz [ku32] (.v 0)), (.dat ki64 (.v 1))], [], [ki64], [(.dat ki64 (.v 2))], [], 0⟩,
 ⟨[], []⟩,
 [(4, (.dat ki64 (.v 2)))], some t0, fun _ => none⟩
/-- loop.example/g00709/laws.szMem -/
def t1 : Tr :=
(.nd (.call 0 [(.v 0), (.v 1)] [(.sl [ku32]), ki64] [ki64])
(.nd (.pr (.cmp .lss .i64) [(.v 2), (.k (.i 0))])
(.ite (.v 3)
 (.out 1 [(.k (.i (-1)))])
 (.out 1 [(.v 2)]))))
def e1 : Fe := ⟨⟨53, [(.sl [ku32]), ki64], [(.agg [(.lz [ku32] (.v 0))]), (.dat ki64 (.v 1))], [], [ki64], [(.dat ki64 (.v 2))], [], 0⟩,
 ⟨[], []⟩,
 [(4, (.dat ki64 (.v 2)))], some t1, fun _ => none⟩
/-- loop.example/g00709/laws.toUint32S -/
def t2 : Tr :=
(.nd (.pr (.len [ku32]) [(.v 0)])
(.nd (.pr (.mkz [ku32] .i64 4 [(.i 0)]) [(.v 1)])
(.nd (.pr (.len [ku32]) [(.v 2)])
(.blk 2 [(.sl [ku32])]
 (.loop [ki64, (.sl [ku32])] [(.k (.i 0)), (.v 2)]
  (.nd (.pr (.len [ku32]) [(.v 5)])
  (.nd (.pr (.len [ku32]) [(.v 0)])
  (.nd (.pr (.cmp .lss .i64) [(.v 4), (.v 7)])
  (.ite (.v 8)
   (.blk 3 [(.sl [ku32])]
    (.nd (.pr (.len [ku32]) [(.v 0)])
    (.nd (.pr (.ixc .i64) [(.v 4), (.v 9)])
    (.nd (.pr (.get [ku32] 0) [(.v 0), (.v 10)])
    (.nd (.pr (.ixc .i64) [(.v 4), (.v 6)])
    (.nd (.pr (.set [ku32] 0) [(.v 5), (.v 12), (.v 11)])
    (.out 0 [(.v 13)]))))))
   (.nd (.pr (.len [ku32]) [(.v 9)])
   (.nd (.pr (.bin .add .i64) [(.v 4), (.k (.i 1))])
   (.out 0 [(.v 11), (.v 9)]))))
   (.out 2 [(.v 5)]))))))
(.nd (.pr (.len [ku32]) [(.v 4)])
(.out 1 [(.v 4)]))))))
def e2 : Fe := ⟨⟨132, [(.sl [ku32])], [(.lz [ku32] (.v 0))], [], [(.sl [ku32])], [(.sl 0 (.k (.i 0)) (.v 2) 1)], [(0, (.arr [ku32] (.v 1) (.v 2)))], 1⟩,
 ⟨[(29, ⟨[(.sl [ku32])], [(3, (.sl 0 (.k (.i 0)) (.v 5) 1))], [(0, (.arr [ku32] (.v 4) (.v 5)))], 1⟩), (58, ⟨[ki64, (.sl [ku32])], [(0, (.lz [ku32] (.v 0))), (3, (.sl 0 (.k (.i 0)) (.v 6) 1)), (4, (.dat ki64 (.v 4)))], [(0, (.arr [ku32] (.v 5) (.v 6)))], 1⟩), (466, ⟨[(.sl [ku32])], [(0, (.lz [ku32] (.v 0))), (3, (.sl 0 (.k (.i 0)) (.v 10) 1)), (4, (.dat ki64 (.v 4)))], [(0, (.arr [ku32] (.v 9) (.v 10)))], 1⟩)], []⟩,
 [(2, (.sl 0 (.k (.i 0)) (.v 2) 1))], some t2, fun _ => none⟩
/-- loop.example/g00709/laws.toMem -/
def t3 : Tr :=
(.nd (.call 2 [(.v 0)] [(.sl [ku32])] [(.sl [ku32])])
(.nd (.pr (.len [ku32]) [(.v 1)])
(.out 1 [(.v 1)])))
def e3 : Fe := ⟨⟨55, [(.sl [ku32])], [(.agg [(.lz [ku32] (.v 0))])], [], [(.sl [ku32])], [(.agg [(.sl 1 (.k (.i 0)) (.v 2) 1)])], [(0, (.cells [(.sl 1 (.k (.i 0)) (.v 2) 1)])), (1, (.arr [ku32] (.v 1) (.v 2)))], 2⟩,
 ⟨[], []⟩,
 [(2, (.ptr 0 0))], some t3, fun _ => none⟩
/-- loop.example/g00709/spec.l04Class -/
def t4 : Tr :=
(.seq [kb]
 (.nd (.pr (.cmp .geq .i64) [(.v 0), (.k (.i 0))])
 (.ite (.v 1)
  (.nd (.pr (.cmp .lss .i64) [(.v 0), (.k (.i 5))])
  (.out 0 [(.v 2)]))
  (.out 0 [(.k (.b false))])))
(.out 1 [(.v 1)]))
def e4 : Fe := ⟨⟨166, [ki64], [(.dat ki64 (.v 0))], [], [kb], [(.dat kb (.v 1))], [], 0⟩,
 ⟨[(3, ⟨[kb], [(2, (.dat kb (.v 1)))], [], 0⟩)], []⟩,
 [(2, (.dat kb (.v 1)))], some t4, fun _ => none⟩
/-- loop.example/g00709/spec.l01Bits -/
def t5 : Tr :=
(.blk 2 [(.sl [ki64])]
 (.loop [ku32, ki64, (.sl [ki64])] [(.v 0), (.k (.i 0)), (.k (.l []))]
  (.nd (.pr (.len [ki64]) [(.v 3)])
  (.nd (.pr (.cmp .lss .i64) [(.v 2), (.k (.i 32))])
  (.ite (.v 5)
   (.blk 3 [ku32, (.sl [ki64])]
    (.nd (.pr (.bin .rem .u32) [(.v 1), (.k (.i 2))])
    (.nd (.pr (.conv .u32 .i64) [(.v 6)])
    (.nd (.pr (.mk [ki64] 1) [(.v 7)])
    (.nd (.pr (.app [ki64] 8) [(.v 3), (.v 8)])
    (.nd (.pr (.len [ki64]) [(.v 9)])
    (.nd (.pr (.bin .quo .u32) [(.v 1), (.k (.i 2))])
    (.out 0 [(.v 11), (.v 9)])))))))
   (.nd (.pr (.len [ki64]) [(.v 7)])
   (.nd (.pr (.bin .add .i64) [(.v 2), (.k (.i 1))])
   (.out 0 [(.v 6), (.v 9), (.v 7)]))))
   (.out 2 [(.v 3)])))))
(.nd (.pr (.len [ki64]) [(.v 1)])
(.out 1 [(.v 1)])))
def e5 : Fe := ⟨⟨192, [ku32], [(.dat ku32 (.v 0))], [], [(.sl [ki64])], [(.sl 0 (.k (.i 0)) (.v 2) 1)], [(0, (.arr [ki64] (.v 1) (.v 2)))], 1⟩,
 ⟨[(29, ⟨[(.sl [ki64])], [(3, (.sl 0 (.k (.i 0)) (.v 2) 1))], [(0, (.arr [ki64] (.v 1) (.v 2)))], 1⟩), (58, ⟨[ku32, ki64, (.sl [ki64])], [(0, (.dat ku32 (.v 1))), (3, (.sl 0 (.k (.i 0)) (.v 4) 1)), (4, (.dat ki64 (.v 2)))], [(0, (.arr [ki64] (.v 3) (.v 4)))], 1⟩), (466, ⟨[ku32, (.sl [ki64])], [(0, (.dat ku32 (.v 6))), (3, (.sl 0 (.k (.i 0)) (.v 8) 1)), (4, (.dat ki64 (.v 2)))], [(0, (.arr [ki64] (.v 7) (.v 8)))], 1⟩)], []⟩,
 [(2, (.sl 0 (.k (.i 0)) (.v 2) 1))], some t5, fun _ => none⟩
/-- loop.example/g00709/spec.BitList -/
def t6 : Tr :=
(.nd (.call 5 [(.v 0)] [ku32] [(.sl [ki64])])
(.nd (.pr (.len [ki64]) [(.v 1)])
(.blk 2 [(.sl [ki64])]
 (.loop [ki64, (.sl [ki64])] [(.k (.i 0)), (.k (.l []))]
  (.nd (.pr (.len [ki64]) [(.v 4)])
  (.nd (.pr (.len [ki64]) [(.v 1)])
  (.nd (.pr (.cmp .lss .i64) [(.v 3), (.k (.i 32))])
  (.ite (.v 7)
   (.blk 3 [(.sl [ki64])]
    (.nd (.pr (.ixc .i64) [(.v 3), (.v 6)])
    (.nd (.pr (.get [ki64] 0) [(.v 1), (.v 8)])
    (.nd (.pr (.cmp .eql .i64) [(.v 9), (.k (.i 1))])
    (.ite (.v 10)
     (.nd (.pr (.mk [ki64] 1) [(.v 3)])
     (.nd (.pr (.app [ki64] 8) [(.v 4), (.v 11)])
     (.nd (.pr (.len [ki64]) [(.v 12)])
     (.out 0 [(.v 12)]))))
     (.out 0 [(.v 4)])))))
   (.nd (.pr (.len [ki64]) [(.v 8)])
   (.nd (.pr (.len [ki64]) [(.v 1)])
   (.nd (.pr (.bin .add .i64) [(.v 3), (.k (.i 1))])
   (.out 0 [(.v 11), (.v 8)])))))
   (.out 2 [(.v 4)]))))))
(.nd (.pr (.len [ki64]) [(.v 3)])
(.out 1 [(.v 3)])))))
def e6 : Fe := ⟨⟨160, [ku32], [(.dat ku32 (.v 0))], [], [(.sl [ki64])], [(.sl 0 (.k (.i 0)) (.v 2) 1)], [(0, (.arr [ki64] (.v 1) (.v 2)))], 1⟩,
 ⟨[(61, ⟨[(.sl [ki64])], [(3, (.sl 0 (.k (.i 0)) (.v 4) 1))], [(0, (.arr [ki64] (.v 3) (.v 4)))], 1⟩), (122, ⟨[ki64, (.sl [ki64])], [(3, (.sl 0 (.k (.i 0)) (.v 5) 1)), (4, (.sl 1 (.k (.i 0)) (.v 6) 1)), (5, (.dat ki64 (.v 3)))], [(0, (.arr [ki64] (.v 4) (.v 5))), (1, (.arr [ki64] (.v 1) (.v 6)))], 2⟩), (978, ⟨[(.sl [ki64])], [(3, (.sl 0 (.k (.i 0)) (.v 9) 1)), (4, (.sl 1 (.k (.i 0)) (.v 10) 1)), (5, (.dat ki64 (.v 3)))], [(0, (.arr [ki64] (.v 8) (.v 9))), (1, (.arr [ki64] (.v 1) (.v 10)))], 2⟩)], []⟩,
 [(2, (.sl 0 (.k (.i 0)) (.v 2) 1))], some t6, fun _ => none⟩
/-- loop.example/g00709/spec.Highest -/
def t7 : Tr :=
(.nd (.call 6 [(.v 0)] [ku32] [(.sl [ki64])])
(.nd (.pr (.len [ki64]) [(.v 1)])
(.nd (.pr (.cmp .eql .i64) [(.v 2), (.k (.i 0))])
(.ite (.v 3)
 (.out 1 [(.k (.i (-1)))])
 (.nd (.pr (.bin .sub .i64) [(.v 2), (.k (.i 1))])
 (.nd (.pr (.ixc .i64) [(.v 4), (.v 2)])
 (.nd (.pr (.get [ki64] 0) [(.v 1), (.v 5)])
 (.out 1 [(.v 6)]))))))))
def e7 : Fe := ⟨⟨204, [ku32], [(.dat ku32 (.v 0))], [], [ki64], [(.dat ki64 (.v 1))], [], 0⟩,
 ⟨[], []⟩,
 [(2, (.dat ki64 (.v 1)))], some t7, fun _ => none⟩
/-- loop.example/g00709/spec.l04Pow -/
def t8 : Tr :=
(.blk 2 [ki64]
 (.loop [ki64, ki64] [(.v 0), (.k (.i 1))]
  (.nd (.pr (.cmp .gtr .i64) [(.v 1), (.k (.i 0))])
  (.ite (.v 3)
   (.blk 3 [ki64]
    (.nd (.pr (.bin .mul .i64) [(.k (.i 2)), (.v 2)])
    (.out 0 [(.v 4)]))
   (.nd (.pr (.bin .sub .i64) [(.v 1), (.k (.i 1))])
   (.out 0 [(.v 5), (.v 4)])))
   (.out 2 [(.v 2)]))))
(.out 1 [(.v 1)]))
def e8 : Fe := ⟨⟨165, [ki64], [(.dat ki64 (.v 0))], [], [ki64], [(.dat ki64 (.v 1))], [], 0⟩,
 ⟨[(14, ⟨[ki64], [(3, (.dat ki64 (.v 1)))], [], 0⟩), (28, ⟨[ki64, ki64], [(0, (.dat ki64 (.v 1))), (3, (.dat ki64 (.v 2)))], [], 0⟩), (226, ⟨[ki64], [(0, (.dat ki64 (.v 1))), (3, (.dat ki64 (.v 4)))], [], 0⟩)], []⟩,
 [(2, (.dat ki64 (.v 1)))], some t8, fun _ => none⟩
/-- loop.example/g00709/spec.PerPage -/
def t9 : Tr :=
(.nd (.call 4 [(.v 0)] [ki64] [kb])
(.nd (.pr .not [(.v 1)])
(.ite (.v 2)
 (.out 1 [(.k (.i 0))])
 (.nd (.call 8 [(.v 0)] [ki64] [ki64])
 (.nd (.pr (.bin .quo .i64) [(.k (.i 16)), (.v 3)])
 (.out 1 [(.v 4)]))))))
def e9 : Fe := ⟨⟨131, [ki64], [(.dat ki64 (.v 0))], [], [ki64], [(.dat ki64 (.v 1))], [], 0⟩,
 ⟨[], []⟩,
 [(2, (.dat ki64 (.v 1)))], some t9, fun _ => none⟩
/-- loop.example/g00709/spec.CtlOk -/
def t10 : Tr :=
(.blk 2 []
 (.seq [kb]
  (.nd (.pr (.cmp .eql .i64) [(.v 0), (.k (.i 0))])
  (.ite (.v 4)
   (.out 0 [(.k (.b true))])
   (.nd (.pr (.cmp .eql .i64) [(.v 0), (.k (.i 3))])
   (.out 0 [(.v 5)]))))
 (.ite (.v 4)
  (.seq [kb]
   (.nd (.pr (.cmp .eql .i64) [(.v 1), (.k (.i 0))])
   (.ite (.v 5)
    (.nd (.pr (.cmp .eql .u32) [(.v 2), (.k (.i 0))])
    (.ite (.v 6)
     (.nd (.pr (.cmp .eql .i64) [(.v 3), (.k (.i 0))])
     (.out 0 [(.v 7)]))
     (.out 0 [(.k (.b false))])))
    (.out 0 [(.k (.b false))])))
  (.out 1 [(.v 5)]))
  (.nd (.pr (.cmp .eql .i64) [(.v 0), (.k (.i 1))])
  (.ite (.v 5)
   (.seq [kb]
    (.nd (.call 4 [(.v 1)] [ki64] [kb])
    (.ite (.v 6)
     (.nd (.pr (.cmp .neq .u32) [(.v 2), (.k (.i 0))])
     (.ite (.v 7)
      (.nd (.call 7 [(.v 2)] [ku32] [ki64])
      (.nd (.call 9 [(.v 1)] [ki64] [ki64])
      (.nd (.pr (.cmp .lss .i64) [(.v 8), (.v 9)])
      (.ite (.v 10)
       (.nd (.pr (.cmp .eql .i64) [(.v 3), (.k (.i 0))])
       (.out 0 [(.v 11)]))
       (.out 0 [(.k (.b false))])))))
      (.out 0 [(.k (.b false))])))
     (.out 0 [(.k (.b false))])))
   (.out 1 [(.v 6)]))
   (.nd (.pr (.cmp .eql .i64) [(.v 0), (.k (.i 2))])
   (.ite (.v 6)
    (.seq [kb]
     (.nd (.pr (.cmp .eql .i64) [(.v 1), (.k (.i 0))])
     (.ite (.v 7)
      (.nd (.pr (.cmp .eql .u32) [(.v 2), (.k (.i 0))])
      (.ite (.v 8)
       (.nd (.pr (.cmp .geq .i64) [(.v 3), (.k (.i 2))])
       (.ite (.v 9)
        (.nd (.pr (.cmp .leq .i64) [(.v 3), (.k (.i 16))])
        (.out 0 [(.v 10)]))
        (.out 0 [(.k (.b false))])))
       (.out 0 [(.k (.b false))])))
      (.out 0 [(.k (.b false))])))
    (.out 1 [(.v 7)]))
    (.out 0 [])))))))
(.out 1 [(.k (.b false))]))
def e10 : Fe := ⟨⟨176, [ki64, ki64, ku32, ki64], [(.agg [(.dat ki64 (.v 0)), (.dat ki64 (.v 1)), (.dat ku32 (.v 2)), (.dat ki64 (.v 3))])], [], [kb], [(.dat kb (.v 4))], [], 0⟩,
 ⟨[(13, ⟨[], [], [], 0⟩), (1726, ⟨[kb], [(2, (.dat kb (.v 7)))], [], 0⟩), (430, ⟨[kb], [(2, (.dat kb (.v 6)))], [], 0⟩), (106, ⟨[kb], [(2, (.dat kb (.v 5)))], [], 0⟩), (26, ⟨[kb], [(1, (.ptr 0 0)), (4, (.dat ki64 (.v 0))), (5, (.dat kb (.v 4)))], [(0, (.cells [(.dat ki64 (.v 0)), (.dat ki64 (.v 1)), (.dat ku32 (.v 2)), (.dat ki64 (.v 3))]))], 1⟩)], []⟩,
 [(2, (.dat kb (.v 4)))], some t10, fun _ => none⟩
/-- loop.example/g00709/spec.CtlRead -/
def t11 : Tr :=
(.nd (.pr (.conv .u32 .i64) [(.v 0)])
(.nd (.pr (.bin .quo .i64) [(.v 1), (.k (.i 1048576))])
(.nd (.pr (.bin .rem .i64) [(.v 2), (.k (.i 16))])
(.nd (.pr (.bin .quo .i64) [(.v 1), (.k (.i 65536))])
(.nd (.pr (.bin .rem .i64) [(.v 4), (.k (.i 16))])
(.nd (.pr (.bin .rem .i64) [(.v 1), (.k (.i 65536))])
(.nd (.pr (.conv .i64 .u32) [(.v 6)])
(.nd (.pr (.bin .quo .i64) [(.v 1), (.k (.i 16777216))])
(.nd (.call 10 [(.v 3), (.v 5), (.v 7), (.v 8)] [ki64, ki64, ku32, ki64] [kb])
(.nd (.pr .not [(.v 9)])
(.ite (.v 10)
 (.out 1 [(.k (.b false)), (.k (.i 0)), (.k (.i 0)), (.k (.i 0)), (.k (.i 0))])
 (.out 1 [(.k (.b true)), (.v 3), (.v 5), (.v 7), (.v 8)]))))))))))))
def e11 : Fe := ⟨⟨129, [ku32], [(.dat ku32 (.v 0))], [], [kb, ki64, ki64, ku32, ki64], [(.agg [(.dat ki64 (.v 2)), (.dat ki64 (.v 3)), (.dat ku32 (.v 4)), (.dat ki64 (.v 5))]), (.dat kb (.v 1))], [(0, (.cells [(.dat ki64 (.v 2)), (.dat ki64 (.v 3)), (.dat ku32 (.v 4)), (.dat ki64 (.v 5))]))], 1⟩,
 ⟨[], []⟩,
 [(2, (.ptr 0 0)), (3, (.dat kb (.v 1)))], some t11, fun _ => none⟩
/-- loop.example/g00709/spec.l07MemOk -/
def t12 : Tr :=
(.nd (.pr (.len [ku32]) [(.v 0)])
(.nd (.pr (.cmp .gtr .i64) [(.v 1), (.k (.i 16))])
(.ite (.v 2)
 (.out 1 [(.k (.b false))])
 (.blk 2 []
  (.loop [ki64] [(.k (.i 0))]
   (.nd (.pr (.len [ku32]) [(.v 0)])
   (.nd (.pr (.cmp .lss .i64) [(.v 3), (.v 4)])
   (.ite (.v 5)
    (.blk 3 []
     (.nd (.pr (.len [ku32]) [(.v 0)])
     (.nd (.pr (.ixc .i64) [(.v 3), (.v 6)])
     (.nd (.pr (.get [ku32] 0) [(.v 0), (.v 7)])
     (.nd (.call 11 [(.v 8)] [ku32] [kb, ki64, ki64, ku32, ki64])
     (.nd (.pr .not [(.v 9)])
     (.ite (.v 14)
      (.out 1 [(.k (.b false))])
      (.out 0 [])))))))
    (.nd (.pr (.bin .add .i64) [(.v 3), (.k (.i 1))])
    (.out 0 [(.v 6)])))
    (.out 2 [])))))
 (.out 1 [(.k (.b true))])))))
def e12 : Fe := ⟨⟨128, [(.sl [ku32])], [(.agg [(.lz [ku32] (.v 0))])], [], [kb], [(.dat kb (.v 1))], [], 0⟩,
 ⟨[(29, ⟨[], [], [], 0⟩), (58, ⟨[ki64], [(1, (.ptr 0 0)), (3, (.dat ki64 (.v 3)))], [(0, (.cells [(.lz [ku32] (.v 0))]))], 1⟩), (466, ⟨[], [(1, (.ptr 0 0)), (3, (.dat ki64 (.v 3)))], [(0, (.cells [(.lz [ku32] (.v 0))]))], 1⟩)], []⟩,
 [(2, (.dat kb (.v 1)))], some t12, fun _ => none⟩
/-- loop.example/g00709/spec.Ones -/
def t13 : Tr :=
(.nd (.call 6 [(.v 0)] [ku32] [(.sl [ki64])])
(.nd (.pr (.len [ki64]) [(.v 1)])
(.out 1 [(.v 2)])))
def e13 : Fe := ⟨⟨130, [ku32], [(.dat ku32 (.v 0))], [], [ki64], [(.dat ki64 (.v 1))], [], 0⟩,
 ⟨[], []⟩,
 [(2, (.dat ki64 (.v 1)))], some t13, fun _ => none⟩
/-- loop.example/g00709/spec.UsesOf -/
def t14 : Tr :=
(.blk 2 [(.sl [ki64, ki64, ki64, ki64])]
 (.loop [ki64, (.sl [ki64, ki64, ki64, ki64])] [(.k (.i 0)), (.k (.l []))]
  (.nd (.pr (.len [ki64, ki64, ki64, ki64]) [(.v 2)])
  (.seq [kb]
   (.nd (.pr (.cmp .lss .i64) [(.v 1), (.k (.i 5))])
   (.ite (.v 4)
    (.nd (.call 12 [(.v 0)] [(.sl [ku32])] [kb])
    (.out 0 [(.v 5)]))
    (.out 0 [(.k (.b false))])))
  (.nd (.pr (.len [ki64, ki64, ki64, ki64]) [(.v 2)])
  (.ite (.v 4)
   (.blk 3 [(.sl [ki64, ki64, ki64, ki64])]
    (.blk 4 [ki64, ki64, ki64]
     (.loop [ki64, ki64, ki64, ki64] [(.k (.i 0)), (.k (.i 0)), (.k (.i 0)), (.k (.i 0))]
      (.nd (.pr (.len [ki64, ki64, ki64, ki64]) [(.v 2)])
      (.nd (.pr (.len [ku32]) [(.v 0)])
      (.nd (.pr (.cmp .lss .i64) [(.v 6), (.v 11)])
      (.ite (.v 12)
       (.blk 5 [ki64, ki64, ki64]
        (.nd (.pr (.len [ku32]) [(.v 0)])
        (.nd (.pr (.ixc .i64) [(.v 6), (.v 13)])
        (.nd (.pr (.get [ku32] 0) [(.v 0), (.v 14)])
        (.nd (.call 11 [(.v 15)] [ku32] [kb, ki64, ki64, ku32, ki64])
        (.seq [kb]
         (.nd (.pr (.cmp .eql .i64) [(.v 17), (.k (.i 1))])
         (.ite (.v 21)
          (.nd (.pr (.cmp .eql .i64) [(.v 18), (.v 1)])
          (.out 0 [(.v 22)]))
          (.out 0 [(.k (.b false))])))
        (.nd (.pr (.len [ki64, ki64, ki64, ki64]) [(.v 2)])
        (.ite (.v 21)
         (.nd (.pr (.bin .add .i64) [(.v 7), (.k (.i 1))])
         (.nd (.call 13 [(.v 19)] [ku32] [ki64])
         (.nd (.pr (.bin .add .i64) [(.v 8), (.v 24)])
         (.nd (.call 9 [(.v 1)] [ki64] [ki64])
         (.nd (.pr (.bin .add .i64) [(.v 9), (.v 26)])
         (.nd (.call 13 [(.v 19)] [ku32] [ki64])
         (.nd (.pr (.bin .sub .i64) [(.v 27), (.v 28)])
         (.out 0 [(.v 23), (.v 25), (.v 29)]))))))))
         (.out 0 [(.v 7), (.v 8), (.v 9)]))))))))
       (.nd (.pr (.len [ki64, ki64, ki64, ki64]) [(.v 2)])
       (.nd (.pr (.bin .add .i64) [(.v 6), (.k (.i 1))])
       (.out 0 [(.v 17), (.v 13), (.v 14), (.v 15)]))))
       (.out 4 [(.v 7), (.v 8), (.v 9)]))))))
    (.nd (.pr (.len [ki64, ki64, ki64, ki64]) [(.v 2)])
    (.nd (.pr (.cmp .gtr .i64) [(.v 6), (.k (.i 0))])
    (.ite (.v 10)
     (.nd (.pr (.mk [ki64, ki64, ki64, ki64] 1) [(.v 1), (.v 6), (.v 7), (.v 8)])
     (.nd (.pr (.app [ki64, ki64, ki64, ki64] 32) [(.v 2), (.v 11)])
     (.nd (.pr (.len [ki64, ki64, ki64, ki64]) [(.v 12)])
     (.out 0 [(.v 12)]))))
     (.out 0 [(.v 2)])))))
   (.nd (.pr (.len [ki64, ki64, ki64, ki64]) [(.v 6)])
   (.nd (.pr (.bin .add .i64) [(.v 1), (.k (.i 1))])
   (.out 0 [(.v 8), (.v 6)]))))
   (.out 2 [(.v 2)]))))))
(.nd (.pr (.len [ki64, ki64, ki64, ki64]) [(.v 1)])
(.out 1 [(.v 1)])))
def e14 : Fe := ⟨⟨54, [(.sl [ku32])], [(.agg [(.lz [ku32] (.v 0))])], [], [(.sl [ki64, ki64, ki64, ki64])], [(.sl 0 (.k (.i 0)) (.v 2) 4)], [(0, (.arr [ki64, ki64, ki64, ki64] (.v 1) (.v 2)))], 1⟩,
 ⟨[(29, ⟨[(.sl [ki64, ki64, ki64, ki64])], [(3, (.sl 0 (.k (.i 0)) (.v 2) 4))], [(0, (.arr [ki64, ki64, ki64, ki64] (.v 1) (.v 2)))], 1⟩), (58, ⟨[ki64, (.sl [ki64, ki64, ki64, ki64])], [(1, (.ptr 0 0)), (3, (.sl 1 (.k (.i 0)) (.v 3) 4)), (4, (.dat ki64 (.v 1)))], [(0, (.cells [(.lz [ku32] (.v 0))])), (1, (.arr [ki64, ki64, ki64, ki64] (.v 2) (.v 3)))], 2⟩), (466, ⟨[(.sl [ki64, ki64, ki64, ki64])], [(1, (.ptr 0 0)), (3, (.sl 1 (.k (.i 0)) (.v 7) 4)), (4, (.dat ki64 (.v 1)))], [(0, (.cells [(.lz [ku32] (.v 0))])), (1, (.arr [ki64, ki64, ki64, ki64] (.v 6) (.v 7)))], 2⟩), (7461, ⟨[ki64, ki64, ki64], [(1, (.ptr 0 0)), (3, (.sl 1 (.k (.i 0)) (.v 9) 4)), (4, (.dat ki64 (.v 1))), (5, (.ptr 2 0))], [(0, (.cells [(.lz [ku32] (.v 0))])), (1, (.arr [ki64, ki64, ki64, ki64] (.v 2) (.v 9))), (2, (.cells [(.dat ki64 (.v 1)), (.dat ki64 (.v 6)), (.dat ki64 (.v 7)), (.dat ki64 (.v 8))]))], 3⟩), (14922, ⟨[ki64, ki64, ki64, ki64], [(1, (.ptr 0 0)), (3, (.sl 1 (.k (.i 0)) (.v 10) 4)), (4, (.dat ki64 (.v 1))), (5, (.ptr 2 0)), (6, (.dat ki64 (.v 6)))], [(0, (.cells [(.lz [ku32] (.v 0))])), (1, (.arr [ki64, ki64, ki64, ki64] (.v 2) (.v 10))), (2, (.cells [(.dat ki64 (.v 1)), (.dat ki64 (.v 7)), (.dat ki64 (.v 8)), (.dat ki64 (.v 9))]))], 3⟩), (119378, ⟨[ki64, ki64, ki64], [(1, (.ptr 0 0)), (3, (.sl 1 (.k (.i 0)) (.v 16) 4)), (4, (.dat ki64 (.v 1))), (5, (.ptr 2 0)), (6, (.dat ki64 (.v 6)))], [(0, (.cells [(.lz [ku32] (.v 0))])), (1, (.arr [ki64, ki64, ki64, ki64] (.v 2) (.v 16))), (2, (.cells [(.dat ki64 (.v 1)), (.dat ki64 (.v 13)), (.dat ki64 (.v 14)), (.dat ki64 (.v 15))]))], 3⟩), (477513, ⟨[kb], [(1, (.ptr 0 0)), (3, (.sl 1 (.k (.i 0)) (.v 22) 4)), (4, (.dat ki64 (.v 1))), (5, (.ptr 2 0)), (6, (.dat ki64 (.v 6))), (7, (.ptr 3 0)), (44, (.dat kb (.v 21)))], [(0, (.cells [(.lz [ku32] (.v 0))])), (1, (.arr [ki64, ki64, ki64, ki64] (.v 2) (.v 22))), (2, (.cells [(.dat ki64 (.v 1)), (.dat ki64 (.v 7)), (.dat ki64 (.v 8)), (.dat ki64 (.v 9))])), (3, (.cells [(.dat ki64 (.v 17)), (.dat ki64 (.v 18)), (.dat ku32 (.v 19)), (.dat ki64 (.v 20))]))], 4⟩), (232, ⟨[kb], [(1, (.ptr 0 0)), (3, (.sl 1 (.k (.i 0)) (.v 5) 4)), (4, (.dat ki64 (.v 1))), (15, (.dat kb (.v 4)))], [(0, (.cells [(.lz [ku32] (.v 0))])), (1, (.arr [ki64, ki64, ki64, ki64] (.v 2) (.v 5)))], 2⟩)], [(7640219, [2]), (7640218, [2])]⟩,
 [(2, (.sl 0 (.k (.i 0)) (.v 2) 4))], some t14, fun _ => none⟩
/-- loop.example/g00709/impl.within -/
def t15 : Tr :=
(.seq [kb]
 (.nd (.pr (.cmp .geq .i64) [(.v 0), (.v 1)])
 (.ite (.v 3)
  (.nd (.pr (.cmp .leq .i64) [(.v 0), (.v 2)])
  (.out 0 [(.v 4)]))
  (.out 0 [(.k (.b false))])))
(.out 1 [(.v 3)]))
def e15 : Fe := ⟨⟨104, [ki64, ki64, ki64], [(.dat ki64 (.v 0)), (.dat ki64 (.v 1)), (.dat ki64 (.v 2))], [], [kb], [(.dat kb (.v 3))], [], 0⟩,
 ⟨[(3, ⟨[kb], [(6, (.dat kb (.v 3)))], [], 0⟩)], []⟩,
 [(6, (.dat kb (.v 3)))], some t15, fun _ => none⟩
/-- loop.example/g00709/impl.isClass -/
def t16 : Tr :=
(.nd (.call 15 [(.v 0), (.k (.i 0)), (.k (.i 4))] [ki64, ki64, ki64] [kb])
(.out 1 [(.v 1)]))
def e16 : Fe := ⟨⟨156, [ki64], [(.dat ki64 (.v 0))], [], [kb], [(.dat kb (.v 1))], [], 0⟩,
 ⟨[], []⟩,
 [(2, (.dat kb (.v 1)))], some t16, fun _ => none⟩
/-- loop.example/g00709/impl.PerPage -/
def t17 : Tr :=
(.nd (.call 16 [(.v 0)] [ki64] [kb])
(.nd (.pr .not [(.v 1)])
(.ite (.v 2)
 (.out 1 [(.k (.i 0))])
 (.nd (.pr (.sh .shr .i64 .i64) [(.k (.i 16)), (.v 0)])
 (.out 1 [(.v 3)])))))
def e17 : Fe := ⟨⟨89, [ki64], [(.dat ki64 (.v 0))], [], [ki64], [(.dat ki64 (.v 1))], [], 0⟩,
 ⟨[], []⟩,
 [(2, (.dat ki64 (.v 1)))], some t17, fun _ => none⟩
/-- loop.example/g00709/impl.isCtl -/
def t18 : Tr :=
(.blk 2 []
 (.seq [kb]
  (.nd (.pr (.cmp .eql .i64) [(.v 0), (.k (.i 0))])
  (.ite (.v 4)
   (.out 0 [(.k (.b true))])
   (.nd (.pr (.cmp .eql .i64) [(.v 0), (.k (.i 3))])
   (.out 0 [(.v 5)]))))
 (.ite (.v 4)
  (.nd (.pr (.cmp .eql .i64) [(.v 0), (.v 0)])
  (.nd (.pr .and [(.k (.b true)), (.v 5)])
  (.nd (.pr (.cmp .eql .i64) [(.v 1), (.k (.i 0))])
  (.nd (.pr .and [(.v 6), (.v 7)])
  (.nd (.pr (.cmp .eql .u32) [(.v 2), (.k (.i 0))])
  (.nd (.pr .and [(.v 8), (.v 9)])
  (.nd (.pr (.cmp .eql .i64) [(.v 3), (.k (.i 0))])
  (.nd (.pr .and [(.v 10), (.v 11)])
  (.out 1 [(.v 12)])))))))))
  (.nd (.pr (.cmp .eql .i64) [(.v 0), (.k (.i 1))])
  (.ite (.v 5)
   (.seq [kb]
    (.nd (.call 16 [(.v 1)] [ki64] [kb])
    (.ite (.v 6)
     (.nd (.pr (.cmp .neq .u32) [(.v 2), (.k (.i 0))])
     (.ite (.v 7)
      (.nd (.call 17 [(.v 1)] [ki64] [ki64])
      (.nd (.pr (.sh .shl .u32 .i64) [(.k (.i 1)), (.v 8)])
      (.nd (.pr (.cmp .lss .u32) [(.v 2), (.v 9)])
      (.ite (.v 10)
       (.nd (.pr (.cmp .eql .i64) [(.v 3), (.k (.i 0))])
       (.out 0 [(.v 11)]))
       (.out 0 [(.k (.b false))])))))
      (.out 0 [(.k (.b false))])))
     (.out 0 [(.k (.b false))])))
   (.out 1 [(.v 6)]))
   (.nd (.pr (.cmp .eql .i64) [(.v 0), (.k (.i 2))])
   (.ite (.v 6)
    (.seq [kb]
     (.nd (.call 15 [(.v 3), (.k (.i 2)), (.k (.i 16))] [ki64, ki64, ki64] [kb])
     (.ite (.v 7)
      (.nd (.pr (.cmp .eql .i64) [(.v 1), (.k (.i 0))])
      (.ite (.v 8)
       (.nd (.pr (.cmp .eql .u32) [(.v 2), (.k (.i 0))])
       (.out 0 [(.v 9)]))
       (.out 0 [(.k (.b false))])))
      (.out 0 [(.k (.b false))])))
    (.out 1 [(.v 7)]))
    (.out 0 [])))))))
(.out 1 [(.k (.b false))]))
def e18 : Fe := ⟨⟨178, [ki64, ki64, ku32, ki64], [(.agg [(.dat ki64 (.v 0)), (.dat ki64 (.v 1)), (.dat ku32 (.v 2)), (.dat ki64 (.v 3))])], [], [kb], [(.dat kb (.v 4))], [], 0⟩,
 ⟨[(13, ⟨[], [], [], 0⟩), (1726, ⟨[kb], [(2, (.dat kb (.v 7)))], [], 0⟩), (430, ⟨[kb], [(2, (.dat kb (.v 6)))], [], 0⟩), (26, ⟨[kb], [(1, (.ptr 0 0)), (4, (.dat ki64 (.v 0))), (5, (.dat kb (.v 4)))], [(0, (.cells [(.dat ki64 (.v 0)), (.dat ki64 (.v 1)), (.dat ku32 (.v 2)), (.dat ki64 (.v 3))]))], 1⟩)], []⟩,
 [(2, (.dat kb (.v 4)))], some t18, fun _ => none⟩
/-- loop.example/g00709/impl.CtlRead -/
def t19 : Tr :=
(.nd (.pr (.sh .shr .u32 .u64) [(.v 0), (.k (.i 20))])
(.nd (.pr (.bin .and .u32) [(.v 1), (.k (.i 15))])
(.nd (.pr (.conv .u32 .i64) [(.v 2)])
(.nd (.pr (.sh .shr .u32 .u64) [(.v 0), (.k (.i 16))])
(.nd (.pr (.bin .and .u32) [(.v 4), (.k (.i 15))])
(.nd (.pr (.conv .u32 .i64) [(.v 5)])
(.nd (.pr (.bin .and .u32) [(.v 0), (.k (.i 65535))])
(.nd (.pr (.sh .shr .u32 .u64) [(.v 0), (.k (.i 24))])
(.nd (.pr (.conv .u32 .i64) [(.v 8)])
(.nd (.call 18 [(.v 3), (.v 6), (.v 7), (.v 9)] [ki64, ki64, ku32, ki64] [kb])
(.nd (.pr .not [(.v 10)])
(.ite (.v 11)
 (.out 1 [(.k (.b false)), (.k (.i 0)), (.k (.i 0)), (.k (.i 0)), (.k (.i 0))])
 (.out 1 [(.k (.b true)), (.v 3), (.v 6), (.v 7), (.v 9)])))))))))))))
def e19 : Fe := ⟨⟨134, [ku32], [(.dat ku32 (.v 0))], [], [kb, ki64, ki64, ku32, ki64], [(.agg [(.dat ki64 (.v 2)), (.dat ki64 (.v 3)), (.dat ku32 (.v 4)), (.dat ki64 (.v 5))]), (.dat kb (.v 1))], [(0, (.cells [(.dat ki64 (.v 2)), (.dat ki64 (.v 3)), (.dat ku32 (.v 4)), (.dat ki64 (.v 5))]))], 1⟩,
 ⟨[], []⟩,
 [(2, (.ptr 0 0)), (3, (.dat kb (.v 1)))], some t19, fun _ => none⟩
/-- loop.example/g00709/impl.isHeap$1 -/
def t20 : Tr :=
(.nd (.call 19 [(.v 0)] [ku32] [kb, ki64, ki64, ku32, ki64])
(.nd (.pr .not [(.v 1)])
(.out 1 [(.v 6)])))
def e20 : Fe := ⟨⟨177, [ku32], [(.dat ku32 (.v 0))], [], [kb], [(.dat kb (.v 1))], [], 0⟩,
 ⟨[], []⟩,
 [(2, (.dat kb (.v 1)))], some t20, fun _ => none⟩
/-- slices.IndexFunc[[]uint32,uint32] -/
def t21 : Tr :=
(.nd (.pr (.len [ku32]) [(.v 0)])
(.blk 2 []
 (.loop [ki64] [(.k (.i 0))]
  (.nd (.pr (.cmp .lss .i64) [(.v 2), (.v 1)])
  (.ite (.v 3)
   (.blk 3 []
    (.nd (.pr (.len [ku32]) [(.v 0)])
    (.nd (.pr (.ixc .i64) [(.v 2), (.v 4)])
    (.nd (.pr (.get [ku32] 0) [(.v 0), (.v 5)])
    (.nd (.call 20 [(.v 6)] [ku32] [kb])
    (.ite (.v 7)
     (.out 1 [(.v 2)])
     (.out 0 []))))))
   (.nd (.pr (.bin .add .i64) [(.v 2), (.k (.i 1))])
   (.out 0 [(.v 4)])))
   (.out 2 []))))
(.out 1 [(.k (.i (-1)))])))
def e21 : Fe := ⟨⟨183, [(.sl [ku32])], [(.lz [ku32] (.v 0)), (.fn 177 [])], [], [ki64], [(.dat ki64 (.v 1))], [], 0⟩,
 ⟨[(13, ⟨[], [], [], 0⟩), (26, ⟨[ki64], [(0, (.lz [ku32] (.v 0))), (1, (.fn 177 [])), (7, (.dat ki64 (.v 1))), (8, (.dat ki64 (.v 2)))], [], 0⟩), (422, ⟨[], [(0, (.lz [ku32] (.v 0))), (1, (.fn 177 [])), (7, (.dat ki64 (.v 1))), (8, (.dat ki64 (.v 2)))], [], 0⟩)], []⟩,
 [(4, (.dat ki64 (.v 1)))], some t21, fun _ => none⟩
/-- slices.ContainsFunc[[]uint32,uint32] -/
def t22 : Tr :=
(.nd (.call 21 [(.v 0)] [(.sl [ku32])] [ki64])
(.nd (.pr (.cmp .geq .i64) [(.v 1), (.k (.i 0))])
(.out 1 [(.v 2)])))
def e22 : Fe := ⟨⟨146, [(.sl [ku32])], [(.lz [ku32] (.v 0)), (.fn 177 [])], [], [kb], [(.dat kb (.v 1))], [], 0⟩,
 ⟨[], []⟩,
 [(4, (.dat kb (.v 1)))], some t22, fun _ => none⟩
/-- loop.example/g00709/impl.isHeap -/
def t23 : Tr :=
(.seq [kb]
 (.nd (.pr (.len [ku32]) [(.v 0)])
 (.nd (.pr (.cmp .leq .i64) [(.v 1), (.k (.i 16))])
 (.ite (.v 2)
  (.nd (.call 22 [(.v 0)] [(.sl [ku32])] [kb])
  (.nd (.pr .not [(.v 3)])
  (.out 0 [(.v 4)])))
  (.out 0 [(.k (.b false))]))))
(.out 1 [(.v 1)]))
def e23 : Fe := ⟨⟨133, [(.sl [ku32])], [(.agg [(.lz [ku32] (.v 0))])], [], [kb], [(.dat kb (.v 1))], [], 0⟩,
 ⟨[(3, ⟨[kb], [(2, (.dat kb (.v 1)))], [], 0⟩)], []⟩,
 [(2, (.dat kb (.v 1)))], some t23, fun _ => none⟩
/-- math/bits.OnesCount32 -/
def t24 : Tr :=
(.nd (.pr (.sh .shr .u32 .u64) [(.v 0), (.k (.i 24))])
(.nd (.pr (.idxS .u32) [(.k (.s ⟨#[0, 1, 1, 2, 1, 2, 2, 3, 1, 2, 2, 3, 2, 3, 3, 4, 1, 2, 2, 3, 2, 3, 3, 4, 2, 3, 3, 4, 3, 4, 4, 5, 1, 2, 2, 3, 2, 3, 3, 4, 2, 3, 3, 4, 3, 4, 4, 5, 2, 3, 3, 4, 3, 4, 4, 5, 3, 4, 4, 5, 4, 5, 5, 6, 1, 2, 2, 3, 2, 3, 3, 4, 2, 3, 3, 4, 3, 4, 4, 5, 2, 3, 3, 4, 3, 4, 4, 5, 3, 4, 4, 5, 4, 5, 5, 6, 2, 3, 3, 4, 3, 4, 4, 5, 3, 4, 4, 5, 4, 5, 5, 6, 3, 4, 4, 5, 4, 5, 5, 6, 4, 5, 5, 6, 5, 6, 6, 7, 1, 2, 2, 3, 2, 3, 3, 4, 2, 3, 3, 4, 3, 4, 4, 5, 2, 3, 3, 4, 3, 4, 4, 5, 3, 4, 4, 5, 4, 5, 5, 6, 2, 3, 3, 4, 3, 4, 4, 5, 3, 4, 4, 5, 4, 5, 5, 6, 3, 4, 4, 5, 4, 5, 5, 6, 4, 5, 5, 6, 5, 6, 6, 7, 2, 3, 3, 4, 3, 4, 4, 5, 3, 4, 4, 5, 4, 5, 5, 6, 3, 4, 4, 5, 4, 5, 5, 6, 4, 5, 5, 6, 5, 6, 6, 7, 3, 4, 4, 5, 4, 5, 5, 6, 4, 5, 5, 6, 5, 6, 6, 7, 4, 5, 5, 6, 5, 6, 6, 7, 5, 6, 6, 7, 6, 7, 7, 8]⟩)), (.v 1)])
(.nd (.pr (.sh .shr .u32 .u64) [(.v 0), (.k (.i 16))])
(.nd (.pr (.bin .and .u32) [(.v 3), (.k (.i 255))])
(.nd (.pr (.idxS .u32) [(.k (.s ⟨#[0, 1, 1, 2, 1, 2, 2, 3, 1, 2, 2, 3, 2, 3, 3, 4, 1, 2, 2, 3, 2, 3, 3, 4, 2, 3, 3, 4, 3, 4, 4, 5, 1, 2, 2, 3, 2, 3, 3, 4, 2, 3, 3, 4, 3, 4, 4, 5, 2, 3, 3, 4, 3, 4, 4, 5, 3, 4, 4, 5, 4, 5, 5, 6, 1, 2, 2, 3, 2, 3, 3, 4, 2, 3, 3, 4, 3, 4, 4, 5, 2, 3, 3, 4, 3, 4, 4, 5, 3, 4, 4, 5, 4, 5, 5, 6, 2, 3, 3, 4, 3, 4, 4, 5, 3, 4, 4, 5, 4, 5, 5, 6, 3, 4, 4, 5, 4, 5, 5, 6, 4, 5, 5, 6, 5, 6, 6, 7, 1, 2, 2, 3, 2, 3, 3, 4, 2, 3, 3, 4, 3, 4, 4, 5, 2, 3, 3, 4, 3, 4, 4, 5, 3, 4, 4, 5, 4, 5, 5, 6, 2, 3, 3, 4, 3, 4, 4, 5, 3, 4, 4, 5, 4, 5, 5, 6, 3, 4, 4, 5, 4, 5, 5, 6, 4, 5, 5, 6, 5, 6, 6, 7, 2, 3, 3, 4, 3, 4, 4, 5, 3, 4, 4, 5, 4, 5, 5, 6, 3, 4, 4, 5, 4, 5, 5, 6, 4, 5, 5, 6, 5, 6, 6, 7, 3, 4, 4, 5, 4, 5, 5, 6, 4, 5, 5, 6, 5, 6, 6, 7, 4, 5, 5, 6, 5, 6, 6, 7, 5, 6, 6, 7, 6, 7, 7, 8]⟩)), (.v 4)])
(.nd (.pr (.bin .add .u8) [(.v 2), (.v 5)])
(.nd (.pr (.sh .shr .u32 .u64) [(.v 0), (.k (.i 8))])
(.nd (.pr (.bin .and .u32) [(.v 7), (.k (.i 255))])
(.nd (.pr (.idxS .u32) [(.k (.s ⟨#[0, 1, 1, 2, 1, 2, 2, 3, 1, 2, 2, 3, 2, 3, 3, 4, 1, 2, 2, 3, 2, 3, 3, 4, 2, 3, 3, 4, 3, 4, 4, 5, 1, 2, 2, 3, 2, 3, 3, 4, 2, 3, 3, 4, 3, 4, 4, 5, 2, 3, 3, 4, 3, 4, 4, 5, 3, 4, 4, 5, 4, 5, 5, 6, 1, 2, 2, 3, 2, 3, 3, 4, 2, 3, 3, 4, 3, 4, 4, 5, 2, 3, 3, 4, 3, 4, 4, 5, 3, 4, 4, 5, 4, 5, 5, 6, 2, 3, 3, 4, 3, 4, 4, 5, 3, 4, 4, 5, 4, 5, 5, 6, 3, 4, 4, 5, 4, 5, 5, 6, 4, 5, 5, 6, 5, 6, 6, 7, 1, 2, 2, 3, 2, 3, 3, 4, 2, 3, 3, 4, 3, 4, 4, 5, 2, 3, 3, 4, 3, 4, 4, 5, 3, 4, 4, 5, 4, 5, 5, 6, 2, 3, 3, 4, 3, 4, 4, 5, 3, 4, 4, 5, 4, 5, 5, 6, 3, 4, 4, 5, 4, 5, 5, 6, 4, 5, 5, 6, 5, 6, 6, 7, 2, 3, 3, 4, 3, 4, 4, 5, 3, 4, 4, 5, 4, 5, 5, 6, 3, 4, 4, 5, 4, 5, 5, 6, 4, 5, 5, 6, 5, 6, 6, 7, 3, 4, 4, 5, 4, 5, 5, 6, 4, 5, 5, 6, 5, 6, 6, 7, 4, 5, 5, 6, 5, 6, 6, 7, 5, 6, 6, 7, 6, 7, 7, 8]⟩)), (.v 8)])
(.nd (.pr (.bin .add .u8) [(.v 6), (.v 9)])
(.nd (.pr (.bin .and .u32) [(.v 0), (.k (.i 255))])
(.nd (.pr (.idxS .u32) [(.k (.s ⟨#[0, 1, 1, 2, 1, 2, 2, 3, 1, 2, 2, 3, 2, 3, 3, 4, 1, 2, 2, 3, 2, 3, 3, 4, 2, 3, 3, 4, 3, 4, 4, 5, 1, 2, 2, 3, 2, 3, 3, 4, 2, 3, 3, 4, 3, 4, 4, 5, 2, 3, 3, 4, 3, 4, 4, 5, 3, 4, 4, 5, 4, 5, 5, 6, 1, 2, 2, 3, 2, 3, 3, 4, 2, 3, 3, 4, 3, 4, 4, 5, 2, 3, 3, 4, 3, 4, 4, 5, 3, 4, 4, 5, 4, 5, 5, 6, 2, 3, 3, 4, 3, 4, 4, 5, 3, 4, 4, 5, 4, 5, 5, 6, 3, 4, 4, 5, 4, 5, 5, 6, 4, 5, 5, 6, 5, 6, 6, 7, 1, 2, 2, 3, 2, 3, 3, 4, 2, 3, 3, 4, 3, 4, 4, 5, 2, 3, 3, 4, 3, 4, 4, 5, 3, 4, 4, 5, 4, 5, 5, 6, 2, 3, 3, 4, 3, 4, 4, 5, 3, 4, 4, 5, 4, 5, 5, 6, 3, 4, 4, 5, 4, 5, 5, 6, 4, 5, 5, 6, 5, 6, 6, 7, 2, 3, 3, 4, 3, 4, 4, 5, 3, 4, 4, 5, 4, 5, 5, 6, 3, 4, 4, 5, 4, 5, 5, 6, 4, 5, 5, 6, 5, 6, 6, 7, 3, 4, 4, 5, 4, 5, 5, 6, 4, 5, 5, 6, 5, 6, 6, 7, 4, 5, 5, 6, 5, 6, 6, 7, 5, 6, 6, 7, 6, 7, 7, 8]⟩)), (.v 11)])
(.nd (.pr (.bin .add .u8) [(.v 10), (.v 12)])
(.nd (.pr (.conv .u8 .i64) [(.v 13)])
(.out 1 [(.v 14)])))))))))))))))
def e24 : Fe := ⟨⟨179, [ku32], [(.dat ku32 (.v 0))], [], [ki64], [(.dat ki64 (.v 1))], [], 0⟩,
 ⟨[], []⟩,
 [(2, (.dat ki64 (.v 1)))], some t24, fun _ => none⟩
/-- loop.example/g00709/impl.Ones -/
def t25 : Tr :=
(.nd (.call 24 [(.v 0)] [ku32] [ki64])
(.out 1 [(.v 1)]))
def e25 : Fe := ⟨⟨135, [ku32], [(.dat ku32 (.v 0))], [], [ki64], [(.dat ki64 (.v 1))], [], 0⟩,
 ⟨[], []⟩,
 [(2, (.dat ki64 (.v 1)))], some t25, fun _ => none⟩
/-- loop.example/g00709/impl.UsesOf -/
def t26 : Tr :=
(.nd (.call 23 [(.v 0)] [(.sl [ku32])] [kb])
(.nd (.pr .not [(.v 1)])
(.ite (.v 2)
 (.out 1 [(.k (.l []))])
 (.blk 2 [(.sl [ki64, ki64, ki64, ki64])]
  (.loop [ki64, (.sl [ki64, ki64, ki64, ki64])] [(.k (.i 0)), (.k (.l []))]
   (.nd (.pr (.len [ki64, ki64, ki64, ki64]) [(.v 4)])
   (.nd (.pr (.cmp .lss .i64) [(.v 3), (.k (.i 5))])
   (.ite (.v 6)
    (.blk 3 [(.sl [ki64, ki64, ki64, ki64])]
     (.nd (.pr (.len [ku32]) [(.v 0)])
     (.blk 4 [ki64, ki64]
      (.loop [ki64, ki64, ki64] [(.k (.i 0)), (.k (.i 0)), (.k (.i 0))]
       (.nd (.pr (.len [ki64, ki64, ki64, ki64]) [(.v 4)])
       (.nd (.pr (.cmp .lss .i64) [(.v 8), (.v 7)])
       (.ite (.v 12)
        (.blk 5 [ki64, ki64]
         (.nd (.pr (.len [ku32]) [(.v 0)])
         (.nd (.pr (.ixc .i64) [(.v 8), (.v 13)])
         (.nd (.pr (.get [ku32] 0) [(.v 0), (.v 14)])
         (.nd (.call 19 [(.v 15)] [ku32] [kb, ki64, ki64, ku32, ki64])
         (.seq [kb]
          (.nd (.pr (.cmp .eql .i64) [(.v 17), (.k (.i 1))])
          (.ite (.v 21)
           (.nd (.pr (.cmp .eql .i64) [(.v 18), (.v 3)])
           (.out 0 [(.v 22)]))
           (.out 0 [(.k (.b false))])))
         (.nd (.pr (.len [ki64, ki64, ki64, ki64]) [(.v 4)])
         (.ite (.v 21)
          (.nd (.pr (.bin .add .i64) [(.v 9), (.k (.i 1))])
          (.nd (.call 25 [(.v 19)] [ku32] [ki64])
          (.nd (.pr (.bin .add .i64) [(.v 10), (.v 24)])
          (.out 0 [(.v 23), (.v 25)]))))
          (.out 0 [(.v 9), (.v 10)]))))))))
        (.nd (.pr (.len [ki64, ki64, ki64, ki64]) [(.v 4)])
        (.nd (.pr (.bin .add .i64) [(.v 8), (.k (.i 1))])
        (.out 0 [(.v 16), (.v 13), (.v 14)]))))
        (.out 4 [(.v 9), (.v 10)])))))
     (.nd (.pr (.len [ki64, ki64, ki64, ki64]) [(.v 4)])
     (.nd (.pr (.cmp .gtr .i64) [(.v 8), (.k (.i 0))])
     (.ite (.v 11)
      (.nd (.call 17 [(.v 3)] [ki64] [ki64])
      (.nd (.pr (.bin .mul .i64) [(.v 8), (.v 12)])
      (.nd (.pr (.bin .sub .i64) [(.v 13), (.v 9)])
      (.nd (.pr (.mk [ki64, ki64, ki64, ki64] 1) [(.v 3), (.v 8), (.v 9), (.v 14)])
      (.nd (.pr (.app [ki64, ki64, ki64, ki64] 32) [(.v 4), (.v 15)])
      (.nd (.pr (.len [ki64, ki64, ki64, ki64]) [(.v 16)])
      (.out 0 [(.v 16)])))))))
      (.out 0 [(.v 4)]))))))
    (.nd (.pr (.len [ki64, ki64, ki64, ki64]) [(.v 7)])
    (.nd (.pr (.bin .add .i64) [(.v 3), (.k (.i 1))])
    (.out 0 [(.v 9), (.v 7)]))))
    (.out 2 [(.v 4)])))))
 (.nd (.pr (.len [ki64, ki64, ki64, ki64]) [(.v 3)])
 (.out 1 [(.v 3)]))))))
def e26 : Fe := ⟨⟨56, [(.sl [ku32])], [(.agg [(.lz [ku32] (.v 0))])], [], [(.sl [ki64, ki64, ki64, ki64])], [(.sl 0 (.k (.i 0)) (.v 2) 4)], [(0, (.arr [ki64, ki64, ki64, ki64] (.v 1) (.v 2)))], 1⟩,
 ⟨[(61, ⟨[(.sl [ki64, ki64, ki64, ki64])], [(3, (.sl 0 (.k (.i 0)) (.v 4) 4))], [(0, (.arr [ki64, ki64, ki64, ki64] (.v 3) (.v 4)))], 1⟩), (122, ⟨[ki64, (.sl [ki64, ki64, ki64, ki64])], [(1, (.ptr 0 0)), (3, (.sl 1 (.k (.i 0)) (.v 5) 4)), (13, (.dat ki64 (.v 3)))], [(0, (.cells [(.lz [ku32] (.v 0))])), (1, (.arr [ki64, ki64, ki64, ki64] (.v 4) (.v 5)))], 2⟩), (1958, ⟨[(.sl [ki64, ki64, ki64, ki64])], [(1, (.ptr 0 0)), (3, (.sl 1 (.k (.i 0)) (.v 8) 4)), (13, (.dat ki64 (.v 3)))], [(0, (.cells [(.lz [ku32] (.v 0))])), (1, (.arr [ki64, ki64, ki64, ki64] (.v 7) (.v 8)))], 2⟩), (62669, ⟨[ki64, ki64], [(1, (.ptr 0 0)), (3, (.sl 1 (.k (.i 0)) (.v 10) 4)), (4, (.dat ki64 (.v 3))), (5, (.ptr 2 0)), (13, (.dat ki64 (.v 3)))], [(0, (.cells [(.lz [ku32] (.v 0))])), (1, (.arr [ki64, ki64, ki64, ki64] (.v 4) (.v 10))), (2, (.cells [(.dat ki64 (.v 3)), (.dat ki64 (.v 8)), (.dat ki64 (.v 9)), (.dat ki64 (.k (.i 0)))]))], 3⟩), (125338, ⟨[ki64, ki64, ki64], [(1, (.ptr 0 0)), (3, (.sl 1 (.k (.i 0)) (.v 11) 4)), (4, (.dat ki64 (.v 3))), (5, (.ptr 2 0)), (13, (.dat ki64 (.v 3))), (19, (.lz [ku32] (.v 0))), (20, (.dat ki64 (.v 7))), (21, (.dat ki64 (.v 8)))], [(0, (.cells [(.lz [ku32] (.v 0))])), (1, (.arr [ki64, ki64, ki64, ki64] (.v 4) (.v 11))), (2, (.cells [(.dat ki64 (.v 3)), (.dat ki64 (.v 9)), (.dat ki64 (.v 10)), (.dat ki64 (.k (.i 0)))]))], 3⟩), (2005414, ⟨[ki64, ki64], [(1, (.ptr 0 0)), (3, (.sl 1 (.k (.i 0)) (.v 15) 4)), (4, (.dat ki64 (.v 3))), (5, (.ptr 2 0)), (13, (.dat ki64 (.v 3))), (19, (.lz [ku32] (.v 0))), (20, (.dat ki64 (.v 7))), (21, (.dat ki64 (.v 8)))], [(0, (.cells [(.lz [ku32] (.v 0))])), (1, (.arr [ki64, ki64, ki64, ki64] (.v 4) (.v 15))), (2, (.cells [(.dat ki64 (.v 3)), (.dat ki64 (.v 13)), (.dat ki64 (.v 14)), (.dat ki64 (.k (.i 0)))]))], 3⟩), (16043315, ⟨[kb], [(1, (.ptr 0 0)), (3, (.sl 1 (.k (.i 0)) (.v 22) 4)), (4, (.dat ki64 (.v 3))), (5, (.ptr 2 0)), (8, (.ptr 3 0)), (13, (.dat ki64 (.v 3))), (19, (.lz [ku32] (.v 0))), (20, (.dat ki64 (.v 7))), (21, (.dat ki64 (.v 8))), (38, (.dat kb (.v 21)))], [(0, (.cells [(.lz [ku32] (.v 0))])), (1, (.arr [ki64, ki64, ki64, ki64] (.v 4) (.v 22))), (2, (.cells [(.dat ki64 (.v 3)), (.dat ki64 (.v 9)), (.dat ki64 (.v 10)), (.dat ki64 (.k (.i 0)))])), (3, (.cells [(.dat ki64 (.v 17)), (.dat ki64 (.v 18)), (.dat ku32 (.v 19)), (.dat ki64 (.v 20))]))], 4⟩)], [(250684, [2]), (128346525, [2])]⟩,
 [(2, (.sl 0 (.k (.i 0)) (.v 2) 4))], some t26, fun _ => none⟩
/-- loop.example/g00709/laws.eqUse -/
def t27 : Tr :=
(.nd (.pr (.cmp .neq .i64) [(.v 0), (.v 4)])
(.ite (.v 8)
 (.out 1 [(.k (.b false))])
 (.nd (.pr (.cmp .neq .i64) [(.v 1), (.v 5)])
 (.ite (.v 9)
  (.out 1 [(.k (.b false))])
  (.nd (.pr (.cmp .neq .i64) [(.v 2), (.v 6)])
  (.ite (.v 10)
   (.out 1 [(.k (.b false))])
   (.nd (.pr (.cmp .neq .i64) [(.v 3), (.v 7)])
   (.ite (.v 11)
    (.out 1 [(.k (.b false))])
    (.out 1 [(.k (.b true))])))))))))
def e27 : Fe := ⟨⟨136, [ki64, ki64, ki64, ki64, ki64, ki64, ki64, ki64], [(.agg [(.dat ki64 (.v 0)), (.dat ki64 (.v 1)), (.dat ki64 (.v 2)), (.dat ki64 (.v 3))]), (.agg [(.dat ki64 (.v 4)), (.dat ki64 (.v 5)), (.dat ki64 (.v 6)), (.dat ki64 (.v 7))])], [], [kb], [(.dat kb (.v 8))], [], 0⟩,
 ⟨[], []⟩,
 [(4, (.dat kb (.v 8)))], some t27, fun _ => none⟩
/-- loop.example/g00709/laws.eqUseS -/
def t28 : Tr :=
(.nd (.pr (.len [ki64, ki64, ki64, ki64]) [(.v 0)])
(.nd (.pr (.len [ki64, ki64, ki64, ki64]) [(.v 1)])
(.nd (.pr (.cmp .neq .i64) [(.v 2), (.v 3)])
(.ite (.v 4)
 (.out 1 [(.k (.b false))])
 (.blk 2 []
  (.loop [ki64] [(.k (.i 0))]
   (.nd (.pr (.len [ki64, ki64, ki64, ki64]) [(.v 0)])
   (.nd (.pr (.cmp .lss .i64) [(.v 5), (.v 6)])
   (.ite (.v 7)
    (.blk 3 []
     (.nd (.pr (.len [ki64, ki64, ki64, ki64]) [(.v 0)])
     (.nd (.pr (.ixc .i64) [(.v 5), (.v 8)])
     (.nd (.pr (.get [ki64, ki64, ki64, ki64] 0) [(.v 0), (.v 9)])
     (.nd (.pr (.get [ki64, ki64, ki64, ki64] 1) [(.v 0), (.v 9)])
     (.nd (.pr (.get [ki64, ki64, ki64, ki64] 2) [(.v 0), (.v 9)])
     (.nd (.pr (.get [ki64, ki64, ki64, ki64] 3) [(.v 0), (.v 9)])
     (.nd (.pr (.len [ki64, ki64, ki64, ki64]) [(.v 1)])
     (.nd (.pr (.ixc .i64) [(.v 5), (.v 14)])
     (.nd (.pr (.get [ki64, ki64, ki64, ki64] 0) [(.v 1), (.v 15)])
     (.nd (.pr (.get [ki64, ki64, ki64, ki64] 1) [(.v 1), (.v 15)])
     (.nd (.pr (.get [ki64, ki64, ki64, ki64] 2) [(.v 1), (.v 15)])
     (.nd (.pr (.get [ki64, ki64, ki64, ki64] 3) [(.v 1), (.v 15)])
     (.nd (.call 27 [(.v 10), (.v 11), (.v 12), (.v 13), (.v 16), (.v 17), (.v 18), (.v 19)] [ki64, ki64, ki64, ki64, ki64, ki64, ki64, ki64] [kb])
     (.nd (.pr .not [(.v 20)])
     (.ite (.v 21)
      (.out 1 [(.k (.b false))])
      (.out 0 []))))))))))))))))
    (.nd (.pr (.bin .add .i64) [(.v 5), (.k (.i 1))])
    (.out 0 [(.v 8)])))
    (.out 2 [])))))
 (.out 1 [(.k (.b true))]))))))
def e28 : Fe := ⟨⟨57, [(.sl [ki64, ki64, ki64, ki64]), (.sl [ki64, ki64, ki64, ki64])], [(.lz [ki64, ki64, ki64, ki64] (.v 0)), (.lz [ki64, ki64, ki64, ki64] (.v 1))], [], [kb], [(.dat kb (.v 2))], [], 0⟩,
 ⟨[(29, ⟨[], [], [], 0⟩), (58, ⟨[ki64], [(0, (.lz [ki64, ki64, ki64, ki64] (.v 0))), (1, (.lz [ki64, ki64, ki64, ki64] (.v 1))), (5, (.dat ki64 (.v 5)))], [], 0⟩), (466, ⟨[], [(0, (.lz [ki64, ki64, ki64, ki64] (.v 0))), (1, (.lz [ki64, ki64, ki64, ki64] (.v 1))), (5, (.dat ki64 (.v 5)))], [], 0⟩)], []⟩,
 [(4, (.dat kb (.v 2)))], some t28, fun _ => none⟩
/-- loop.example/g00709/laws.eqUint32S -/
def t29 : Tr :=
(.nd (.pr (.len [ku32]) [(.v 0)])
(.nd (.pr (.len [ku32]) [(.v 1)])
(.nd (.pr (.cmp .neq .i64) [(.v 2), (.v 3)])
(.ite (.v 4)
 (.out 1 [(.k (.b false))])
 (.blk 2 []
  (.loop [ki64] [(.k (.i 0))]
   (.nd (.pr (.len [ku32]) [(.v 0)])
   (.nd (.pr (.cmp .lss .i64) [(.v 5), (.v 6)])
   (.ite (.v 7)
    (.blk 3 []
     (.nd (.pr (.len [ku32]) [(.v 0)])
     (.nd (.pr (.ixc .i64) [(.v 5), (.v 8)])
     (.nd (.pr (.get [ku32] 0) [(.v 0), (.v 9)])
     (.nd (.pr (.len [ku32]) [(.v 1)])
     (.nd (.pr (.ixc .i64) [(.v 5), (.v 11)])
     (.nd (.pr (.get [ku32] 0) [(.v 1), (.v 12)])
     (.nd (.pr (.cmp .neq .u32) [(.v 10), (.v 13)])
     (.ite (.v 14)
      (.out 1 [(.k (.b false))])
      (.out 0 [])))))))))
    (.nd (.pr (.bin .add .i64) [(.v 5), (.k (.i 1))])
    (.out 0 [(.v 8)])))
    (.out 2 [])))))
 (.out 1 [(.k (.b true))]))))))
def e29 : Fe := ⟨⟨137, [(.sl [ku32]), (.sl [ku32])], [(.lz [ku32] (.v 0)), (.lz [ku32] (.v 1))], [], [kb], [(.dat kb (.v 2))], [], 0⟩,
 ⟨[(29, ⟨[], [], [], 0⟩), (58, ⟨[ki64], [(0, (.lz [ku32] (.v 0))), (1, (.lz [ku32] (.v 1))), (5, (.dat ki64 (.v 5)))], [], 0⟩), (466, ⟨[], [(0, (.lz [ku32] (.v 0))), (1, (.lz [ku32] (.v 1))), (5, (.dat ki64 (.v 5)))], [], 0⟩)], []⟩,
 [(4, (.dat kb (.v 2)))], some t29, fun _ => none⟩
/-- loop.example/g00709/laws.eqMem -/
def t30 : Tr :=
(.nd (.call 29 [(.v 0), (.v 1)] [(.sl [ku32]), (.sl [ku32])] [kb])
(.nd (.pr .not [(.v 2)])
(.ite (.v 3)
 (.out 1 [(.k (.b false))])
 (.out 1 [(.k (.b true))]))))
def e30 : Fe := ⟨⟨58, [(.sl [ku32]), (.sl [ku32])], [(.agg [(.lz [ku32] (.v 0))]), (.agg [(.lz [ku32] (.v 1))])], [], [kb], [(.dat kb (.v 2))], [], 0⟩,
 ⟨[], []⟩,
 [(4, (.dat kb (.v 2)))], some t30, fun _ => none⟩
/-- loop.example/g00709/laws.markUint32S -/
def t31 : Tr :=
(.blk 2 [ki64, (.sl [ku32])]
 (.loop [ki64, ki64, (.sl [ku32])] [(.v 1), (.k (.i 0)), (.v 0)]
  (.nd (.pr (.len [ku32]) [(.v 5)])
  (.nd (.pr (.cmp .lss .i64) [(.v 4), (.v 6)])
  (.ite (.v 7)
   (.blk 3 [ki64, (.sl [ku32])]
    (.nd (.pr (.conv .i64 .u32) [(.v 3)])
    (.nd (.pr (.ixc .i64) [(.v 4), (.v 6)])
    (.nd (.pr (.set [ku32] 0) [(.v 5), (.v 9), (.v 8)])
    (.nd (.pr (.bin .add .i64) [(.v 3), (.k (.i 1))])
    (.out 0 [(.v 11), (.v 10)])))))
   (.nd (.pr (.len [ku32]) [(.v 9)])
   (.nd (.pr (.bin .add .i64) [(.v 4), (.k (.i 1))])
   (.out 0 [(.v 8), (.v 11), (.v 9)]))))
   (.out 2 [(.v 3), (.v 5)])))))
(.nd (.pr (.len [ku32]) [(.v 4)])
(.out 1 [(.v 3), (.v 4)])))
def e31 : Fe := ⟨⟨138, [(.sl [ku32]), ki64], [(.sl 0 (.k (.i 0)) (.v 2) 1), (.dat ki64 (.v 1))], [(0, (.arr [ku32] (.v 0) (.v 2)))], [ki64, (.sl [ku32])], [(.dat ki64 (.v 2))], [(0, (.arr [ku32] (.v 3) (.v 4)))], 1⟩,
 ⟨[(13, ⟨[ki64, (.sl [ku32])], [(1, (.dat ki64 (.v 3)))], [(0, (.arr [ku32] (.v 4) (.v 5)))], 1⟩), (26, ⟨[ki64, ki64, (.sl [ku32])], [(0, (.sl 0 (.k (.i 0)) (.v 6) 1)), (1, (.dat ki64 (.v 3))), (5, (.dat ki64 (.v 4)))], [(0, (.arr [ku32] (.v 5) (.v 6)))], 1⟩), (210, ⟨[ki64, (.sl [ku32])], [(0, (.sl 0 (.k (.i 0)) (.v 10) 1)), (1, (.dat ki64 (.v 8))), (5, (.dat ki64 (.v 4)))], [(0, (.arr [ku32] (.v 9) (.v 10)))], 1⟩)], []⟩,
 [(4, (.dat ki64 (.v 2)))], some t31, fun _ => none⟩
/-- loop.example/g00709/laws.markMem -/
def t32 : Tr :=
(.nd (.call 31 [(.v 0), (.v 1)] [(.sl [ku32]), ki64] [ki64, (.sl [ku32])])
(.nd (.pr (.len [ku32]) [(.v 4)])
(.out 1 [(.v 3), (.v 4)])))
def e32 : Fe := ⟨⟨59, [(.sl [ku32]), ki64], [(.agg [(.sl 0 (.k (.i 0)) (.v 2) 1)]), (.dat ki64 (.v 1))], [(0, (.arr [ku32] (.v 0) (.v 2)))], [ki64, (.sl [ku32])], [(.dat ki64 (.v 2))], [(0, (.arr [ku32] (.v 3) (.v 4)))], 1⟩,
 ⟨[], []⟩,
 [(4, (.dat ki64 (.v 2)))], some t32, fun _ => none⟩
/-- loop.example/g00709/laws.markUseS -/
def t33 : Tr :=
(.blk 2 [ki64, (.sl [ki64, ki64, ki64, ki64])]
 (.loop [ki64, ki64, (.sl [ki64, ki64, ki64, ki64])] [(.v 1), (.k (.i 0)), (.v 0)]
  (.nd (.pr (.len [ki64, ki64, ki64, ki64]) [(.v 5)])
  (.nd (.pr (.cmp .lss .i64) [(.v 4), (.v 6)])
  (.ite (.v 7)
   (.blk 3 [ki64, (.sl [ki64, ki64, ki64, ki64])]
    (.nd (.pr (.ixc .i64) [(.v 4), (.v 6)])
    (.nd (.pr (.set [ki64, ki64, ki64, ki64] 0) [(.v 5), (.v 8), (.v 3)])
    (.nd (.pr (.bin .add .i64) [(.v 3), (.k (.i 1))])
    (.nd (.pr (.ixc .i64) [(.v 4), (.v 6)])
    (.nd (.pr (.set [ki64, ki64, ki64, ki64] 1) [(.v 9), (.v 11), (.v 10)])
    (.nd (.pr (.bin .add .i64) [(.v 10), (.k (.i 1))])
    (.nd (.pr (.ixc .i64) [(.v 4), (.v 6)])
    (.nd (.pr (.set [ki64, ki64, ki64, ki64] 2) [(.v 12), (.v 14), (.v 13)])
    (.nd (.pr (.bin .add .i64) [(.v 13), (.k (.i 1))])
    (.nd (.pr (.ixc .i64) [(.v 4), (.v 6)])
    (.nd (.pr (.set [ki64, ki64, ki64, ki64] 3) [(.v 15), (.v 17), (.v 16)])
    (.nd (.pr (.bin .add .i64) [(.v 16), (.k (.i 1))])
    (.out 0 [(.v 19), (.v 18)])))))))))))))
   (.nd (.pr (.len [ki64, ki64, ki64, ki64]) [(.v 9)])
   (.nd (.pr (.bin .add .i64) [(.v 4), (.k (.i 1))])
   (.out 0 [(.v 8), (.v 11), (.v 9)]))))
   (.out 2 [(.v 3), (.v 5)])))))
(.nd (.pr (.len [ki64, ki64, ki64, ki64]) [(.v 4)])
(.out 1 [(.v 3), (.v 4)])))
def e33 : Fe := ⟨⟨60, [(.sl [ki64, ki64, ki64, ki64]), ki64], [(.sl 0 (.k (.i 0)) (.v 2) 4), (.dat ki64 (.v 1))], [(0, (.arr [ki64, ki64, ki64, ki64] (.v 0) (.v 2)))], [ki64, (.sl [ki64, ki64, ki64, ki64])], [(.dat ki64 (.v 2))], [(0, (.arr [ki64, ki64, ki64, ki64] (.v 3) (.v 4)))], 1⟩,
 ⟨[(13, ⟨[ki64, (.sl [ki64, ki64, ki64, ki64])], [(1, (.dat ki64 (.v 3)))], [(0, (.arr [ki64, ki64, ki64, ki64] (.v 4) (.v 5)))], 1⟩), (26, ⟨[ki64, ki64, (.sl [ki64, ki64, ki64, ki64])], [(0, (.sl 0 (.k (.i 0)) (.v 6) 4)), (1, (.dat ki64 (.v 3))), (5, (.dat ki64 (.v 4)))], [(0, (.arr [ki64, ki64, ki64, ki64] (.v 5) (.v 6)))], 1⟩), (210, ⟨[ki64, (.sl [ki64, ki64, ki64, ki64])], [(0, (.sl 0 (.k (.i 0)) (.v 10) 4)), (1, (.dat ki64 (.v 8))), (5, (.dat ki64 (.v 4)))], [(0, (.arr [ki64, ki64, ki64, ki64] (.v 9) (.v 10)))], 1⟩)], []⟩,
 [(4, (.dat ki64 (.v 2)))], some t33, fun _ => none⟩
/-- loop.example/g00709/laws.heldUseS -/
def t34 : Tr :=
(.blk 2 [ki64]
 (.loop [ki64, ki64] [(.v 1), (.k (.i 0))]
  (.nd (.pr (.len [ki64, ki64, ki64, ki64]) [(.v 0)])
  (.nd (.pr (.cmp .lss .i64) [(.v 3), (.v 4)])
  (.ite (.v 5)
   (.blk 3 [ki64]
    (.nd (.pr (.len [ki64, ki64, ki64, ki64]) [(.v 0)])
    (.nd (.pr (.ixc .i64) [(.v 3), (.v 6)])
    (.nd (.pr (.get [ki64, ki64, ki64, ki64] 0) [(.v 0), (.v 7)])
    (.nd (.pr (.cmp .neq .i64) [(.v 8), (.v 2)])
    (.ite (.v 9)
     (.out 1 [(.k (.i (-1)))])
     (.nd (.pr (.bin .add .i64) [(.v 2), (.k (.i 1))])
     (.nd (.pr (.len [ki64, ki64, ki64, ki64]) [(.v 0)])
     (.nd (.pr (.ixc .i64) [(.v 3), (.v 11)])
     (.nd (.pr (.get [ki64, ki64, ki64, ki64] 1) [(.v 0), (.v 12)])
     (.nd (.pr (.cmp .neq .i64) [(.v 13), (.v 10)])
     (.ite (.v 14)
      (.out 1 [(.k (.i (-1)))])
      (.nd (.pr (.bin .add .i64) [(.v 10), (.k (.i 1))])
      (.nd (.pr (.len [ki64, ki64, ki64, ki64]) [(.v 0)])
      (.nd (.pr (.ixc .i64) [(.v 3), (.v 16)])
      (.nd (.pr (.get [ki64, ki64, ki64, ki64] 2) [(.v 0), (.v 17)])
      (.nd (.pr (.cmp .neq .i64) [(.v 18), (.v 15)])
      (.ite (.v 19)
       (.out 1 [(.k (.i (-1)))])
       (.nd (.pr (.bin .add .i64) [(.v 15), (.k (.i 1))])
       (.nd (.pr (.len [ki64, ki64, ki64, ki64]) [(.v 0)])
       (.nd (.pr (.ixc .i64) [(.v 3), (.v 21)])
       (.nd (.pr (.get [ki64, ki64, ki64, ki64] 3) [(.v 0), (.v 22)])
       (.nd (.pr (.cmp .neq .i64) [(.v 23), (.v 20)])
       (.ite (.v 24)
        (.out 1 [(.k (.i (-1)))])
        (.nd (.pr (.bin .add .i64) [(.v 20), (.k (.i 1))])
        (.out 0 [(.v 25)])))))))))))))))))))))))))
   (.nd (.pr (.bin .add .i64) [(.v 3), (.k (.i 1))])
   (.out 0 [(.v 6), (.v 7)])))
   (.out 2 [(.v 2)])))))
(.out 1 [(.v 2)]))
def e34 : Fe := ⟨⟨61, [(.sl [ki64, ki64, ki64, ki64]), ki64], [(.lz [ki64, ki64, ki64, ki64] (.v 0)), (.dat ki64 (.v 1))], [], [ki64], [(.dat ki64 (.v 2))], [], 0⟩,
 ⟨[(13, ⟨[ki64], [(1, (.dat ki64 (.v 2)))], [], 0⟩), (26, ⟨[ki64, ki64], [(0, (.lz [ki64, ki64, ki64, ki64] (.v 0))), (1, (.dat ki64 (.v 2))), (5, (.dat ki64 (.v 3)))], [], 0⟩), (210, ⟨[ki64], [(0, (.lz [ki64, ki64, ki64, ki64] (.v 0))), (1, (.dat ki64 (.v 6))), (5, (.dat ki64 (.v 3)))], [], 0⟩)], []⟩,
 [(4, (.dat ki64 (.v 2)))], some t34, fun _ => none⟩
/-- loop.example/g00709/laws.FnExactUsesOf -/
def t35 : Tr :=
(.nd (.call 1 [(.v 0), (.k (.i 1048576))] [(.sl [ku32]), ki64] [ki64])
(.nd (.pr (.cmp .lss .i64) [(.v 1), (.k (.i 0))])
(.ite (.v 2)
 (.out 1 [(.k (.b true))])
 (.nd (.call 3 [(.v 0)] [(.sl [ku32])] [(.sl [ku32])])
 (.nd (.pr (.len [ku32]) [(.v 3)])
 (.nd (.call 14 [(.v 3)] [(.sl [ku32])] [(.sl [ki64, ki64, ki64, ki64])])
 (.nd (.pr (.len [ki64, ki64, ki64, ki64]) [(.v 5)])
 (.nd (.call 3 [(.v 0)] [(.sl [ku32])] [(.sl [ku32])])
 (.nd (.pr (.len [ku32]) [(.v 7)])
 (.nd (.call 26 [(.v 7)] [(.sl [ku32])] [(.sl [ki64, ki64, ki64, ki64])])
 (.nd (.pr (.len [ki64, ki64, ki64, ki64]) [(.v 9)])
 (.nd (.call 28 [(.v 9), (.v 5)] [(.sl [ki64, ki64, ki64, ki64]), (.sl [ki64, ki64, ki64, ki64])] [kb])
 (.nd (.pr .not [(.v 11)])
 (.ite (.v 12)
  (.out 1 [(.k (.b false))])
  (.nd (.call 3 [(.v 0)] [(.sl [ku32])] [(.sl [ku32])])
  (.nd (.pr (.len [ku32]) [(.v 13)])
  (.nd (.call 30 [(.v 7), (.v 13)] [(.sl [ku32]), (.sl [ku32])] [kb])
  (.nd (.pr .not [(.v 15)])
  (.ite (.v 16)
   (.out 1 [(.k (.b false))])
   (.nd (.call 32 [(.v 7), (.k (.i 1))] [(.sl [ku32]), ki64] [ki64, (.sl [ku32])])
   (.nd (.pr (.len [ku32]) [(.v 18)])
   (.seq [kb]
    (.nd (.pr (.cmp .lss .i64) [(.v 17), (.k (.i 0))])
    (.ite (.v 20)
     (.out 0 [(.k (.b true))])
     (.nd (.call 28 [(.v 9), (.v 5)] [(.sl [ki64, ki64, ki64, ki64]), (.sl [ki64, ki64, ki64, ki64])] [kb])
     (.nd (.pr .not [(.v 21)])
     (.out 0 [(.v 22)])))))
   (.nd (.pr (.len [ki64, ki64, ki64, ki64]) [(.v 5)])
   (.nd (.pr (.len [ki64, ki64, ki64, ki64]) [(.v 9)])
   (.ite (.v 20)
    (.out 1 [(.k (.b false))])
    (.nd (.call 33 [(.v 9), (.k (.i 1))] [(.sl [ki64, ki64, ki64, ki64]), ki64] [ki64, (.sl [ki64, ki64, ki64, ki64])])
    (.nd (.pr (.len [ki64, ki64, ki64, ki64]) [(.v 24)])
    (.nd (.pr .plus [(.k (.i 0)), (.v 22)])
    (.nd (.pr (.cut [ki64, ki64, ki64, ki64] .i64 .i64) [(.v 24), (.k (.i 0)), (.v 26)])
    (.nd (.call 34 [(.v 27), (.k (.i 1))] [(.sl [ki64, ki64, ki64, ki64]), ki64] [ki64])
    (.nd (.pr (.cmp .lss .i64) [(.v 28), (.k (.i 0))])
    (.ite (.v 29)
     (.out 1 [(.k (.b false))])
     (.nd (.pr (.cmp .neq .i64) [(.v 28), (.v 23)])
     (.ite (.v 30)
      (.out 1 [(.k (.b false))])
      (.nd (.call 3 [(.v 0)] [(.sl [ku32])] [(.sl [ku32])])
      (.nd (.pr (.len [ku32]) [(.v 31)])
      (.nd (.call 26 [(.v 31)] [(.sl [ku32])] [(.sl [ki64, ki64, ki64, ki64])])
      (.nd (.pr (.len [ki64, ki64, ki64, ki64]) [(.v 33)])
      (.nd (.call 28 [(.v 33), (.v 5)] [(.sl [ki64, ki64, ki64, ki64]), (.sl [ki64, ki64, ki64, ki64])] [kb])
      (.nd (.pr .not [(.v 35)])
      (.ite (.v 36)
       (.out 1 [(.k (.b false))])
       (.nd (.pr .plus [(.k (.i 0)), (.v 22)])
       (.nd (.pr (.cut [ki64, ki64, ki64, ki64] .i64 .i64) [(.v 24), (.k (.i 0)), (.v 37)])
       (.nd (.call 34 [(.v 38), (.k (.i 1))] [(.sl [ki64, ki64, ki64, ki64]), ki64] [ki64])
       (.nd (.pr (.cmp .lss .i64) [(.v 39), (.k (.i 0))])
       (.ite (.v 40)
        (.out 1 [(.k (.b false))])
        (.nd (.pr (.cmp .neq .i64) [(.v 39), (.v 23)])
        (.ite (.v 41)
         (.out 1 [(.k (.b false))])
         (.out 1 [(.k (.b true))])))))))))))))))))))))))))))))))))))))))))))))))))
def e35 : Fe := ⟨⟨9, [(.sl [ku32])], [(.agg [(.lz [ku32] (.v 0))])], [], [kb], [(.dat kb (.v 1))], [], 0⟩,
 ⟨[(8190, ⟨[kb], [(1, (.ptr 0 0)), (4, (.sl 1 (.k (.i 0)) (.v 21) 4)), (6, (.sl 2 (.k (.i 0)) (.v 22) 4)), (42, (.dat kb (.v 20)))], [(0, (.cells [(.lz [ku32] (.v 0))])), (1, (.arr [ki64, ki64, ki64, ki64] (.v 5) (.v 21))), (2, (.arr [ki64, ki64, ki64, ki64] (.v 9) (.v 22)))], 3⟩)], []⟩,
 [(2, (.dat kb (.v 1)))], some t35, fun _ => none⟩
def fes : List Fe := [e0, e1, e2, e3, e4, e5, e6, e7, e8, e9, e10, e11, e12, e13, e14, e15, e16, e17, e18, e19, e20, e21, e22, e23, e24, e25, e26, e27, e28, e29, e30, e31, e32, e33, e34, e35]
theorem tabOk : TabOk Try.prog tab := tabB_ok (by kernel_rfl)
theorem ok0 : e0.ok Try.prog tab (sigsOf fes) (kindsOf fes) = true := by kernel_rfl
theorem ok1 : e1.ok Try.prog tab (sigsOf fes) (kindsOf fes) = true := by kernel_rfl
theorem ok2 : e2.ok Try.prog tab (sigsOf fes) (kindsOf fes) = true := by kernel_rfl
theorem ok3 : e3.ok Try.prog tab (sigsOf fes) (kindsOf fes) = true := by kernel_rfl
theorem ok4 : e4.ok Try.prog tab (sigsOf fes) (kindsOf fes) = true := by kernel_rfl
theorem ok5 : e5.ok Try.prog tab (sigsOf fes) (kindsOf fes) = true := by kernel_rfl
theorem ok6 : e6.ok Try.prog tab (sigsOf fes) (kindsOf fes) = true := by kernel_rfl
theorem ok7 : e7.ok Try.prog tab (sigsOf fes) (kindsOf fes) = true := by kernel_rfl
theorem ok8 : e8.ok Try.prog tab (sigsOf fes) (kindsOf fes) = true := by kernel_rfl
theorem ok9 : e9.ok Try.prog tab (sigsOf fes) (kindsOf fes) = true := by kernel_rfl
theorem ok10 : e10.ok Try.prog tab (sigsOf fes) (kindsOf fes) = true := by kernel_rfl
theorem ok11 : e11.ok Try.prog tab (sigsOf fes) (kindsOf fes) = true := by kernel_rfl
theorem ok12 : e12.ok Try.prog tab (sigsOf fes) (kindsOf fes) = true := by kernel_rfl
theorem ok13 : e13.ok Try.prog tab (sigsOf fes) (kindsOf fes) = true := by kernel_rfl
theorem ok14 : e14.ok Try.prog tab (sigsOf fes) (kindsOf fes) = true := by kernel_rfl
theorem ok15 : e15.ok Try.prog tab (sigsOf fes) (kindsOf fes) = true := by kernel_rfl
theorem ok16 : e16.ok Try.prog tab (sigsOf fes) (kindsOf fes) = true := by kernel_rfl
theorem ok17 : e17.ok Try.prog tab (sigsOf fes) (kindsOf fes) = true := by kernel_rfl
theorem ok18 : e18.ok Try.prog tab (sigsOf fes) (kindsOf fes) = true := by kernel_rfl
theorem ok19 : e19.ok Try.prog tab (sigsOf fes) (kindsOf fes) = true := by kernel_rfl
theorem ok20 : e20.ok Try.prog tab (sigsOf fes) (kindsOf fes) = true := by kernel_rfl
theorem ok21 : e21.ok Try.prog tab (sigsOf fes) (kindsOf fes) = true := by kernel_rfl
theorem ok22 : e22.ok Try.prog tab (sigsOf fes) (kindsOf fes) = true := by kernel_rfl
theorem ok23 : e23.ok Try.prog tab (sigsOf fes) (kindsOf fes) = true := by kernel_rfl
theorem ok24 : e24.ok Try.prog tab (sigsOf fes) (kindsOf fes) = true := by kernel_rfl
theorem ok25 : e25.ok Try.prog tab (sigsOf fes) (kindsOf fes) = true := by kernel_rfl
theorem ok26 : e26.ok Try.prog tab (sigsOf fes) (kindsOf fes) = true := by kernel_rfl
theorem ok27 : e27.ok Try.prog tab (sigsOf fes) (kindsOf fes) = true := by kernel_rfl
theorem ok28 : e28.ok Try.prog tab (sigsOf fes) (kindsOf fes) = true := by kernel_rfl
theorem ok29 : e29.ok Try.prog tab (sigsOf fes) (kindsOf fes) = true := by kernel_rfl
theorem ok30 : e30.ok Try.prog tab (sigsOf fes) (kindsOf fes) = true := by kernel_rfl
theorem ok31 : e31.ok Try.prog tab (sigsOf fes) (kindsOf fes) = true := by kernel_rfl
theorem ok32 : e32.ok Try.prog tab (sigsOf fes) (kindsOf fes) = true := by kernel_rfl
theorem ok33 : e33.ok Try.prog tab (sigsOf fes) (kindsOf fes) = true := by kernel_rfl
theorem ok34 : e34.ok Try.prog tab (sigsOf fes) (kindsOf fes) = true := by kernel_rfl
theorem ok35 : e35.ok Try.prog tab (sigsOf fes) (kindsOf fes) = true := by kernel_rfl
theorem fesOk : FeL Try.prog tab fes 0 fes := ⟨ok0, ok1, ok2, ok3, ok4, ok5, ok6, ok7, ok8, ok9, ok10, ok11, ok12, ok13, ok14, ok15, ok16, ok17, ok18, ok19, ok20, ok21, ok22, ok23, ok24, ok25, ok26, ok27, ok28, ok29, ok30, ok31, ok32, ok33, ok34, ok35, trivial⟩
end Go.Proofs.Ytaaglpobmdpdlaa.UsesOf
