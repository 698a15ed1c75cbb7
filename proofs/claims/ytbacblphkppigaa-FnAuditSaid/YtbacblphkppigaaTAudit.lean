/- What the functions behind FnAudit compute, as trees; that they do is checked by the kernel. Printed by bench/Bench.lean. -/
import Derived.Test.YtbacblphkppigaaB33
import Derived.Test.YtbacblphkppigaaProg
set_option maxRecDepth 100000
set_option linter.unusedVariables false
namespace Go.Proofs.Ytbacblphkppigaa.Audit
open Go.BH
def tab : TyTab := [(3, ⟨1, 8, false, (.int .i64), [(.int .i64 (0))], [ki64], false⟩),
 (4, ⟨1, 1, false, .bool, [(.bool false)], [kb], false⟩),
 (5, ⟨1, 1, false, (.int .u8), [(.int .u8 (0))], [ku8], false⟩),
 (22, ⟨1, 24, false, (.slice 5), [(.slice none 0 0)], [(.sl [ku8])], false⟩),
 (27, ⟨1, 24, false, (.slice 3), [(.slice none 0 0)], [(.sl [ki64])], false⟩),
 (45, ⟨2, 32, true, (.struct [(3, 0), (27, 1)]), [(.int .i64 (0)), (.slice none 0 0)], [ki64, (.sl [ki64])], false⟩),
 (65, ⟨1, 24, false, (.slice 85), [(.slice none 0 0)], [(.sl [ku32])], false⟩),
 (67, ⟨1, 24, true, (.struct [(65, 0)]), [(.slice none 0 0)], [(.sl [ku32])], false⟩),
 (78, ⟨1, 24, false, (.slice 82), [(.slice none 0 0)], [(.sl [ki64, ki64])], false⟩),
 (82, ⟨2, 16, true, (.struct [(3, 0), (3, 1)]), [(.int .i64 (0)), (.int .i64 (0))], [ki64, ki64], true⟩),
 (85, ⟨1, 4, false, (.int .u32), [(.int .u32 (0))], [ku32], false⟩),
 (89, ⟨1, 24, false, (.slice 135), [(.slice none 0 0)], [(.sl [ki64, (.sl [ki64]), (.sl [ki64]), ku32, ki64, ki64, ki64, ku32])], false⟩),
 (91, ⟨2, 48, true, (.struct [(67, 0), (89, 1)]), [(.slice none 0 0), (.slice none 0 0)], [(.sl [ku32]), (.sl [ki64, (.sl [ki64]), (.sl [ki64]), ku32, ki64, ki64, ki64, ku32])], false⟩),
 (106, ⟨1, 8, false, .other, [(.pointer none)], [], false⟩),
 (123, ⟨4, 32, true, (.struct [(3, 0), (3, 1), (85, 2), (3, 3)]), [(.int .i64 (0)), (.int .i64 (0)), (.int .u32 (0)), (.int .i64 (0))], [ki64, ki64, ku32, ki64], true⟩),
 (130, ⟨1, 8, false, .other, [.nilFunc], [], false⟩),
 (135, ⟨8, 96, true, (.struct [(3, 0), (27, 1), (27, 2), (85, 3), (3, 4), (3, 5), (3, 6), (85, 7)]), [(.int .i64 (0)), (.slice none 0 0), (.slice none 0 0), (.int .u32 (0)), (.int .i64 (0)), (.int .i64 (0)), (.int .i64 (0)), (.int .u32 (0))], [ki64, (.sl [ki64]), (.sl [ki64]), ku32, ki64, ki64, ki64, ku32], false⟩),
 (139, ⟨3, 40, true, (.struct [(22, 0), (3, 1), (3, 2)]), [(.slice none 0 0), (.int .i64 (0)), (.int .i64 (0))], [(.sl [ku8]), ki64, ki64], false⟩),
 (149, ⟨1, 8, false, (.int .u64), [(.int .u64 (0))], [ku64], false⟩),
 (178, ⟨1, 24, false, (.slice 190), [(.slice none 0 0)], [(.sl [ki64, ki64, ki64, ki64, ki64])], false⟩),
 (190, ⟨5, 40, true, (.struct [(3, 0), (3, 1), (3, 2), (3, 3), (3, 4)]), [(.int .i64 (0)), (.int .i64 (0)), (.int .i64 (0)), (.int .i64 (0)), (.int .i64 (0))], [ki64, ki64, ki64, ki64, ki64], true⟩)]
/-- loop.example/g00709/laws.big -/
def t0 : Tr :=
(.nd (.pr (.len [ku8]) [(.v 0)])
(.nd (.pr (.cmp .gtr .i64) [(.v 1), (.k (.i 1048576))])
(.out 1 [(.v 2)])))
def e0 : Fe := ⟨⟨13, [(.sl [ku8])], [(.dat (.sl [ku8]) (.v 0))], [], [kb], [(.dat kb (.v 1))], [], 0⟩,
 ⟨[], []⟩,
 [(2, (.dat kb (.v 1)))], some t0, fun _ => none⟩
/-- loop.example/g00709/spec.l01Open -/
def t1 : Tr :=
(.nd (.pr (.len [ku8]) [(.v 0)])
(.nd (.pr (.bin .rem .i64) [(.v 1), (.k (.i 1000))])
(.nd (.pr (.bin .add .i64) [(.k (.i 107)), (.v 2)])
(.out 1 [(.v 3)]))))
def e1 : Fe := ⟨⟨77, [(.sl [ku8])], [(.dat (.sl [ku8]) (.v 0))], [], [ki64], [(.ptr 0 0)], [(0, (.cells [(.dat (.sl [ku8]) (.v 0)), (.dat ki64 (.k (.i 0))), (.dat ki64 (.v 1))]))], 1⟩,
 ⟨[], []⟩,
 [(2, (.ptr 0 0))], some t1, fun _ => none⟩
/-- (*loop.example/g00709/spec.l01Cur).pick -/
def t2 : Tr :=
(.nd (.pr (.cmp .lss .i64) [(.v 3), (.k (.i 2))])
(.ite (.v 4)
 (.out 1 [(.k (.i 0)), (.v 1), (.v 2)])
 (.seq [ki64, ki64]
  (.nd (.pr (.len [ku8]) [(.v 0)])
  (.nd (.pr (.cmp .lss .i64) [(.v 1), (.v 5)])
  (.ite (.v 6)
   (.nd (.pr (.len [ku8]) [(.v 0)])
   (.nd (.pr (.ixc .i64) [(.v 1), (.v 7)])
   (.nd (.pr (.get [ku8] 0) [(.v 0), (.v 8)])
   (.nd (.pr (.conv .u8 .i64) [(.v 9)])
   (.out 0 [(.v 10), (.v 2)])))))
   (.nd (.pr (.bin .mul .i64) [(.v 2), (.k (.i 1103))])
   (.nd (.pr (.bin .add .i64) [(.v 7), (.k (.i 12345))])
   (.nd (.pr (.bin .rem .i64) [(.v 8), (.k (.i 65521))])
   (.nd (.pr (.len [ku8]) [(.v 0)])
   (.nd (.pr (.cmp .gtr .i64) [(.v 10), (.k (.i 0))])
   (.ite (.v 11)
    (.nd (.pr (.bin .quo .i64) [(.v 9), (.k (.i 7))])
    (.nd (.pr (.len [ku8]) [(.v 0)])
    (.nd (.pr (.bin .rem .i64) [(.v 1), (.v 13)])
    (.nd (.pr (.len [ku8]) [(.v 0)])
    (.nd (.pr (.ixc .i64) [(.v 14), (.v 15)])
    (.nd (.pr (.get [ku8] 0) [(.v 0), (.v 16)])
    (.nd (.pr (.conv .u8 .i64) [(.v 17)])
    (.nd (.pr (.bin .add .i64) [(.v 12), (.v 18)])
    (.out 0 [(.v 19), (.v 9)])))))))))
    (.out 0 [(.k (.i 0)), (.v 9)]))))))))))
 (.nd (.pr (.bin .add .i64) [(.v 1), (.k (.i 1))])
 (.nd (.pr (.bin .rem .i64) [(.v 5), (.v 3)])
 (.out 1 [(.v 8), (.v 7), (.v 6)]))))))
def e2 : Fe := ⟨⟨118, [(.sl [ku8]), ki64, ki64, ki64], [(.ptr 0 0), (.dat ki64 (.v 3))], [(0, (.cells [(.dat (.sl [ku8]) (.v 0)), (.dat ki64 (.v 1)), (.dat ki64 (.v 2))]))], [ki64, ki64, ki64], [(.dat ki64 (.v 4))], [(0, (.cells [(.dat (.sl [ku8]) (.v 0)), (.dat ki64 (.v 5)), (.dat ki64 (.v 6))]))], 1⟩,
 ⟨[(15, ⟨[ki64, ki64], [(0, (.ptr 0 0)), (1, (.dat ki64 (.v 3))), (5, (.dat ki64 (.v 5)))], [(0, (.cells [(.dat (.sl [ku8]) (.v 0)), (.dat ki64 (.v 1)), (.dat ki64 (.v 6))]))], 1⟩)], []⟩,
 [(4, (.dat ki64 (.v 4)))], some t2, fun _ => none⟩
/-- loop.example/g00709/spec.MemNew -/
def t3 : Tr :=
(.seq [kb]
 (.nd (.pr (.cmp .lss .i64) [(.v 0), (.k (.i 0))])
 (.ite (.v 1)
  (.out 0 [(.k (.b true))])
  (.nd (.pr (.cmp .gtr .i64) [(.v 0), (.k (.i 64))])
  (.out 0 [(.v 2)]))))
(.ite (.v 1)
 (.out 1 [(.k (.b false)), (.k (.l []))])
 (.nd (.pr (.mkz [ku32] .i64 4 [(.i 0)]) [(.v 0)])
 (.nd (.pr (.len [ku32]) [(.v 2)])
 (.out 1 [(.k (.b true)), (.v 2)])))))
def e3 : Fe := ⟨⟨178, [ki64], [(.dat ki64 (.v 0))], [], [kb, (.sl [ku32])], [(.agg [(.sl 1 (.k (.i 0)) (.v 3) 1)]), (.dat kb (.v 1))], [(0, (.cells [(.sl 1 (.k (.i 0)) (.v 3) 1)])), (1, (.arr [ku32] (.v 2) (.v 3)))], 2⟩,
 ⟨[(6, ⟨[kb], [(0, (.dat ki64 (.v 0))), (2, (.ptr 0 0)), (9, (.dat kb (.v 1)))], [(0, (.cells [.nilS]))], 1⟩)], []⟩,
 [(2, (.ptr 0 0)), (3, (.dat kb (.v 1)))], some t3, fun _ => none⟩
/-- loop.example/g00709/spec.l07Row -/
def t4 : Tr :=
(.blk 2 [(.sl [ki64])]
 (.loop [ki64, (.sl [ki64])] [(.k (.i 0)), (.k (.l []))]
  (.nd (.pr (.len [ki64]) [(.v 2)])
  (.nd (.pr (.cmp .lss .i64) [(.v 1), (.k (.i 8))])
  (.ite (.v 4)
   (.blk 3 [(.sl [ki64])]
    (.nd (.pr (.mk [ki64] 1) [(.v 0)])
    (.nd (.pr (.app [ki64] 8) [(.v 2), (.v 5)])
    (.nd (.pr (.len [ki64]) [(.v 6)])
    (.out 0 [(.v 6)]))))
   (.nd (.pr (.len [ki64]) [(.v 5)])
   (.nd (.pr (.bin .add .i64) [(.v 1), (.k (.i 1))])
   (.out 0 [(.v 7), (.v 5)]))))
   (.out 2 [(.v 2)])))))
(.nd (.pr (.len [ki64]) [(.v 1)])
(.out 1 [(.v 1)])))
def e4 : Fe := ⟨⟨174, [ki64], [(.dat ki64 (.v 0))], [], [(.sl [ki64])], [(.sl 0 (.k (.i 0)) (.v 2) 1)], [(0, (.arr [ki64] (.v 1) (.v 2)))], 1⟩,
 ⟨[(29, ⟨[(.sl [ki64])], [(3, (.sl 0 (.k (.i 0)) (.v 2) 1))], [(0, (.arr [ki64] (.v 1) (.v 2)))], 1⟩), (58, ⟨[ki64, (.sl [ki64])], [(0, (.dat ki64 (.v 0))), (3, (.sl 0 (.k (.i 0)) (.v 3) 1)), (4, (.dat ki64 (.v 1)))], [(0, (.arr [ki64] (.v 2) (.v 3)))], 1⟩), (466, ⟨[(.sl [ki64])], [(0, (.dat ki64 (.v 0))), (3, (.sl 0 (.k (.i 0)) (.v 6) 1)), (4, (.dat ki64 (.v 1)))], [(0, (.arr [ki64] (.v 5) (.v 6)))], 1⟩)], []⟩,
 [(2, (.sl 0 (.k (.i 0)) (.v 2) 1))], some t4, fun _ => none⟩
/-- loop.example/g00709/spec.WarpNew -/
def t5 : Tr :=
(.nd (.call 4 [(.k (.i (-1)))] [ki64] [(.sl [ki64])])
(.nd (.pr (.len [ki64]) [(.v 0)])
(.nd (.call 4 [(.k (.i (-1)))] [ki64] [(.sl [ki64])])
(.nd (.pr (.len [ki64]) [(.v 2)])
(.out 1 [(.v 0), (.v 2)])))))
def e5 : Fe := ⟨⟨145, [], [], [], [(.sl [ki64]), (.sl [ki64])], [(.agg [(.dat ki64 (.k (.i 0))), (.sl 1 (.k (.i 0)) (.v 2) 1), (.sl 2 (.k (.i 0)) (.v 3) 1), (.dat ku32 (.k (.i 0))), (.dat ki64 (.k (.i 0))), (.dat ki64 (.k (.i 0))), (.dat ki64 (.k (.i 0))), (.dat ku32 (.k (.i 0)))])], [(0, (.cells [(.dat ki64 (.k (.i 0))), (.sl 1 (.k (.i 0)) (.v 2) 1), (.sl 2 (.k (.i 0)) (.v 3) 1), (.dat ku32 (.k (.i 0))), (.dat ki64 (.k (.i 0))), (.dat ki64 (.k (.i 0))), (.dat ki64 (.k (.i 0))), (.dat ku32 (.k (.i 0)))])), (1, (.arr [ki64] (.v 0) (.v 2))), (2, (.arr [ki64] (.v 1) (.v 3)))], 3⟩,
 ⟨[], []⟩,
 [(0, (.ptr 0 0))], some t5, fun _ => none⟩
/-- (*loop.example/g00709/spec.l01Cur).size -/
def t6 : Tr :=
(.nd (.pr (.len [ku8]) [(.v 0)])
(.nd (.pr (.bin .quo .i64) [(.v 4), (.k (.i 8))])
(.nd (.pr (.bin .add .i64) [(.k (.i 1)), (.v 5)])
(.nd (.pr (.mn .i64) [(.v 3), (.v 6)])
(.nd (.pr (.bin .add .i64) [(.v 7), (.k (.i 1))])
(.nd (.call 2 [(.v 0), (.v 1), (.v 2), (.v 8)] [(.sl [ku8]), ki64, ki64, ki64] [ki64, ki64, ki64])
(.out 1 [(.v 9), (.v 10), (.v 11)])))))))
def e6 : Fe := ⟨⟨164, [(.sl [ku8]), ki64, ki64, ki64], [(.ptr 0 0), (.dat ki64 (.v 3))], [(0, (.cells [(.dat (.sl [ku8]) (.v 0)), (.dat ki64 (.v 1)), (.dat ki64 (.v 2))]))], [ki64, ki64, ki64], [(.dat ki64 (.v 4))], [(0, (.cells [(.dat (.sl [ku8]) (.v 0)), (.dat ki64 (.v 5)), (.dat ki64 (.v 6))]))], 1⟩,
 ⟨[], []⟩,
 [(4, (.dat ki64 (.v 4)))], some t6, fun _ => none⟩
/-- (*loop.example/g00709/spec.l01Cur).raw -/
def t7 : Tr :=
(.nd (.call 2 [(.v 0), (.v 1), (.v 2), (.k (.i 8))] [(.sl [ku8]), ki64, ki64, ki64] [ki64, ki64, ki64])
(.blk 2 []
 (.nd (.pr (.cmp .eql .i64) [(.v 3), (.k (.i 0))])
 (.ite (.v 6)
  (.nd (.call 2 [(.v 0), (.v 4), (.v 5), (.k (.i 256))] [(.sl [ku8]), ki64, ki64, ki64] [ki64, ki64, ki64])
  (.nd (.pr (.bin .sub .i64) [(.v 7), (.k (.i 128))])
  (.out 1 [(.v 10), (.v 8), (.v 9)])))
  (.nd (.pr (.cmp .eql .i64) [(.v 3), (.k (.i 1))])
  (.ite (.v 7)
   (.nd (.pr (.mk [ki64] 8) [(.k (.i 9223372036854775807)), (.k (.i (-9223372036854775808))), (.k (.i 4611686018427387904)), (.k (.i 4294967295)), (.k (.i 4294967296)), (.k (.i (-1000))), (.k (.i 1000)), (.k (.i 64))])
   (.nd (.call 2 [(.v 0), (.v 4), (.v 5), (.k (.i 8))] [(.sl [ku8]), ki64, ki64, ki64] [ki64, ki64, ki64])
   (.nd (.pr (.ixc .i64) [(.v 9), (.k (.i 8))])
   (.nd (.pr (.get [ki64] 0) [(.v 8), (.v 12)])
   (.out 1 [(.v 13), (.v 10), (.v 11)])))))
   (.out 0 [])))))
(.nd (.call 2 [(.v 0), (.v 4), (.v 5), (.k (.i 14))] [(.sl [ku8]), ki64, ki64, ki64] [ki64, ki64, ki64])
(.nd (.pr (.bin .sub .i64) [(.v 6), (.k (.i 3))])
(.out 1 [(.v 9), (.v 7), (.v 8)])))))
def e7 : Fe := ⟨⟨119, [(.sl [ku8]), ki64, ki64], [(.ptr 0 0)], [(0, (.cells [(.dat (.sl [ku8]) (.v 0)), (.dat ki64 (.v 1)), (.dat ki64 (.v 2))]))], [ki64, ki64, ki64], [(.dat ki64 (.v 3))], [(0, (.cells [(.dat (.sl [ku8]) (.v 0)), (.dat ki64 (.v 4)), (.dat ki64 (.v 5))]))], 1⟩,
 ⟨[(13, ⟨[], [(0, (.ptr 0 0))], [(0, (.cells [(.dat (.sl [ku8]) (.v 0)), (.dat ki64 (.v 4)), (.dat ki64 (.v 5))]))], 1⟩)], []⟩,
 [(2, (.dat ki64 (.v 3)))], some t7, fun _ => none⟩
/-- (*loop.example/g00709/spec.l01Cur).req -/
def t8 : Tr :=
(.nd (.call 2 [(.v 0), (.v 1), (.v 2), (.k (.i 2))] [(.sl [ku8]), ki64, ki64, ki64] [ki64, ki64, ki64])
(.nd (.pr (.bin .add .i64) [(.k (.i 1)), (.v 3)])
(.blk 2 [ki64, ki64, (.sl [ki64])]
 (.loop [ki64, ki64, ki64, (.sl [ki64])] [(.k (.i 0)), (.v 4), (.v 5), (.k (.l []))]
  (.nd (.pr (.len [ki64]) [(.v 10)])
  (.nd (.pr (.cmp .lss .i64) [(.v 7), (.k (.i 8))])
  (.ite (.v 12)
   (.blk 3 [ki64, ki64, (.sl [ki64])]
    (.nd (.call 2 [(.v 0), (.v 8), (.v 9), (.k (.i 16))] [(.sl [ku8]), ki64, ki64, ki64] [ki64, ki64, ki64])
    (.nd (.pr (.bin .add .i64) [(.k (.i 1)), (.v 13)])
    (.nd (.call 2 [(.v 0), (.v 14), (.v 15), (.k (.i 4))] [(.sl [ku8]), ki64, ki64, ki64] [ki64, ki64, ki64])
    (.nd (.pr (.bin .add .i64) [(.k (.i 1)), (.v 17)])
    (.nd (.call 2 [(.v 0), (.v 18), (.v 19), (.k (.i 40))] [(.sl [ku8]), ki64, ki64, ki64] [ki64, ki64, ki64])
    (.nd (.pr (.bin .add .i64) [(.k (.i 17)), (.v 21)])
    (.nd (.pr (.mk [ki64] 4) [(.k (.i 0)), (.v 16), (.v 20), (.v 24)])
    (.nd (.call 2 [(.v 0), (.v 22), (.v 23), (.k (.i 4))] [(.sl [ku8]), ki64, ki64, ki64] [ki64, ki64, ki64])
    (.nd (.pr (.ixc .i64) [(.v 26), (.k (.i 4))])
    (.nd (.pr (.get [ki64] 0) [(.v 25), (.v 29)])
    (.seq [ki64, ki64, ki64]
     (.nd (.pr (.cmp .eql .i64) [(.v 6), (.k (.i 2))])
     (.ite (.v 31)
      (.nd (.call 2 [(.v 0), (.v 27), (.v 28), (.k (.i 6))] [(.sl [ku8]), ki64, ki64, ki64] [ki64, ki64, ki64])
      (.nd (.pr (.bin .mul .i64) [(.k (.i 16)), (.v 32)])
      (.nd (.call 2 [(.v 0), (.v 33), (.v 34), (.k (.i 24))] [(.sl [ku8]), ki64, ki64, ki64] [ki64, ki64, ki64])
      (.nd (.pr (.bin .mul .i64) [(.k (.i 4)), (.v 36)])
      (.nd (.call 2 [(.v 0), (.v 37), (.v 38), (.k (.i 100))] [(.sl [ku8]), ki64, ki64, ki64] [ki64, ki64, ki64])
      (.nd (.pr (.mk [ki64] 4) [(.k (.i (-1))), (.v 35), (.v 39), (.v 40)])
      (.nd (.call 2 [(.v 0), (.v 41), (.v 42), (.k (.i 4))] [(.sl [ku8]), ki64, ki64, ki64] [ki64, ki64, ki64])
      (.nd (.pr (.ixc .i64) [(.v 44), (.k (.i 4))])
      (.nd (.pr (.get [ki64] 0) [(.v 43), (.v 47)])
      (.out 0 [(.v 48), (.v 45), (.v 46)]))))))))))
      (.out 0 [(.v 30), (.v 27), (.v 28)])))
    (.nd (.pr (.len [ki64]) [(.v 10)])
    (.nd (.pr (.mk [ki64] 1) [(.v 31)])
    (.nd (.pr (.app [ki64] 8) [(.v 10), (.v 35)])
    (.nd (.pr (.len [ki64]) [(.v 36)])
    (.out 0 [(.v 32), (.v 33), (.v 36)]))))))))))))))))
   (.nd (.pr (.len [ki64]) [(.v 15)])
   (.nd (.pr (.bin .add .i64) [(.v 7), (.k (.i 1))])
   (.out 0 [(.v 17), (.v 13), (.v 14), (.v 15)]))))
   (.out 2 [(.v 8), (.v 9), (.v 10)])))))
(.nd (.pr (.len [ki64]) [(.v 9)])
(.nd (.call 2 [(.v 0), (.v 7), (.v 8), (.k (.i 16))] [(.sl [ku8]), ki64, ki64, ki64] [ki64, ki64, ki64])
(.blk 4 [ki64, ki64, ki64, (.sl [ki64])]
 (.nd (.pr (.cmp .eql .i64) [(.v 11), (.k (.i 0))])
 (.ite (.v 14)
  (.nd (.call 7 [(.v 0), (.v 12), (.v 13)] [(.sl [ku8]), ki64, ki64] [ki64, ki64, ki64])
  (.out 0 [(.v 16), (.v 17), (.v 15), (.v 9)]))
  (.nd (.pr (.cmp .eql .i64) [(.v 11), (.k (.i 1))])
  (.ite (.v 15)
   (.nd (.call 2 [(.v 0), (.v 12), (.v 13), (.k (.i 8))] [(.sl [ku8]), ki64, ki64, ki64] [ki64, ki64, ki64])
   (.nd (.call 7 [(.v 0), (.v 17), (.v 18)] [(.sl [ku8]), ki64, ki64] [ki64, ki64, ki64])
   (.nd (.pr (.mk [ki64] 5) [(.v 19), (.k (.i 256)), (.k (.i 257)), (.k (.i 4095)), (.k (.i 4096))])
   (.nd (.call 2 [(.v 0), (.v 20), (.v 21), (.k (.i 5))] [(.sl [ku8]), ki64, ki64, ki64] [ki64, ki64, ki64])
   (.nd (.pr (.ixc .i64) [(.v 23), (.k (.i 5))])
   (.nd (.pr (.get [ki64] 0) [(.v 22), (.v 26)])
   (.nd (.pr (.ixc .i64) [(.v 16), (.v 10)])
   (.nd (.pr (.set [ki64] 0) [(.v 9), (.v 28), (.v 27)])
   (.out 0 [(.v 24), (.v 25), (.v 6), (.v 29)])))))))))
   (.nd (.pr (.cmp .eql .i64) [(.v 11), (.k (.i 2))])
   (.ite (.v 16)
    (.nd (.pr (.rng .i64 .i64) [(.k (.i 0)), (.k (.i 7)), (.v 10)])
    (.nd (.pr (.cut [ki64] .i64 .i64) [(.v 9), (.k (.i 0)), (.k (.i 7))])
    (.out 0 [(.v 12), (.v 13), (.v 6), (.v 18)])))
    (.out 0 [(.v 12), (.v 13), (.v 6), (.v 9)])))))))
(.nd (.pr (.len [ki64]) [(.v 17)])
(.out 1 [(.v 14), (.v 15), (.v 16), (.v 17)]))))))))
def e8 : Fe := ⟨⟨120, [(.sl [ku8]), ki64, ki64], [(.ptr 0 0)], [(0, (.cells [(.dat (.sl [ku8]) (.v 0)), (.dat ki64 (.v 1)), (.dat ki64 (.v 2))]))], [ki64, ki64, ki64, (.sl [ki64])], [(.agg [(.dat ki64 (.v 5)), (.sl 2 (.k (.i 0)) (.v 7) 1)])], [(0, (.cells [(.dat (.sl [ku8]) (.v 0)), (.dat ki64 (.v 3)), (.dat ki64 (.v 4))])), (1, (.cells [(.dat ki64 (.v 5)), (.sl 2 (.k (.i 0)) (.v 7) 1)])), (2, (.arr [ki64] (.v 6) (.v 7)))], 3⟩,
 ⟨[(61, ⟨[ki64, ki64, ki64, (.sl [ki64])], [(2, (.ptr 1 0)), (3, (.ptr 2 0))], [(0, (.cells [(.dat (.sl [ku8]) (.v 0)), (.dat ki64 (.v 14)), (.dat ki64 (.v 15))])), (1, (.cells [(.dat ki64 (.k (.i 0))), .nilS])), (2, (.cells [(.dat ki64 (.v 16)), (.sl 3 (.k (.i 0)) (.v 18) 1)])), (3, (.arr [ki64] (.v 17) (.v 18)))], 4⟩), (29, ⟨[ki64, ki64, (.sl [ki64])], [(0, (.ptr 0 0)), (2, (.ptr 1 0)), (3, (.ptr 2 0))], [(0, (.cells [(.dat (.sl [ku8]) (.v 0)), (.dat ki64 (.v 7)), (.dat ki64 (.v 8))])), (1, (.cells [(.dat ki64 (.k (.i 0))), .nilS])), (2, (.cells [(.dat ki64 (.v 6)), (.sl 3 (.k (.i 0)) (.v 10) 1)])), (3, (.arr [ki64] (.v 9) (.v 10)))], 4⟩), (58, ⟨[ki64, ki64, ki64, (.sl [ki64])], [(0, (.ptr 0 0)), (2, (.ptr 1 0)), (3, (.ptr 2 0)), (4, (.dat ki64 (.v 7)))], [(0, (.cells [(.dat (.sl [ku8]) (.v 0)), (.dat ki64 (.v 8)), (.dat ki64 (.v 9))])), (1, (.cells [(.dat ki64 (.k (.i 0))), .nilS])), (2, (.cells [(.dat ki64 (.v 6)), (.sl 3 (.k (.i 0)) (.v 11) 1)])), (3, (.arr [ki64] (.v 10) (.v 11)))], 4⟩), (466, ⟨[ki64, ki64, (.sl [ki64])], [(0, (.ptr 0 0)), (2, (.ptr 1 0)), (3, (.ptr 2 0)), (4, (.dat ki64 (.v 7)))], [(0, (.cells [(.dat (.sl [ku8]) (.v 0)), (.dat ki64 (.v 13)), (.dat ki64 (.v 14))])), (1, (.cells [(.dat ki64 (.k (.i 0))), .nilS])), (2, (.cells [(.dat ki64 (.v 6)), (.sl 3 (.k (.i 0)) (.v 16) 1)])), (3, (.arr [ki64] (.v 15) (.v 16)))], 4⟩), (1865, ⟨[ki64, ki64, ki64], [(0, (.ptr 0 0)), (2, (.ptr 1 0)), (3, (.ptr 2 0)), (4, (.dat ki64 (.v 7))), (5, (.dat ki64 (.v 31)))], [(0, (.cells [(.dat (.sl [ku8]) (.v 0)), (.dat ki64 (.v 32)), (.dat ki64 (.v 33))])), (1, (.cells [(.dat ki64 (.k (.i 0))), .nilS])), (2, (.cells [(.dat ki64 (.v 6)), (.sl 3 (.k (.i 0)) (.v 34) 1)])), (3, (.arr [ki64] (.v 10) (.v 34)))], 4⟩)], [(0, [1]), (1966, [3, 0])]⟩,
 [(2, (.ptr 1 0))], some t8, fun _ => none⟩
/-- loop.example/g00709/spec.l03Row -/
def t9 : Tr :=
(.nd (.pr (.len [ki64]) [(.v 0)])
(.nd (.pr (.cmp .eql .i64) [(.v 1), (.k (.i 8))])
(.out 1 [(.v 2)])))
def e9 : Fe := ⟨⟨147, [(.sl [ki64])], [(.lz [ki64] (.v 0))], [], [kb], [(.dat kb (.v 1))], [], 0⟩,
 ⟨[], []⟩,
 [(2, (.dat kb (.v 1)))], some t9, fun _ => none⟩
/-- loop.example/g00709/spec.l01Bits -/
def t10 : Tr :=
(.blk 2 [(.sl [ki64])]
 (.loop [ku32, ki64, (.sl [ki64])] [(.v 0), (.k (.i 0)), (.k (.l []))]
  (.nd (.pr (.len [ki64]) [(.v 3)])
  (.nd (.pr (.cmp .lss .i64) [(.v 2), (.k (.i 32))])
  (.ite (.v 5)
   (.blk 3 [ku32, (.sl [ki64])]
    (.nd (.pr (.bin .rem .u32) [(.v 1), (.k (.i 2))])
    (.nd (.pr (.conv .u32 .i64) [(.v 6)])
    (.nd (.pr (.mk [ki64] 1) [(.v 7)])
    (.nd (.pr (.app [ki64] 8) [(.v 3), (.v 8)])
    (.nd (.pr (.len [ki64]) [(.v 9)])
    (.nd (.pr (.bin .quo .u32) [(.v 1), (.k (.i 2))])
    (.out 0 [(.v 11), (.v 9)])))))))
   (.nd (.pr (.len [ki64]) [(.v 7)])
   (.nd (.pr (.bin .add .i64) [(.v 2), (.k (.i 1))])
   (.out 0 [(.v 6), (.v 9), (.v 7)]))))
   (.out 2 [(.v 3)])))))
(.nd (.pr (.len [ki64]) [(.v 1)])
(.out 1 [(.v 1)])))
def e10 : Fe := ⟨⟨146, [ku32], [(.dat ku32 (.v 0))], [], [(.sl [ki64])], [(.sl 0 (.k (.i 0)) (.v 2) 1)], [(0, (.arr [ki64] (.v 1) (.v 2)))], 1⟩,
 ⟨[(29, ⟨[(.sl [ki64])], [(3, (.sl 0 (.k (.i 0)) (.v 2) 1))], [(0, (.arr [ki64] (.v 1) (.v 2)))], 1⟩), (58, ⟨[ku32, ki64, (.sl [ki64])], [(0, (.dat ku32 (.v 1))), (3, (.sl 0 (.k (.i 0)) (.v 4) 1)), (4, (.dat ki64 (.v 2)))], [(0, (.arr [ki64] (.v 3) (.v 4)))], 1⟩), (466, ⟨[ku32, (.sl [ki64])], [(0, (.dat ku32 (.v 6))), (3, (.sl 0 (.k (.i 0)) (.v 8) 1)), (4, (.dat ki64 (.v 2)))], [(0, (.arr [ki64] (.v 7) (.v 8)))], 1⟩)], []⟩,
 [(2, (.sl 0 (.k (.i 0)) (.v 2) 1))], some t10, fun _ => none⟩
/-- loop.example/g00709/spec.BitList -/
def t11 : Tr :=
(.nd (.call 10 [(.v 0)] [ku32] [(.sl [ki64])])
(.nd (.pr (.len [ki64]) [(.v 1)])
(.blk 2 [(.sl [ki64])]
 (.loop [ki64, (.sl [ki64])] [(.k (.i 0)), (.k (.l []))]
  (.nd (.pr (.len [ki64]) [(.v 4)])
  (.nd (.pr (.len [ki64]) [(.v 1)])
  (.nd (.pr (.cmp .lss .i64) [(.v 3), (.k (.i 32))])
  (.ite (.v 7)
   (.blk 3 [(.sl [ki64])]
    (.nd (.pr (.ixc .i64) [(.v 3), (.v 6)])
    (.nd (.pr (.get [ki64] 0) [(.v 1), (.v 8)])
    (.nd (.pr (.cmp .eql .i64) [(.v 9), (.k (.i 1))])
    (.ite (.v 10)
     (.nd (.pr (.mk [ki64] 1) [(.v 3)])
     (.nd (.pr (.app [ki64] 8) [(.v 4), (.v 11)])
     (.nd (.pr (.len [ki64]) [(.v 12)])
     (.out 0 [(.v 12)]))))
     (.out 0 [(.v 4)])))))
   (.nd (.pr (.len [ki64]) [(.v 8)])
   (.nd (.pr (.len [ki64]) [(.v 1)])
   (.nd (.pr (.bin .add .i64) [(.v 3), (.k (.i 1))])
   (.out 0 [(.v 11), (.v 8)])))))
   (.out 2 [(.v 4)]))))))
(.nd (.pr (.len [ki64]) [(.v 3)])
(.out 1 [(.v 3)])))))
def e11 : Fe := ⟨⟨112, [ku32], [(.dat ku32 (.v 0))], [], [(.sl [ki64])], [(.sl 0 (.k (.i 0)) (.v 2) 1)], [(0, (.arr [ki64] (.v 1) (.v 2)))], 1⟩,
 ⟨[(61, ⟨[(.sl [ki64])], [(3, (.sl 0 (.k (.i 0)) (.v 4) 1))], [(0, (.arr [ki64] (.v 3) (.v 4)))], 1⟩), (122, ⟨[ki64, (.sl [ki64])], [(3, (.sl 0 (.k (.i 0)) (.v 5) 1)), (4, (.sl 1 (.k (.i 0)) (.v 6) 1)), (5, (.dat ki64 (.v 3)))], [(0, (.arr [ki64] (.v 4) (.v 5))), (1, (.arr [ki64] (.v 1) (.v 6)))], 2⟩), (978, ⟨[(.sl [ki64])], [(3, (.sl 0 (.k (.i 0)) (.v 9) 1)), (4, (.sl 1 (.k (.i 0)) (.v 10) 1)), (5, (.dat ki64 (.v 3)))], [(0, (.arr [ki64] (.v 8) (.v 9))), (1, (.arr [ki64] (.v 1) (.v 10)))], 2⟩)], []⟩,
 [(2, (.sl 0 (.k (.i 0)) (.v 2) 1))], some t11, fun _ => none⟩
/-- loop.example/g00709/spec.Highest -/
def t12 : Tr :=
(.nd (.call 11 [(.v 0)] [ku32] [(.sl [ki64])])
(.nd (.pr (.len [ki64]) [(.v 1)])
(.nd (.pr (.cmp .eql .i64) [(.v 2), (.k (.i 0))])
(.ite (.v 3)
 (.out 1 [(.k (.i (-1)))])
 (.nd (.pr (.bin .sub .i64) [(.v 2), (.k (.i 1))])
 (.nd (.pr (.ixc .i64) [(.v 4), (.v 2)])
 (.nd (.pr (.get [ki64] 0) [(.v 1), (.v 5)])
 (.out 1 [(.v 6)]))))))))
def e12 : Fe := ⟨⟨166, [ku32], [(.dat ku32 (.v 0))], [], [ki64], [(.dat ki64 (.v 1))], [], 0⟩,
 ⟨[], []⟩,
 [(2, (.dat ki64 (.v 1)))], some t12, fun _ => none⟩
/-- loop.example/g00709/spec.l03Mask -/
def t13 : Tr :=
(.nd (.call 12 [(.v 0)] [ku32] [ki64])
(.nd (.pr (.cmp .lss .i64) [(.v 1), (.k (.i 8))])
(.out 1 [(.v 2)])))
def e13 : Fe := ⟨⟨148, [ku32], [(.dat ku32 (.v 0))], [], [kb], [(.dat kb (.v 1))], [], 0⟩,
 ⟨[], []⟩,
 [(2, (.dat kb (.v 1)))], some t13, fun _ => none⟩
/-- loop.example/g00709/spec.ReqOk -/
def t14 : Tr :=
(.seq [kb]
 (.nd (.pr (.len [ki64]) [(.v 1)])
 (.nd (.pr (.cmp .neq .i64) [(.v 2), (.k (.i 8))])
 (.ite (.v 3)
  (.out 0 [(.k (.b true))])
  (.nd (.pr (.cmp .neq .i64) [(.v 0), (.k (.i 1))])
  (.ite (.v 4)
   (.nd (.pr (.cmp .neq .i64) [(.v 0), (.k (.i 2))])
   (.out 0 [(.v 5)]))
   (.out 0 [(.k (.b false))]))))))
(.ite (.v 2)
 (.out 1 [(.k (.b false))])
 (.blk 2 []
  (.loop [ki64] [(.k (.i 0))]
   (.nd (.pr (.len [ki64]) [(.v 1)])
   (.nd (.pr (.cmp .lss .i64) [(.v 3), (.v 4)])
   (.ite (.v 5)
    (.blk 3 []
     (.nd (.pr (.len [ki64]) [(.v 1)])
     (.nd (.pr (.ixc .i64) [(.v 3), (.v 6)])
     (.nd (.pr (.get [ki64] 0) [(.v 1), (.v 7)])
     (.seq [kb]
      (.nd (.pr (.cmp .eql .i64) [(.v 0), (.k (.i 1))])
      (.ite (.v 9)
       (.nd (.pr (.cmp .lss .i64) [(.v 8), (.k (.i 0))])
       (.ite (.v 10)
        (.out 0 [(.k (.b true))])
        (.nd (.pr (.cmp .gtr .i64) [(.v 8), (.k (.i 256))])
        (.ite (.v 11)
         (.out 0 [(.k (.b true))])
         (.nd (.pr (.cmp .eql .i64) [(.v 0), (.k (.i 2))])
         (.ite (.v 12)
          (.nd (.pr (.cmp .lss .i64) [(.v 8), (.k (.i (-1)))])
          (.ite (.v 13)
           (.out 0 [(.k (.b true))])
           (.nd (.pr (.cmp .gtr .i64) [(.v 8), (.k (.i 4095))])
           (.out 0 [(.v 14)]))))
          (.out 0 [(.k (.b false))])))))))
       (.nd (.pr (.cmp .eql .i64) [(.v 0), (.k (.i 2))])
       (.ite (.v 10)
        (.nd (.pr (.cmp .lss .i64) [(.v 8), (.k (.i (-1)))])
        (.ite (.v 11)
         (.out 0 [(.k (.b true))])
         (.nd (.pr (.cmp .gtr .i64) [(.v 8), (.k (.i 4095))])
         (.out 0 [(.v 12)]))))
        (.out 0 [(.k (.b false))])))))
     (.ite (.v 9)
      (.out 1 [(.k (.b false))])
      (.out 0 []))))))
    (.nd (.pr (.bin .add .i64) [(.v 3), (.k (.i 1))])
    (.out 0 [(.v 6)])))
    (.out 2 [])))))
 (.out 1 [(.k (.b true))]))))
def e14 : Fe := ⟨⟨79, [ki64, (.sl [ki64])], [(.agg [(.dat ki64 (.v 0)), (.lz [ki64] (.v 1))])], [], [kb], [(.dat kb (.v 2))], [], 0⟩,
 ⟨[(29, ⟨[], [], [], 0⟩), (58, ⟨[ki64], [(1, (.ptr 0 0)), (3, (.dat ki64 (.v 3)))], [(0, (.cells [(.dat ki64 (.v 0)), (.lz [ki64] (.v 1))]))], 1⟩), (466, ⟨[], [(1, (.ptr 0 0)), (3, (.dat ki64 (.v 3)))], [(0, (.cells [(.dat ki64 (.v 0)), (.lz [ki64] (.v 1))]))], 1⟩), (1865, ⟨[kb], [(1, (.ptr 0 0)), (3, (.dat ki64 (.v 3))), (54, (.dat kb (.v 9)))], [(0, (.cells [(.dat ki64 (.v 0)), (.lz [ki64] (.v 1))]))], 1⟩), (6, ⟨[kb], [(1, (.ptr 0 0)), (18, (.dat kb (.v 2)))], [(0, (.cells [(.dat ki64 (.v 0)), (.lz [ki64] (.v 1))]))], 1⟩)], []⟩,
 [(2, (.dat kb (.v 2)))], some t14, fun _ => none⟩
/-- loop.example/g00709/spec.l07Asks -/
def t15 : Tr :=
(.blk 2 [(.sl [ki64])]
 (.loop [ki64, (.sl [ki64])] [(.k (.i 0)), (.k (.l []))]
  (.nd (.pr (.len [ki64]) [(.v 3)])
  (.nd (.pr (.len [ki64]) [(.v 1)])
  (.nd (.pr (.cmp .lss .i64) [(.v 2), (.v 5)])
  (.ite (.v 6)
   (.blk 3 [(.sl [ki64])]
    (.seq [kb]
     (.nd (.pr (.cmp .eql .i64) [(.v 0), (.k (.i 1))])
     (.ite (.v 7)
      (.nd (.pr (.len [ki64]) [(.v 1)])
      (.nd (.pr (.ixc .i64) [(.v 2), (.v 8)])
      (.nd (.pr (.get [ki64] 0) [(.v 1), (.v 9)])
      (.nd (.pr (.cmp .gtr .i64) [(.v 10), (.k (.i 0))])
      (.ite (.v 11)
       (.out 0 [(.k (.b true))])
       (.nd (.pr (.cmp .eql .i64) [(.v 0), (.k (.i 2))])
       (.ite (.v 12)
        (.nd (.pr (.len [ki64]) [(.v 1)])
        (.nd (.pr (.ixc .i64) [(.v 2), (.v 13)])
        (.nd (.pr (.get [ki64] 0) [(.v 1), (.v 14)])
        (.nd (.pr (.cmp .geq .i64) [(.v 15), (.k (.i 0))])
        (.out 0 [(.v 16)])))))
        (.out 0 [(.k (.b false))]))))))))
      (.nd (.pr (.cmp .eql .i64) [(.v 0), (.k (.i 2))])
      (.ite (.v 8)
       (.nd (.pr (.len [ki64]) [(.v 1)])
       (.nd (.pr (.ixc .i64) [(.v 2), (.v 9)])
       (.nd (.pr (.get [ki64] 0) [(.v 1), (.v 10)])
       (.nd (.pr (.cmp .geq .i64) [(.v 11), (.k (.i 0))])
       (.out 0 [(.v 12)])))))
       (.out 0 [(.k (.b false))])))))
    (.nd (.pr (.len [ki64]) [(.v 3)])
    (.ite (.v 7)
     (.nd (.pr (.mk [ki64] 1) [(.v 2)])
     (.nd (.pr (.app [ki64] 8) [(.v 3), (.v 9)])
     (.nd (.pr (.len [ki64]) [(.v 10)])
     (.out 0 [(.v 10)]))))
     (.out 0 [(.v 3)]))))
   (.nd (.pr (.len [ki64]) [(.v 7)])
   (.nd (.pr (.bin .add .i64) [(.v 2), (.k (.i 1))])
   (.out 0 [(.v 9), (.v 7)]))))
   (.out 2 [(.v 3)]))))))
(.nd (.pr (.len [ki64]) [(.v 2)])
(.out 1 [(.v 2)])))
def e15 : Fe := ⟨⟨149, [ki64, (.sl [ki64])], [(.dat ki64 (.v 0)), (.lz [ki64] (.v 1))], [], [(.sl [ki64])], [(.sl 0 (.k (.i 0)) (.v 3) 1)], [(0, (.arr [ki64] (.v 2) (.v 3)))], 1⟩,
 ⟨[(29, ⟨[(.sl [ki64])], [(5, (.sl 0 (.k (.i 0)) (.v 3) 1))], [(0, (.arr [ki64] (.v 2) (.v 3)))], 1⟩), (58, ⟨[ki64, (.sl [ki64])], [(0, (.dat ki64 (.v 0))), (1, (.lz [ki64] (.v 1))), (5, (.sl 0 (.k (.i 0)) (.v 4) 1)), (6, (.dat ki64 (.v 2)))], [(0, (.arr [ki64] (.v 3) (.v 4)))], 1⟩), (466, ⟨[(.sl [ki64])], [(0, (.dat ki64 (.v 0))), (1, (.lz [ki64] (.v 1))), (5, (.sl 0 (.k (.i 0)) (.v 8) 1)), (6, (.dat ki64 (.v 2)))], [(0, (.arr [ki64] (.v 7) (.v 8)))], 1⟩), (932, ⟨[kb], [(0, (.dat ki64 (.v 0))), (1, (.lz [ki64] (.v 1))), (5, (.sl 0 (.k (.i 0)) (.v 8) 1)), (6, (.dat ki64 (.v 2))), (33, (.dat kb (.v 7)))], [(0, (.arr [ki64] (.v 3) (.v 8)))], 1⟩)], []⟩,
 [(4, (.sl 0 (.k (.i 0)) (.v 3) 1))], some t15, fun _ => none⟩
/-- loop.example/g00709/spec.ChunksFor -/
def t16 : Tr :=
(.seq [kb]
 (.nd (.pr (.cmp .leq .i64) [(.v 0), (.k (.i 16))])
 (.ite (.v 1)
  (.out 0 [(.k (.b true))])
  (.nd (.pr (.cmp .gtr .i64) [(.v 0), (.k (.i 256))])
  (.out 0 [(.v 2)]))))
(.ite (.v 1)
 (.out 1 [(.k (.i 0))])
 (.nd (.pr (.bin .add .i64) [(.v 0), (.k (.i 16))])
 (.nd (.pr (.bin .sub .i64) [(.v 2), (.k (.i 1))])
 (.nd (.pr (.bin .quo .i64) [(.v 3), (.k (.i 16))])
 (.out 1 [(.v 4)]))))))
def e16 : Fe := ⟨⟨151, [ki64], [(.dat ki64 (.v 0))], [], [ki64], [(.dat ki64 (.v 1))], [], 0⟩,
 ⟨[(6, ⟨[kb], [(0, (.dat ki64 (.v 0))), (8, (.dat kb (.v 1)))], [], 0⟩)], []⟩,
 [(2, (.dat ki64 (.v 1)))], some t16, fun _ => none⟩
/-- loop.example/g00709/spec.l07LargeOk -/
def t17 : Tr :=
(.seq [kb]
 (.nd (.pr (.cmp .gtr .i64) [(.v 6), (.v 8)])
 (.ite (.v 10)
  (.out 0 [(.k (.b true))])
  (.nd (.pr (.cmp .gtr .i64) [(.v 6), (.k (.i 0))])
  (.ite (.v 11)
   (.nd (.pr (.bin .add .i64) [(.v 5), (.v 8)])
   (.nd (.pr (.cmp .gtr .i64) [(.v 12), (.v 9)])
   (.out 0 [(.v 13)])))
   (.nd (.pr (.cmp .eql .i64) [(.v 4), (.k (.i 1))])
   (.ite (.v 12)
    (.nd (.pr (.bin .add .i64) [(.v 5), (.v 8)])
    (.nd (.pr (.cmp .gtr .i64) [(.v 13), (.v 9)])
    (.out 0 [(.v 14)])))
    (.out 0 [(.k (.b false))])))))))
(.ite (.v 10)
 (.out 1 [(.k (.b false))])
 (.blk 2 []
  (.seq [kb]
   (.nd (.pr (.cmp .eql .i64) [(.v 4), (.k (.i 0))])
   (.ite (.v 11)
    (.out 0 [(.k (.b true))])
    (.nd (.pr (.cmp .eql .i64) [(.v 4), (.k (.i 1))])
    (.out 0 [(.v 12)]))))
  (.ite (.v 11)
   (.nd (.pr (.cmp .lss .i64) [(.v 6), (.v 8)])
   (.out 1 [(.v 12)]))
   (.nd (.pr (.cmp .eql .i64) [(.v 4), (.k (.i 2))])
   (.ite (.v 12)
    (.nd (.pr (.cmp .gtr .i64) [(.v 6), (.k (.i 0))])
    (.out 1 [(.v 13)]))
    (.nd (.pr (.cmp .eql .i64) [(.v 4), (.k (.i 3))])
    (.ite (.v 13)
     (.nd (.pr (.cmp .eql .i64) [(.v 6), (.v 8)])
     (.out 1 [(.v 14)]))
     (.out 0 [])))))))
 (.out 1 [(.k (.b false))]))))
def e17 : Fe := ⟨⟨150, [ki64, (.sl [ki64]), (.sl [ki64]), ku32, ki64, ki64, ki64, ku32, ki64, ki64], [(.agg [(.dat ki64 (.v 0)), (.lz [ki64] (.v 1)), (.lz [ki64] (.v 2)), (.dat ku32 (.v 3)), (.dat ki64 (.v 4)), (.dat ki64 (.v 5)), (.dat ki64 (.v 6)), (.dat ku32 (.v 7))]), (.dat ki64 (.v 8)), (.dat ki64 (.v 9))], [], [kb], [(.dat kb (.v 10))], [], 0⟩,
 ⟨[(29, ⟨[], [], [], 0⟩), (58, ⟨[kb], [(1, (.dat ki64 (.v 8))), (3, (.ptr 0 0)), (30, (.dat ki64 (.v 4))), (31, (.dat kb (.v 11)))], [(0, (.cells [(.dat ki64 (.v 0)), (.lz [ki64] (.v 1)), (.lz [ki64] (.v 2)), (.dat ku32 (.v 3)), (.dat ki64 (.v 4)), (.dat ki64 (.v 5)), (.dat ki64 (.v 6)), (.dat ku32 (.v 7))]))], 1⟩), (6, ⟨[kb], [(1, (.dat ki64 (.v 8))), (3, (.ptr 0 0)), (28, (.dat kb (.v 10)))], [(0, (.cells [(.dat ki64 (.v 0)), (.lz [ki64] (.v 1)), (.lz [ki64] (.v 2)), (.dat ku32 (.v 3)), (.dat ki64 (.v 4)), (.dat ki64 (.v 5)), (.dat ki64 (.v 6)), (.dat ku32 (.v 7))]))], 1⟩)], []⟩,
 [(6, (.dat kb (.v 10)))], some t17, fun _ => none⟩
/-- loop.example/g00709/spec.l04Pow -/
def t18 : Tr :=
(.blk 2 [ki64]
 (.loop [ki64, ki64] [(.v 0), (.k (.i 1))]
  (.nd (.pr (.cmp .gtr .i64) [(.v 1), (.k (.i 0))])
  (.ite (.v 3)
   (.blk 3 [ki64]
    (.nd (.pr (.bin .mul .i64) [(.k (.i 2)), (.v 2)])
    (.out 0 [(.v 4)]))
   (.nd (.pr (.bin .sub .i64) [(.v 1), (.k (.i 1))])
   (.out 0 [(.v 5), (.v 4)])))
   (.out 2 [(.v 2)]))))
(.out 1 [(.v 1)]))
def e18 : Fe := ⟨⟨136, [ki64], [(.dat ki64 (.v 0))], [], [ki64], [(.dat ki64 (.v 1))], [], 0⟩,
 ⟨[(14, ⟨[ki64], [(3, (.dat ki64 (.v 1)))], [], 0⟩), (28, ⟨[ki64, ki64], [(0, (.dat ki64 (.v 1))), (3, (.dat ki64 (.v 2)))], [], 0⟩), (226, ⟨[ki64], [(0, (.dat ki64 (.v 1))), (3, (.dat ki64 (.v 4)))], [], 0⟩)], []⟩,
 [(2, (.dat ki64 (.v 1)))], some t18, fun _ => none⟩
/-- loop.example/g00709/spec.ClassOf -/
def t19 : Tr :=
(.blk 2 []
 (.loop [ki64] [(.k (.i 0))]
  (.seq [kb]
   (.nd (.pr (.cmp .lss .i64) [(.v 1), (.k (.i 5))])
   (.ite (.v 2)
    (.nd (.pr (.cmp .geq .i64) [(.v 0), (.k (.i 1))])
    (.out 0 [(.v 3)]))
    (.out 0 [(.k (.b false))])))
  (.ite (.v 2)
   (.blk 3 []
    (.nd (.call 18 [(.v 1)] [ki64] [ki64])
    (.nd (.pr (.cmp .geq .i64) [(.v 3), (.v 0)])
    (.ite (.v 4)
     (.out 1 [(.v 1)])
     (.out 0 []))))
   (.nd (.pr (.bin .add .i64) [(.v 1), (.k (.i 1))])
   (.out 0 [(.v 3)])))
   (.out 2 []))))
(.out 1 [(.k (.i (-1)))]))
def e19 : Fe := ⟨⟨153, [ki64], [(.dat ki64 (.v 0))], [], [ki64], [(.dat ki64 (.v 1))], [], 0⟩,
 ⟨[(13, ⟨[], [], [], 0⟩), (26, ⟨[ki64], [(0, (.dat ki64 (.v 0))), (3, (.dat ki64 (.v 1)))], [], 0⟩), (210, ⟨[], [(0, (.dat ki64 (.v 0))), (3, (.dat ki64 (.v 1)))], [], 0⟩), (104, ⟨[kb], [(0, (.dat ki64 (.v 0))), (3, (.dat ki64 (.v 1))), (9, (.dat kb (.v 2)))], [], 0⟩)], []⟩,
 [(2, (.dat ki64 (.v 1)))], some t19, fun _ => none⟩
/-- loop.example/g00709/spec.l04Class -/
def t20 : Tr :=
(.seq [kb]
 (.nd (.pr (.cmp .geq .i64) [(.v 0), (.k (.i 0))])
 (.ite (.v 1)
  (.nd (.pr (.cmp .lss .i64) [(.v 0), (.k (.i 5))])
  (.out 0 [(.v 2)]))
  (.out 0 [(.k (.b false))])))
(.out 1 [(.v 1)]))
def e20 : Fe := ⟨⟨135, [ki64], [(.dat ki64 (.v 0))], [], [kb], [(.dat kb (.v 1))], [], 0⟩,
 ⟨[(3, ⟨[kb], [(2, (.dat kb (.v 1)))], [], 0⟩)], []⟩,
 [(2, (.dat kb (.v 1)))], some t20, fun _ => none⟩
/-- loop.example/g00709/spec.PerPage -/
def t21 : Tr :=
(.nd (.call 20 [(.v 0)] [ki64] [kb])
(.nd (.pr .not [(.v 1)])
(.ite (.v 2)
 (.out 1 [(.k (.i 0))])
 (.nd (.call 18 [(.v 0)] [ki64] [ki64])
 (.nd (.pr (.bin .quo .i64) [(.k (.i 16)), (.v 3)])
 (.out 1 [(.v 4)]))))))
def e21 : Fe := ⟨⟨103, [ki64], [(.dat ki64 (.v 0))], [], [ki64], [(.dat ki64 (.v 1))], [], 0⟩,
 ⟨[], []⟩,
 [(2, (.dat ki64 (.v 1)))], some t21, fun _ => none⟩
/-- loop.example/g00709/spec.CtlOk -/
def t22 : Tr :=
(.blk 2 []
 (.seq [kb]
  (.nd (.pr (.cmp .eql .i64) [(.v 0), (.k (.i 0))])
  (.ite (.v 4)
   (.out 0 [(.k (.b true))])
   (.nd (.pr (.cmp .eql .i64) [(.v 0), (.k (.i 3))])
   (.out 0 [(.v 5)]))))
 (.ite (.v 4)
  (.seq [kb]
   (.nd (.pr (.cmp .eql .i64) [(.v 1), (.k (.i 0))])
   (.ite (.v 5)
    (.nd (.pr (.cmp .eql .u32) [(.v 2), (.k (.i 0))])
    (.ite (.v 6)
     (.nd (.pr (.cmp .eql .i64) [(.v 3), (.k (.i 0))])
     (.out 0 [(.v 7)]))
     (.out 0 [(.k (.b false))])))
    (.out 0 [(.k (.b false))])))
  (.out 1 [(.v 5)]))
  (.nd (.pr (.cmp .eql .i64) [(.v 0), (.k (.i 1))])
  (.ite (.v 5)
   (.seq [kb]
    (.nd (.call 20 [(.v 1)] [ki64] [kb])
    (.ite (.v 6)
     (.nd (.pr (.cmp .neq .u32) [(.v 2), (.k (.i 0))])
     (.ite (.v 7)
      (.nd (.call 12 [(.v 2)] [ku32] [ki64])
      (.nd (.call 21 [(.v 1)] [ki64] [ki64])
      (.nd (.pr (.cmp .lss .i64) [(.v 8), (.v 9)])
      (.ite (.v 10)
       (.nd (.pr (.cmp .eql .i64) [(.v 3), (.k (.i 0))])
       (.out 0 [(.v 11)]))
       (.out 0 [(.k (.b false))])))))
      (.out 0 [(.k (.b false))])))
     (.out 0 [(.k (.b false))])))
   (.out 1 [(.v 6)]))
   (.nd (.pr (.cmp .eql .i64) [(.v 0), (.k (.i 2))])
   (.ite (.v 6)
    (.seq [kb]
     (.nd (.pr (.cmp .eql .i64) [(.v 1), (.k (.i 0))])
     (.ite (.v 7)
      (.nd (.pr (.cmp .eql .u32) [(.v 2), (.k (.i 0))])
      (.ite (.v 8)
       (.nd (.pr (.cmp .geq .i64) [(.v 3), (.k (.i 2))])
       (.ite (.v 9)
        (.nd (.pr (.cmp .leq .i64) [(.v 3), (.k (.i 16))])
        (.out 0 [(.v 10)]))
        (.out 0 [(.k (.b false))])))
       (.out 0 [(.k (.b false))])))
      (.out 0 [(.k (.b false))])))
    (.out 1 [(.v 7)]))
    (.out 0 [])))))))
(.out 1 [(.k (.b false))]))
def e22 : Fe := ⟨⟨133, [ki64, ki64, ku32, ki64], [(.agg [(.dat ki64 (.v 0)), (.dat ki64 (.v 1)), (.dat ku32 (.v 2)), (.dat ki64 (.v 3))])], [], [kb], [(.dat kb (.v 4))], [], 0⟩,
 ⟨[(13, ⟨[], [], [], 0⟩), (1726, ⟨[kb], [(2, (.dat kb (.v 7)))], [], 0⟩), (430, ⟨[kb], [(2, (.dat kb (.v 6)))], [], 0⟩), (106, ⟨[kb], [(2, (.dat kb (.v 5)))], [], 0⟩), (26, ⟨[kb], [(1, (.ptr 0 0)), (4, (.dat ki64 (.v 0))), (5, (.dat kb (.v 4)))], [(0, (.cells [(.dat ki64 (.v 0)), (.dat ki64 (.v 1)), (.dat ku32 (.v 2)), (.dat ki64 (.v 3))]))], 1⟩)], []⟩,
 [(2, (.dat kb (.v 4)))], some t22, fun _ => none⟩
/-- loop.example/g00709/spec.CtlRead -/
def t23 : Tr :=
(.nd (.pr (.conv .u32 .i64) [(.v 0)])
(.nd (.pr (.bin .quo .i64) [(.v 1), (.k (.i 1048576))])
(.nd (.pr (.bin .rem .i64) [(.v 2), (.k (.i 16))])
(.nd (.pr (.bin .quo .i64) [(.v 1), (.k (.i 65536))])
(.nd (.pr (.bin .rem .i64) [(.v 4), (.k (.i 16))])
(.nd (.pr (.bin .rem .i64) [(.v 1), (.k (.i 65536))])
(.nd (.pr (.conv .i64 .u32) [(.v 6)])
(.nd (.pr (.bin .quo .i64) [(.v 1), (.k (.i 16777216))])
(.nd (.call 22 [(.v 3), (.v 5), (.v 7), (.v 8)] [ki64, ki64, ku32, ki64] [kb])
(.nd (.pr .not [(.v 9)])
(.ite (.v 10)
 (.out 1 [(.k (.b false)), (.k (.i 0)), (.k (.i 0)), (.k (.i 0)), (.k (.i 0))])
 (.out 1 [(.k (.b true)), (.v 3), (.v 5), (.v 7), (.v 8)]))))))))))))
def e23 : Fe := ⟨⟨97, [ku32], [(.dat ku32 (.v 0))], [], [kb, ki64, ki64, ku32, ki64], [(.agg [(.dat ki64 (.v 2)), (.dat ki64 (.v 3)), (.dat ku32 (.v 4)), (.dat ki64 (.v 5))]), (.dat kb (.v 1))], [(0, (.cells [(.dat ki64 (.v 2)), (.dat ki64 (.v 3)), (.dat ku32 (.v 4)), (.dat ki64 (.v 5))]))], 1⟩,
 ⟨[], []⟩,
 [(2, (.ptr 0 0)), (3, (.dat kb (.v 1)))], some t23, fun _ => none⟩
/-- loop.example/g00709/spec.Ones -/
def t24 : Tr :=
(.nd (.call 11 [(.v 0)] [ku32] [(.sl [ki64])])
(.nd (.pr (.len [ki64]) [(.v 1)])
(.out 1 [(.v 2)])))
def e24 : Fe := ⟨⟨102, [ku32], [(.dat ku32 (.v 0))], [], [ki64], [(.dat ki64 (.v 1))], [], 0⟩,
 ⟨[], []⟩,
 [(2, (.dat ki64 (.v 1)))], some t24, fun _ => none⟩
/-- loop.example/g00709/spec.Room -/
def t25 : Tr :=
(.nd (.call 23 [(.v 0)] [ku32] [kb, ki64, ki64, ku32, ki64])
(.blk 2 []
 (.seq [kb]
  (.nd (.pr .not [(.v 2)])
  (.ite (.v 7)
   (.out 0 [(.k (.b true))])
   (.nd (.call 20 [(.v 1)] [ki64] [kb])
   (.nd (.pr .not [(.v 8)])
   (.out 0 [(.v 9)])))))
 (.ite (.v 7)
  (.out 1 [(.k (.i 0))])
  (.nd (.pr (.cmp .eql .i64) [(.v 3), (.k (.i 0))])
  (.ite (.v 8)
   (.nd (.call 21 [(.v 1)] [ki64] [ki64])
   (.out 1 [(.v 9)]))
   (.seq [kb]
    (.nd (.pr (.cmp .eql .i64) [(.v 3), (.k (.i 1))])
    (.ite (.v 9)
     (.nd (.pr (.cmp .eql .i64) [(.v 4), (.v 1)])
     (.out 0 [(.v 10)]))
     (.out 0 [(.k (.b false))])))
   (.ite (.v 9)
    (.nd (.call 21 [(.v 1)] [ki64] [ki64])
    (.nd (.call 24 [(.v 5)] [ku32] [ki64])
    (.nd (.pr (.bin .sub .i64) [(.v 10), (.v 11)])
    (.out 1 [(.v 12)]))))
    (.out 0 [])))))))
(.out 1 [(.k (.i 0))])))
def e25 : Fe := ⟨⟨152, [ku32, ki64], [(.dat ku32 (.v 0)), (.dat ki64 (.v 1))], [], [ki64], [(.dat ki64 (.v 2))], [], 0⟩,
 ⟨[(14, ⟨[], [], [], 0⟩), (463, ⟨[kb], [(1, (.dat ki64 (.v 1))), (5, (.ptr 0 0)), (26, (.dat kb (.v 9)))], [(0, (.cells [(.dat ki64 (.v 3)), (.dat ki64 (.v 4)), (.dat ku32 (.v 5)), (.dat ki64 (.v 6))]))], 1⟩), (28, ⟨[kb], [(1, (.dat ki64 (.v 1))), (5, (.ptr 0 0)), (12, (.dat kb (.v 7)))], [(0, (.cells [(.dat ki64 (.v 3)), (.dat ki64 (.v 4)), (.dat ku32 (.v 5)), (.dat ki64 (.v 6))]))], 1⟩)], []⟩,
 [(4, (.dat ki64 (.v 2)))], some t25, fun _ => none⟩
/-- loop.example/g00709/spec.ClassSize -/
def t26 : Tr :=
(.nd (.call 20 [(.v 0)] [ki64] [kb])
(.nd (.pr .not [(.v 1)])
(.ite (.v 2)
 (.out 1 [(.k (.i 0))])
 (.nd (.call 18 [(.v 0)] [ki64] [ki64])
 (.out 1 [(.v 3)])))))
def e26 : Fe := ⟨⟨113, [ki64], [(.dat ki64 (.v 0))], [], [ki64], [(.dat ki64 (.v 1))], [], 0⟩,
 ⟨[], []⟩,
 [(2, (.dat ki64 (.v 1)))], some t26, fun _ => none⟩
/-- loop.example/g00709/spec.BlockAt -/
def t27 : Tr :=
(.nd (.call 23 [(.v 0)] [ku32] [kb, ki64, ki64, ku32, ki64])
(.seq [kb]
 (.nd (.pr .not [(.v 2)])
 (.ite (.v 7)
  (.out 0 [(.k (.b true))])
  (.nd (.pr (.cmp .neq .i64) [(.v 3), (.k (.i 1))])
  (.ite (.v 8)
   (.out 0 [(.k (.b true))])
   (.nd (.pr (.cmp .lss .i64) [(.v 1), (.k (.i 0))])
   (.ite (.v 9)
    (.out 0 [(.k (.b true))])
    (.nd (.pr (.cmp .geq .i64) [(.v 1), (.k (.i 16))])
    (.out 0 [(.v 10)]))))))))
(.ite (.v 7)
 (.out 1 [(.k (.i 0)), (.k (.i 0)), (.k (.b false))])
 (.nd (.call 26 [(.v 4)] [ki64] [ki64])
 (.nd (.call 10 [(.v 5)] [ku32] [(.sl [ki64])])
 (.nd (.pr (.len [ki64]) [(.v 9)])
 (.nd (.pr (.bin .quo .i64) [(.v 1), (.v 8)])
 (.nd (.pr (.ixc .i64) [(.v 11), (.v 10)])
 (.nd (.pr (.get [ki64] 0) [(.v 9), (.v 12)])
 (.nd (.pr (.cmp .eql .i64) [(.v 13), (.k (.i 0))])
 (.ite (.v 14)
  (.out 1 [(.k (.i 0)), (.k (.i 0)), (.k (.b false))])
  (.nd (.pr (.bin .quo .i64) [(.v 1), (.v 8)])
  (.nd (.pr (.bin .mul .i64) [(.v 15), (.v 8)])
  (.out 1 [(.v 16), (.v 8), (.k (.b true))]))))))))))))))
def e27 : Fe := ⟨⟨181, [ku32, ki64], [(.dat ku32 (.v 0)), (.dat ki64 (.v 1))], [], [ki64, ki64, kb], [(.dat ki64 (.v 2)), (.dat ki64 (.v 3)), (.dat kb (.v 4))], [], 0⟩,
 ⟨[(14, ⟨[kb], [(1, (.dat ki64 (.v 1))), (7, (.ptr 0 0)), (30, (.dat kb (.v 7)))], [(0, (.cells [(.dat ki64 (.v 3)), (.dat ki64 (.v 4)), (.dat ku32 (.v 5)), (.dat ki64 (.v 6))]))], 1⟩)], []⟩,
 [(4, (.dat ki64 (.v 2))), (5, (.dat ki64 (.v 3))), (6, (.dat kb (.v 4)))], some t27, fun _ => none⟩
/-- loop.example/g00709/spec.l01Word -/
def t28 : Tr :=
(.nd (.pr (.len [ki64]) [(.v 0)])
(.nd (.pr (.bin .sub .i64) [(.v 1), (.k (.i 1))])
(.blk 2 [ku32]
 (.loop [ku32, ki64] [(.k (.i 0)), (.v 2)]
  (.nd (.pr (.cmp .geq .i64) [(.v 4), (.k (.i 0))])
  (.ite (.v 5)
   (.blk 3 [ku32]
    (.nd (.pr (.bin .mul .u32) [(.k (.i 2)), (.v 3)])
    (.nd (.pr (.len [ki64]) [(.v 0)])
    (.nd (.pr (.ixc .i64) [(.v 4), (.v 7)])
    (.nd (.pr (.get [ki64] 0) [(.v 0), (.v 8)])
    (.nd (.pr (.conv .i64 .u32) [(.v 9)])
    (.nd (.pr (.bin .add .u32) [(.v 6), (.v 10)])
    (.out 0 [(.v 11)])))))))
   (.nd (.pr (.bin .sub .i64) [(.v 4), (.k (.i 1))])
   (.out 0 [(.v 6), (.v 7)])))
   (.out 2 [(.v 3)]))))
(.out 1 [(.v 3)]))))
def e28 : Fe := ⟨⟨187, [(.sl [ki64])], [(.lz [ki64] (.v 0))], [], [ku32], [(.dat ku32 (.v 1))], [], 0⟩,
 ⟨[(29, ⟨[ku32], [(3, (.dat ku32 (.v 3)))], [], 0⟩), (58, ⟨[ku32, ki64], [(0, (.lz [ki64] (.v 0))), (3, (.dat ku32 (.v 3))), (4, (.dat ki64 (.v 4)))], [], 0⟩), (466, ⟨[ku32], [(0, (.lz [ki64] (.v 0))), (3, (.dat ku32 (.v 6))), (4, (.dat ki64 (.v 4)))], [], 0⟩)], []⟩,
 [(2, (.dat ku32 (.v 1)))], some t28, fun _ => none⟩
/-- loop.example/g00709/spec.BitsOf -/
def t29 : Tr :=
(.nd (.pr (.mkz [ki64] .i64 8 [(.i 0)]) [(.k (.i 32))])
(.nd (.pr (.len [ki64]) [(.v 1)])
(.blk 2 [(.sl [ki64])]
 (.loop [ki64, (.sl [ki64])] [(.k (.i 0)), (.v 1)]
  (.nd (.pr (.len [ki64]) [(.v 4)])
  (.nd (.pr (.len [ki64]) [(.v 0)])
  (.nd (.pr (.cmp .lss .i64) [(.v 3), (.v 6)])
  (.ite (.v 7)
   (.blk 3 [(.sl [ki64])]
    (.seq [kb]
     (.nd (.pr (.len [ki64]) [(.v 0)])
     (.nd (.pr (.ixc .i64) [(.v 3), (.v 8)])
     (.nd (.pr (.get [ki64] 0) [(.v 0), (.v 9)])
     (.nd (.pr (.cmp .lss .i64) [(.v 10), (.k (.i 0))])
     (.ite (.v 11)
      (.out 0 [(.k (.b true))])
      (.nd (.pr (.len [ki64]) [(.v 0)])
      (.nd (.pr (.ixc .i64) [(.v 3), (.v 12)])
      (.nd (.pr (.get [ki64] 0) [(.v 0), (.v 13)])
      (.nd (.pr (.cmp .gtr .i64) [(.v 14), (.k (.i 31))])
      (.ite (.v 15)
       (.out 0 [(.k (.b true))])
       (.nd (.pr (.len [ki64]) [(.v 0)])
       (.nd (.pr (.ixc .i64) [(.v 3), (.v 16)])
       (.nd (.pr (.get [ki64] 0) [(.v 0), (.v 17)])
       (.nd (.pr (.ixc .i64) [(.v 18), (.v 5)])
       (.nd (.pr (.get [ki64] 0) [(.v 4), (.v 19)])
       (.nd (.pr (.cmp .eql .i64) [(.v 20), (.k (.i 1))])
       (.out 0 [(.v 21)])))))))))))))))))
    (.nd (.pr (.len [ki64]) [(.v 4)])
    (.ite (.v 8)
     (.out 1 [(.k (.i 0)), (.k (.b false))])
     (.nd (.pr (.len [ki64]) [(.v 0)])
     (.nd (.pr (.ixc .i64) [(.v 3), (.v 10)])
     (.nd (.pr (.get [ki64] 0) [(.v 0), (.v 11)])
     (.nd (.pr (.ixc .i64) [(.v 12), (.v 9)])
     (.nd (.pr (.set [ki64] 0) [(.v 4), (.v 13), (.k (.i 1))])
     (.out 0 [(.v 14)])))))))))
   (.nd (.pr (.len [ki64]) [(.v 8)])
   (.nd (.pr (.bin .add .i64) [(.v 3), (.k (.i 1))])
   (.out 0 [(.v 10), (.v 8)]))))
   (.out 2 [(.v 4)]))))))
(.nd (.pr (.len [ki64]) [(.v 3)])
(.nd (.call 28 [(.v 3)] [(.sl [ki64])] [ku32])
(.out 1 [(.v 5), (.k (.b true))]))))))
def e29 : Fe := ⟨⟨180, [(.sl [ki64])], [(.lz [ki64] (.v 0))], [], [ku32, kb], [(.dat ku32 (.v 1)), (.dat kb (.v 2))], [], 0⟩,
 ⟨[(29, ⟨[(.sl [ki64])], [(4, (.sl 0 (.k (.i 0)) (.v 4) 1))], [(0, (.arr [ki64] (.v 3) (.v 4)))], 1⟩), (58, ⟨[ki64, (.sl [ki64])], [(0, (.lz [ki64] (.v 0))), (4, (.sl 0 (.k (.i 0)) (.v 5) 1)), (5, (.dat ki64 (.v 3)))], [(0, (.arr [ki64] (.v 4) (.v 5)))], 1⟩), (466, ⟨[(.sl [ki64])], [(0, (.lz [ki64] (.v 0))), (4, (.sl 0 (.k (.i 0)) (.v 9) 1)), (5, (.dat ki64 (.v 3)))], [(0, (.arr [ki64] (.v 8) (.v 9)))], 1⟩), (1864, ⟨[kb], [(0, (.lz [ki64] (.v 0))), (4, (.sl 0 (.k (.i 0)) (.v 9) 1)), (5, (.dat ki64 (.v 3))), (34, (.dat kb (.v 8)))], [(0, (.arr [ki64] (.v 4) (.v 9)))], 1⟩)], []⟩,
 [(2, (.dat ku32 (.v 1))), (3, (.dat kb (.v 2)))], some t29, fun _ => none⟩
/-- loop.example/g00709/spec.CtlPack -/
def t30 : Tr :=
(.nd (.call 22 [(.v 0), (.v 1), (.v 2), (.v 3)] [ki64, ki64, ku32, ki64] [kb])
(.nd (.pr .not [(.v 4)])
(.ite (.v 5)
 (.out 1 [(.k (.i 0)), (.k (.b false))])
 (.nd (.pr (.conv .u32 .i64) [(.v 2)])
 (.nd (.pr (.bin .mul .i64) [(.k (.i 65536)), (.v 1)])
 (.nd (.pr (.bin .add .i64) [(.v 6), (.v 7)])
 (.nd (.pr (.bin .mul .i64) [(.k (.i 1048576)), (.v 0)])
 (.nd (.pr (.bin .add .i64) [(.v 8), (.v 9)])
 (.nd (.pr (.bin .mul .i64) [(.k (.i 16777216)), (.v 3)])
 (.nd (.pr (.bin .add .i64) [(.v 10), (.v 11)])
 (.nd (.pr (.conv .i64 .u32) [(.v 12)])
 (.out 1 [(.v 13), (.k (.b true))]))))))))))))
def e30 : Fe := ⟨⟨170, [ki64, ki64, ku32, ki64], [(.agg [(.dat ki64 (.v 0)), (.dat ki64 (.v 1)), (.dat ku32 (.v 2)), (.dat ki64 (.v 3))])], [], [ku32, kb], [(.dat ku32 (.v 4)), (.dat kb (.v 5))], [], 0⟩,
 ⟨[], []⟩,
 [(2, (.dat ku32 (.v 4))), (3, (.dat kb (.v 5)))], some t30, fun _ => none⟩
/-- loop.example/g00709/spec.Release -/
def t31 : Tr :=
(.nd (.call 27 [(.v 0), (.v 1)] [ku32, ki64] [ki64, ki64, kb])
(.seq [kb]
 (.nd (.pr .not [(.v 4)])
 (.ite (.v 5)
  (.out 0 [(.k (.b true))])
  (.nd (.pr (.cmp .neq .i64) [(.v 2), (.v 1)])
  (.out 0 [(.v 6)]))))
(.ite (.v 5)
 (.out 1 [(.k (.i 0)), (.k (.i 0)), (.k (.b false))])
 (.nd (.call 23 [(.v 0)] [ku32] [kb, ki64, ki64, ku32, ki64])
 (.nd (.pr (.bin .quo .i64) [(.v 1), (.v 3)])
 (.nd (.pr (.mk [ki64] 1) [(.v 11)])
 (.nd (.call 29 [(.v 12)] [(.sl [ki64])] [ku32, kb])
 (.nd (.pr (.bin .sub .u32) [(.v 9), (.v 13)])
 (.nd (.pr (.cmp .eql .u32) [(.v 15), (.k (.i 0))])
 (.ite (.v 16)
  (.out 1 [(.k (.i 0)), (.v 3), (.k (.b true))])
  (.nd (.call 30 [(.v 7), (.v 8), (.v 15), (.v 10)] [ki64, ki64, ku32, ki64] [ku32, kb])
  (.out 1 [(.v 17), (.v 3), (.k (.b true))]))))))))))))
def e31 : Fe := ⟨⟨175, [ku32, ki64], [(.dat ku32 (.v 0)), (.dat ki64 (.v 1))], [], [ku32, ki64, kb], [(.dat ku32 (.v 2)), (.dat ki64 (.v 3)), (.dat kb (.v 4))], [], 0⟩,
 ⟨[(14, ⟨[kb], [(0, (.dat ku32 (.v 0))), (1, (.dat ki64 (.v 1))), (8, (.dat ki64 (.v 3))), (29, (.dat kb (.v 5)))], [], 0⟩)], []⟩,
 [(4, (.dat ku32 (.v 2))), (5, (.dat ki64 (.v 3))), (6, (.dat kb (.v 4)))], some t31, fun _ => none⟩
/-- loop.example/g00709/spec.l07Gives -/
def t32 : Tr :=
(.nd (.call 31 [(.v 0), (.v 1)] [ku32, ki64] [ku32, ki64, kb])
(.nd (.call 23 [(.v 0)] [ku32] [kb, ki64, ki64, ku32, ki64])
(.seq [kb]
 (.ite (.v 4)
  (.out 0 [(.k (.b true))])
  (.ite (.v 5)
   (.nd (.pr (.cmp .eql .i64) [(.v 6), (.k (.i 2))])
   (.ite (.v 10)
    (.nd (.pr (.cmp .eql .i64) [(.v 1), (.k (.i 0))])
    (.out 0 [(.v 11)]))
    (.out 0 [(.k (.b false))])))
   (.out 0 [(.k (.b false))])))
(.out 1 [(.v 10)]))))
def e32 : Fe := ⟨⟨154, [ku32, ki64], [(.dat ku32 (.v 0)), (.dat ki64 (.v 1))], [], [kb], [(.dat kb (.v 2))], [], 0⟩,
 ⟨[(15, ⟨[kb], [(4, (.dat kb (.v 10)))], [], 0⟩)], []⟩,
 [(4, (.dat kb (.v 2)))], some t32, fun _ => none⟩
/-- loop.example/g00709/spec.WarpOk -/
def t33 : Tr :=
(.seq [kb]
 (.nd (.pr (.cmp .lss .i64) [(.v 8), (.k (.i 0))])
 (.ite (.v 9)
  (.out 0 [(.k (.b true))])
  (.nd (.pr (.cmp .gtr .i64) [(.v 8), (.k (.i 16))])
  (.ite (.v 10)
   (.out 0 [(.k (.b true))])
   (.nd (.call 9 [(.v 1)] [(.sl [ki64])] [kb])
   (.nd (.pr .not [(.v 11)])
   (.ite (.v 12)
    (.out 0 [(.k (.b true))])
    (.nd (.call 9 [(.v 2)] [(.sl [ki64])] [kb])
    (.nd (.pr .not [(.v 13)])
    (.ite (.v 14)
     (.out 0 [(.k (.b true))])
     (.nd (.call 13 [(.v 3)] [ku32] [kb])
     (.nd (.pr .not [(.v 15)])
     (.out 0 [(.v 16)])))))))))))))
(.ite (.v 9)
 (.out 1 [(.k (.b false))])
 (.nd (.pr (.cmp .eql .i64) [(.v 0), (.k (.i 0))])
 (.ite (.v 10)
  (.seq [kb]
   (.nd (.pr (.cmp .eql .u32) [(.v 3), (.k (.i 0))])
   (.ite (.v 11)
    (.nd (.pr (.cmp .eql .i64) [(.v 4), (.k (.i 0))])
    (.ite (.v 12)
     (.nd (.pr (.cmp .eql .i64) [(.v 5), (.k (.i 0))])
     (.ite (.v 13)
      (.nd (.pr (.cmp .eql .i64) [(.v 6), (.k (.i 0))])
      (.ite (.v 14)
       (.nd (.pr (.cmp .eql .u32) [(.v 7), (.k (.i 0))])
       (.out 0 [(.v 15)]))
       (.out 0 [(.k (.b false))])))
      (.out 0 [(.k (.b false))])))
     (.out 0 [(.k (.b false))])))
    (.out 0 [(.k (.b false))])))
  (.out 1 [(.v 11)]))
  (.seq [kb]
   (.nd (.call 14 [(.v 0), (.v 1)] [ki64, (.sl [ki64])] [kb])
   (.nd (.pr .not [(.v 11)])
   (.ite (.v 12)
    (.out 0 [(.k (.b true))])
    (.nd (.pr (.cmp .eql .u32) [(.v 3), (.k (.i 0))])
    (.ite (.v 13)
     (.out 0 [(.k (.b true))])
     (.nd (.pr (.cmp .lss .i64) [(.v 4), (.k (.i 0))])
     (.ite (.v 14)
      (.out 0 [(.k (.b true))])
      (.nd (.pr (.cmp .lss .i64) [(.v 5), (.k (.i 0))])
      (.ite (.v 15)
       (.out 0 [(.k (.b true))])
       (.nd (.pr (.cmp .lss .i64) [(.v 6), (.k (.i 0))])
       (.ite (.v 16)
        (.out 0 [(.k (.b true))])
        (.nd (.pr (.cmp .gtr .i64) [(.v 5), (.v 8)])
        (.ite (.v 17)
         (.out 0 [(.k (.b true))])
         (.nd (.pr (.cmp .gtr .i64) [(.v 6), (.k (.i 16))])
         (.out 0 [(.v 18)])))))))))))))))
  (.ite (.v 11)
   (.out 1 [(.k (.b false))])
   (.nd (.call 15 [(.v 0), (.v 1)] [ki64, (.sl [ki64])] [(.sl [ki64])])
   (.nd (.pr (.len [ki64]) [(.v 12)])
   (.nd (.call 11 [(.v 3)] [ku32] [(.sl [ki64])])
   (.nd (.pr (.len [ki64]) [(.v 14)])
   (.blk 2 []
    (.loop [ki64] [(.k (.i 0))]
     (.nd (.pr (.len [ki64]) [(.v 12)])
     (.nd (.pr (.len [ki64]) [(.v 14)])
     (.nd (.pr (.cmp .lss .i64) [(.v 16), (.v 18)])
     (.ite (.v 19)
      (.blk 3 []
       (.blk 4 [kb]
        (.loop [kb, ki64] [(.k (.b false)), (.k (.i 0))]
         (.nd (.pr (.len [ki64]) [(.v 12)])
         (.nd (.pr (.len [ki64]) [(.v 14)])
         (.nd (.pr (.cmp .lss .i64) [(.v 21), (.v 22)])
         (.ite (.v 24)
          (.blk 5 [kb]
           (.ite (.v 20)
            (.out 0 [(.k (.b true))])
            (.nd (.pr (.ixc .i64) [(.v 21), (.v 22)])
            (.nd (.pr (.get [ki64] 0) [(.v 12), (.v 25)])
            (.nd (.pr (.ixc .i64) [(.v 16), (.v 23)])
            (.nd (.pr (.get [ki64] 0) [(.v 14), (.v 27)])
            (.nd (.pr (.cmp .eql .i64) [(.v 26), (.v 28)])
            (.out 0 [(.v 29)])))))))
          (.nd (.pr (.len [ki64]) [(.v 12)])
          (.nd (.pr (.len [ki64]) [(.v 14)])
          (.nd (.pr (.bin .add .i64) [(.v 21), (.k (.i 1))])
          (.out 0 [(.v 25), (.v 28)])))))
          (.out 4 [(.v 20)]))))))
       (.nd (.pr (.len [ki64]) [(.v 12)])
       (.nd (.pr (.len [ki64]) [(.v 14)])
       (.nd (.pr .not [(.v 20)])
       (.ite (.v 23)
        (.out 1 [(.k (.b false))])
        (.out 0 []))))))
      (.nd (.pr (.len [ki64]) [(.v 12)])
      (.nd (.pr (.len [ki64]) [(.v 14)])
      (.nd (.pr (.bin .add .i64) [(.v 16), (.k (.i 1))])
      (.out 0 [(.v 22)])))))
      (.out 2 []))))))
   (.nd (.pr (.len [ki64]) [(.v 14)])
   (.nd (.pr (.ixc .i64) [(.k (.i 0)), (.v 16)])
   (.nd (.pr (.get [ki64] 0) [(.v 14), (.v 17)])
   (.nd (.pr (.len [ki64]) [(.v 1)])
   (.nd (.pr (.ixc .i64) [(.v 18), (.v 19)])
   (.nd (.pr (.get [ki64] 0) [(.v 1), (.v 20)])
   (.seq [kb]
    (.nd (.pr (.cmp .eql .i64) [(.v 0), (.k (.i 1))])
    (.ite (.v 22)
     (.nd (.pr (.cmp .gtr .i64) [(.v 21), (.k (.i 16))])
     (.out 0 [(.v 23)]))
     (.out 0 [(.k (.b false))])))
   (.seq [kb]
    (.nd (.pr (.cmp .neq .i64) [(.v 4), (.k (.i 1))])
    (.ite (.v 23)
     (.nd (.pr (.cmp .neq .u32) [(.v 7), (.k (.i 0))])
     (.out 0 [(.v 24)]))
     (.ite (.v 22)
      (.nd (.pr (.cmp .neq .u32) [(.v 7), (.k (.i 0))])
      (.out 0 [(.v 24)]))
      (.out 0 [(.k (.b false))]))))
   (.ite (.v 23)
    (.out 1 [(.k (.b false))])
    (.blk 6 []
     (.ite (.v 22)
      (.nd (.call 16 [(.v 21)] [ki64] [ki64])
      (.nd (.call 17 [(.v 0), (.v 1), (.v 2), (.v 3), (.v 4), (.v 5), (.v 6), (.v 7), (.v 24), (.v 8)] [ki64, (.sl [ki64]), (.sl [ki64]), ku32, ki64, ki64, ki64, ku32, ki64, ki64] [kb])
      (.out 1 [(.v 25)])))
      (.nd (.pr (.cmp .eql .i64) [(.v 0), (.k (.i 1))])
      (.ite (.v 24)
       (.seq [kb]
        (.nd (.pr (.cmp .eql .i64) [(.v 6), (.k (.i 0))])
        (.ite (.v 25)
         (.nd (.pr (.cmp .eql .i64) [(.v 4), (.k (.i 0))])
         (.ite (.v 26)
          (.out 0 [(.k (.b true))])
          (.nd (.pr (.cmp .eql .i64) [(.v 4), (.k (.i 1))])
          (.ite (.v 27)
           (.nd (.pr (.cmp .lss .i64) [(.v 5), (.v 8)])
           (.ite (.v 28)
            (.nd (.call 19 [(.v 21)] [ki64] [ki64])
            (.nd (.call 25 [(.v 7), (.v 29)] [ku32, ki64] [ki64])
            (.nd (.pr (.cmp .gtr .i64) [(.v 30), (.k (.i 0))])
            (.out 0 [(.v 31)]))))
            (.out 0 [(.k (.b false))])))
           (.out 0 [(.k (.b false))])))))
         (.out 0 [(.k (.b false))])))
       (.out 1 [(.v 25)]))
       (.out 0 []))))
    (.blk 7 []
     (.nd (.pr (.cmp .eql .i64) [(.v 4), (.k (.i 0))])
     (.ite (.v 24)
      (.seq [kb]
       (.nd (.pr (.cmp .eql .i64) [(.v 5), (.k (.i 0))])
       (.ite (.v 25)
        (.nd (.pr (.cmp .eql .i64) [(.v 6), (.k (.i 0))])
        (.out 0 [(.v 26)]))
        (.out 0 [(.k (.b false))])))
      (.out 1 [(.v 25)]))
      (.nd (.pr (.cmp .eql .i64) [(.v 4), (.k (.i 1))])
      (.ite (.v 25)
       (.seq [kb]
        (.nd (.pr (.cmp .eql .i64) [(.v 5), (.k (.i 0))])
        (.ite (.v 26)
         (.nd (.pr (.cmp .eql .i64) [(.v 6), (.k (.i 0))])
         (.ite (.v 27)
          (.nd (.pr (.bin .mul .i64) [(.k (.i 16)), (.v 8)])
          (.nd (.pr (.cmp .lss .i64) [(.v 21), (.v 28)])
          (.ite (.v 29)
           (.nd (.pr (.bin .rem .i64) [(.v 21), (.k (.i 16))])
           (.nd (.call 32 [(.v 7), (.v 30)] [ku32, ki64] [kb])
           (.out 0 [(.v 31)])))
           (.out 0 [(.k (.b false))]))))
          (.out 0 [(.k (.b false))])))
         (.out 0 [(.k (.b false))])))
       (.out 1 [(.v 26)]))
       (.nd (.pr (.cmp .eql .i64) [(.v 4), (.k (.i 2))])
       (.ite (.v 26)
        (.seq [kb]
         (.nd (.pr (.cmp .gtr .i64) [(.v 6), (.k (.i 0))])
         (.ite (.v 27)
          (.nd (.pr (.bin .add .i64) [(.v 5), (.v 6)])
          (.nd (.pr (.cmp .leq .i64) [(.v 28), (.v 8)])
          (.out 0 [(.v 29)])))
          (.out 0 [(.k (.b false))])))
        (.out 1 [(.v 27)]))
        (.out 0 [])))))))
    (.out 1 [(.k (.b false))])))))))))))))))))))))))
def e33 : Fe := ⟨⟨114, [ki64, (.sl [ki64]), (.sl [ki64]), ku32, ki64, ki64, ki64, ku32, ki64], [(.agg [(.dat ki64 (.v 0)), (.lz [ki64] (.v 1)), (.lz [ki64] (.v 2)), (.dat ku32 (.v 3)), (.dat ki64 (.v 4)), (.dat ki64 (.v 5)), (.dat ki64 (.v 6)), (.dat ku32 (.v 7))]), (.dat ki64 (.v 8))], [], [kb], [(.dat kb (.v 9))], [], 0⟩,
 ⟨[(16381, ⟨[], [], [], 0⟩), (2096830, ⟨[kb], [(4, (.dat kb (.v 27)))], [], 0⟩), (524206, ⟨[kb], [(4, (.dat kb (.v 26)))], [], 0⟩), (131050, ⟨[kb], [(4, (.dat kb (.v 25)))], [], 0⟩), (4094, ⟨[], [(1, (.dat ki64 (.v 8))), (2, (.ptr 0 0)), (10, (.dat ki64 (.v 21)))], [(0, (.cells [(.dat ki64 (.v 0)), (.lz [ki64] (.v 1)), (.lz [ki64] (.v 2)), (.dat ku32 (.v 3)), (.dat ki64 (.v 4)), (.dat ki64 (.v 5)), (.dat ki64 (.v 6)), (.dat ku32 (.v 7))]))], 1⟩), (131022, ⟨[kb], [(4, (.dat kb (.v 25)))], [], 0⟩), (2046, ⟨[kb], [(1, (.dat ki64 (.v 8))), (2, (.ptr 0 0)), (10, (.dat ki64 (.v 21))), (11, (.dat kb (.v 22))), (158, (.dat kb (.v 23)))], [(0, (.cells [(.dat ki64 (.v 0)), (.lz [ki64] (.v 1)), (.lz [ki64] (.v 2)), (.dat ku32 (.v 3)), (.dat ki64 (.v 4)), (.dat ki64 (.v 5)), (.dat ki64 (.v 6)), (.dat ku32 (.v 7))]))], 1⟩), (511, ⟨[kb], [(1, (.dat ki64 (.v 8))), (2, (.ptr 0 0)), (10, (.dat ki64 (.v 21))), (11, (.dat kb (.v 22)))], [(0, (.cells [(.dat ki64 (.v 0)), (.lz [ki64] (.v 1)), (.lz [ki64] (.v 2)), (.dat ku32 (.v 3)), (.dat ki64 (.v 4)), (.dat ki64 (.v 5)), (.dat ki64 (.v 6)), (.dat ku32 (.v 7))]))], 1⟩), (509, ⟨[], [(1, (.dat ki64 (.v 8))), (2, (.ptr 0 0)), (6, (.sl 1 (.k (.i 0)) (.v 16) 1))], [(0, (.cells [(.dat ki64 (.v 0)), (.lz [ki64] (.v 1)), (.lz [ki64] (.v 2)), (.dat ku32 (.v 3)), (.dat ki64 (.v 4)), (.dat ki64 (.v 5)), (.dat ki64 (.v 6)), (.dat ku32 (.v 7))])), (1, (.arr [ki64] (.v 14) (.v 16)))], 2⟩), (1018, ⟨[ki64], [(1, (.dat ki64 (.v 8))), (2, (.ptr 0 0)), (5, (.sl 1 (.k (.i 0)) (.v 17) 1)), (6, (.sl 2 (.k (.i 0)) (.v 18) 1)), (7, (.dat ki64 (.v 16)))], [(0, (.cells [(.dat ki64 (.v 0)), (.lz [ki64] (.v 1)), (.lz [ki64] (.v 2)), (.dat ku32 (.v 3)), (.dat ki64 (.v 4)), (.dat ki64 (.v 5)), (.dat ki64 (.v 6)), (.dat ku32 (.v 7))])), (1, (.arr [ki64] (.v 12) (.v 17))), (2, (.arr [ki64] (.v 14) (.v 18)))], 3⟩), (8146, ⟨[], [(1, (.dat ki64 (.v 8))), (2, (.ptr 0 0)), (5, (.sl 1 (.k (.i 0)) (.v 20) 1)), (6, (.sl 2 (.k (.i 0)) (.v 21) 1)), (7, (.dat ki64 (.v 16)))], [(0, (.cells [(.dat ki64 (.v 0)), (.lz [ki64] (.v 1)), (.lz [ki64] (.v 2)), (.dat ku32 (.v 3)), (.dat ki64 (.v 4)), (.dat ki64 (.v 5)), (.dat ki64 (.v 6)), (.dat ku32 (.v 7))])), (1, (.arr [ki64] (.v 12) (.v 20))), (2, (.arr [ki64] (.v 14) (.v 21)))], 3⟩), (130341, ⟨[kb], [(1, (.dat ki64 (.v 8))), (2, (.ptr 0 0)), (5, (.sl 1 (.k (.i 0)) (.v 21) 1)), (6, (.sl 2 (.k (.i 0)) (.v 22) 1)), (7, (.dat ki64 (.v 16))), (8, (.dat kb (.v 20)))], [(0, (.cells [(.dat ki64 (.v 0)), (.lz [ki64] (.v 1)), (.lz [ki64] (.v 2)), (.dat ku32 (.v 3)), (.dat ki64 (.v 4)), (.dat ki64 (.v 5)), (.dat ki64 (.v 6)), (.dat ku32 (.v 7))])), (1, (.arr [ki64] (.v 12) (.v 21))), (2, (.arr [ki64] (.v 14) (.v 22)))], 3⟩), (260682, ⟨[kb, ki64], [(1, (.dat ki64 (.v 8))), (2, (.ptr 0 0)), (5, (.sl 1 (.k (.i 0)) (.v 22) 1)), (6, (.sl 2 (.k (.i 0)) (.v 23) 1)), (7, (.dat ki64 (.v 16))), (8, (.dat kb (.v 20))), (9, (.dat ki64 (.v 21)))], [(0, (.cells [(.dat ki64 (.v 0)), (.lz [ki64] (.v 1)), (.lz [ki64] (.v 2)), (.dat ku32 (.v 3)), (.dat ki64 (.v 4)), (.dat ki64 (.v 5)), (.dat ki64 (.v 6)), (.dat ku32 (.v 7))])), (1, (.arr [ki64] (.v 12) (.v 22))), (2, (.arr [ki64] (.v 14) (.v 23)))], 3⟩), (2085458, ⟨[kb], [(1, (.dat ki64 (.v 8))), (2, (.ptr 0 0)), (5, (.sl 1 (.k (.i 0)) (.v 26) 1)), (6, (.sl 2 (.k (.i 0)) (.v 27) 1)), (7, (.dat ki64 (.v 16))), (8, (.dat kb (.v 25))), (9, (.dat ki64 (.v 21)))], [(0, (.cells [(.dat ki64 (.v 0)), (.lz [ki64] (.v 1)), (.lz [ki64] (.v 2)), (.dat ku32 (.v 3)), (.dat ki64 (.v 4)), (.dat ki64 (.v 5)), (.dat ki64 (.v 6)), (.dat ku32 (.v 7))])), (1, (.arr [ki64] (.v 12) (.v 26))), (2, (.arr [ki64] (.v 14) (.v 27)))], 3⟩), (30, ⟨[kb], [(1, (.dat ki64 (.v 8))), (2, (.ptr 0 0)), (99, (.dat kb (.v 11)))], [(0, (.cells [(.dat ki64 (.v 0)), (.lz [ki64] (.v 1)), (.lz [ki64] (.v 2)), (.dat ku32 (.v 3)), (.dat ki64 (.v 4)), (.dat ki64 (.v 5)), (.dat ki64 (.v 6)), (.dat ku32 (.v 7))]))], 1⟩), (58, ⟨[kb], [(4, (.dat kb (.v 11)))], [], 0⟩), (6, ⟨[kb], [(1, (.dat ki64 (.v 8))), (2, (.ptr 0 0)), (35, (.dat kb (.v 9)))], [(0, (.cells [(.dat ki64 (.v 0)), (.lz [ki64] (.v 1)), (.lz [ki64] (.v 2)), (.dat ku32 (.v 3)), (.dat ki64 (.v 4)), (.dat ki64 (.v 5)), (.dat ki64 (.v 6)), (.dat ku32 (.v 7))]))], 1⟩)], []⟩,
 [(4, (.dat kb (.v 9)))], some t33, fun _ => none⟩
/-- loop.example/g00709/spec.WarpSubmit -/
def t34 : Tr :=
(.seq [kb]
 (.nd (.call 33 [(.v 0), (.v 1), (.v 2), (.v 3), (.v 4), (.v 5), (.v 6), (.v 7), (.k (.i 16))] [ki64, (.sl [ki64]), (.sl [ki64]), ku32, ki64, ki64, ki64, ku32, ki64] [kb])
 (.nd (.pr .not [(.v 10)])
 (.ite (.v 11)
  (.out 0 [(.k (.b true))])
  (.nd (.pr (.cmp .neq .i64) [(.v 0), (.k (.i 0))])
  (.ite (.v 12)
   (.out 0 [(.k (.b true))])
   (.nd (.call 14 [(.v 8), (.v 9)] [ki64, (.sl [ki64])] [kb])
   (.nd (.pr .not [(.v 13)])
   (.out 0 [(.v 14)]))))))))
(.ite (.v 10)
 (.out 1 [(.k (.b false)), (.k (.i 0)), (.k (.i 0)), (.k (.l [])), (.k (.l []))])
 (.nd (.call 5 [] [] [(.sl [ki64]), (.sl [ki64])])
 (.nd (.pr (.len [ki64]) [(.v 11)])
 (.nd (.pr (.len [ki64]) [(.v 12)])
 (.nd (.pr (.app [ki64] 8) [(.k (.l [])), (.v 9)])
 (.nd (.pr (.len [ki64]) [(.v 15)])
 (.nd (.call 15 [(.v 8), (.v 9)] [ki64, (.sl [ki64])] [(.sl [ki64])])
 (.nd (.pr (.len [ki64]) [(.v 17)])
 (.nd (.call 29 [(.v 17)] [(.sl [ki64])] [ku32, kb])
 (.seq [ki64]
  (.nd (.pr (.cmp .neq .u32) [(.v 19), (.k (.i 0))])
  (.ite (.v 21)
   (.out 0 [(.v 8)])
   (.out 0 [(.k (.i 0))])))
 (.nd (.pr (.len [ki64]) [(.v 15)])
 (.nd (.pr (.len [ki64]) [(.v 12)])
 (.out 1 [(.k (.b true)), (.v 21), (.v 19), (.v 15), (.v 12)]))))))))))))))
def e34 : Fe := ⟨⟨172, [ki64, (.sl [ki64]), (.sl [ki64]), ku32, ki64, ki64, ki64, ku32, ki64, (.sl [ki64])], [(.agg [(.dat ki64 (.v 0)), (.lz [ki64] (.v 1)), (.lz [ki64] (.v 2)), (.dat ku32 (.v 3)), (.dat ki64 (.v 4)), (.dat ki64 (.v 5)), (.dat ki64 (.v 6)), (.dat ku32 (.v 7))]), (.agg [(.dat ki64 (.v 8)), (.lz [ki64] (.v 9))])], [], [kb, ki64, ku32, (.sl [ki64]), (.sl [ki64])], [(.agg [(.dat ki64 (.v 11)), (.sl 1 (.k (.i 0)) (.v 15) 1), (.sl 2 (.k (.i 0)) (.v 16) 1), (.dat ku32 (.v 12)), (.dat ki64 (.k (.i 0))), (.dat ki64 (.k (.i 0))), (.dat ki64 (.k (.i 0))), (.dat ku32 (.k (.i 0)))]), (.dat kb (.v 10))], [(0, (.cells [(.dat ki64 (.v 11)), (.sl 1 (.k (.i 0)) (.v 15) 1), (.sl 2 (.k (.i 0)) (.v 16) 1), (.dat ku32 (.v 12)), (.dat ki64 (.k (.i 0))), (.dat ki64 (.k (.i 0))), (.dat ki64 (.k (.i 0))), (.dat ku32 (.k (.i 0)))])), (1, (.arr [ki64] (.v 13) (.v 15))), (2, (.arr [ki64] (.v 14) (.v 16)))], 3⟩,
 ⟨[(63, ⟨[ki64], [(4, (.ptr 0 0)), (6, (.ptr 1 0))], [(0, (.cells [(.dat ki64 (.k (.i 0))), .nilS, .nilS, (.dat ku32 (.k (.i 0))), (.dat ki64 (.k (.i 0))), (.dat ki64 (.k (.i 0))), (.dat ki64 (.k (.i 0))), (.dat ku32 (.k (.i 0)))])), (1, (.cells [(.dat ki64 (.v 21)), (.sl 2 (.k (.i 0)) (.v 22) 1), (.sl 3 (.k (.i 0)) (.v 23) 1), (.dat ku32 (.v 19)), (.dat ki64 (.k (.i 0))), (.dat ki64 (.k (.i 0))), (.dat ki64 (.k (.i 0))), (.dat ku32 (.k (.i 0)))])), (2, (.arr [ki64] (.v 15) (.v 22))), (3, (.arr [ki64] (.v 12) (.v 23)))], 4⟩), (6, ⟨[kb], [(3, (.ptr 0 0)), (4, (.ptr 1 0)), (19, (.dat kb (.v 10)))], [(0, (.cells [(.dat ki64 (.v 8)), (.lz [ki64] (.v 9))])), (1, (.cells [(.dat ki64 (.k (.i 0))), .nilS, .nilS, (.dat ku32 (.k (.i 0))), (.dat ki64 (.k (.i 0))), (.dat ki64 (.k (.i 0))), (.dat ki64 (.k (.i 0))), (.dat ku32 (.k (.i 0)))]))], 2⟩)], []⟩,
 [(4, (.ptr 0 0)), (5, (.dat kb (.v 10)))], some t34, fun _ => none⟩
/-- loop.example/g00709/spec.l07MemOk -/
def t35 : Tr :=
(.nd (.pr (.len [ku32]) [(.v 0)])
(.nd (.pr (.cmp .gtr .i64) [(.v 1), (.k (.i 16))])
(.ite (.v 2)
 (.out 1 [(.k (.b false))])
 (.blk 2 []
  (.loop [ki64] [(.k (.i 0))]
   (.nd (.pr (.len [ku32]) [(.v 0)])
   (.nd (.pr (.cmp .lss .i64) [(.v 3), (.v 4)])
   (.ite (.v 5)
    (.blk 3 []
     (.nd (.pr (.len [ku32]) [(.v 0)])
     (.nd (.pr (.ixc .i64) [(.v 3), (.v 6)])
     (.nd (.pr (.get [ku32] 0) [(.v 0), (.v 7)])
     (.nd (.call 23 [(.v 8)] [ku32] [kb, ki64, ki64, ku32, ki64])
     (.nd (.pr .not [(.v 9)])
     (.ite (.v 14)
      (.out 1 [(.k (.b false))])
      (.out 0 [])))))))
    (.nd (.pr (.bin .add .i64) [(.v 3), (.k (.i 1))])
    (.out 0 [(.v 6)])))
    (.out 2 [])))))
 (.out 1 [(.k (.b true))])))))
def e35 : Fe := ⟨⟨96, [(.sl [ku32])], [(.agg [(.lz [ku32] (.v 0))])], [], [kb], [(.dat kb (.v 1))], [], 0⟩,
 ⟨[(29, ⟨[], [], [], 0⟩), (58, ⟨[ki64], [(1, (.ptr 0 0)), (3, (.dat ki64 (.v 3)))], [(0, (.cells [(.lz [ku32] (.v 0))]))], 1⟩), (466, ⟨[], [(1, (.ptr 0 0)), (3, (.dat ki64 (.v 3)))], [(0, (.cells [(.lz [ku32] (.v 0))]))], 1⟩)], []⟩,
 [(2, (.dat kb (.v 1)))], some t35, fun _ => none⟩
/-- loop.example/g00709/spec.l07Copy -/
def t36 : Tr :=
(.nd (.pr (.app [ki64] 8) [(.k (.l [])), (.v 1)])
(.nd (.pr (.len [ki64]) [(.v 8)])
(.nd (.pr (.app [ki64] 8) [(.k (.l [])), (.v 2)])
(.nd (.pr (.len [ki64]) [(.v 10)])
(.out 1 [(.v 8), (.v 10)])))))
def e36 : Fe := ⟨⟨182, [ki64, (.sl [ki64]), (.sl [ki64]), ku32, ki64, ki64, ki64, ku32], [(.agg [(.dat ki64 (.v 0)), (.lz [ki64] (.v 1)), (.lz [ki64] (.v 2)), (.dat ku32 (.v 3)), (.dat ki64 (.v 4)), (.dat ki64 (.v 5)), (.dat ki64 (.v 6)), (.dat ku32 (.v 7))])], [], [(.sl [ki64]), (.sl [ki64])], [(.agg [(.dat ki64 (.v 0)), (.sl 1 (.k (.i 0)) (.v 10) 1), (.sl 2 (.k (.i 0)) (.v 11) 1), (.dat ku32 (.v 3)), (.dat ki64 (.v 4)), (.dat ki64 (.v 5)), (.dat ki64 (.v 6)), (.dat ku32 (.v 7))])], [(0, (.cells [(.dat ki64 (.v 0)), (.sl 1 (.k (.i 0)) (.v 10) 1), (.sl 2 (.k (.i 0)) (.v 11) 1), (.dat ku32 (.v 3)), (.dat ki64 (.v 4)), (.dat ki64 (.v 5)), (.dat ki64 (.v 6)), (.dat ku32 (.v 7))])), (1, (.arr [ki64] (.v 8) (.v 10))), (2, (.arr [ki64] (.v 9) (.v 11)))], 3⟩,
 ⟨[], []⟩,
 [(2, (.ptr 0 0))], some t36, fun _ => none⟩
/-- loop.example/g00709/spec.Lowest -/
def t37 : Tr :=
(.nd (.call 11 [(.v 0)] [ku32] [(.sl [ki64])])
(.nd (.pr (.len [ki64]) [(.v 1)])
(.nd (.pr (.cmp .eql .i64) [(.v 2), (.k (.i 0))])
(.ite (.v 3)
 (.out 1 [(.k (.i (-1)))])
 (.nd (.pr (.ixc .i64) [(.k (.i 0)), (.v 2)])
 (.nd (.pr (.get [ki64] 0) [(.v 1), (.v 4)])
 (.out 1 [(.v 5)])))))))
def e37 : Fe := ⟨⟨183, [ku32], [(.dat ku32 (.v 0))], [], [ki64], [(.dat ki64 (.v 1))], [], 0⟩,
 ⟨[], []⟩,
 [(2, (.dat ki64 (.v 1)))], some t37, fun _ => none⟩
/-- loop.example/g00709/spec.l07Group -/
def t38 : Tr :=
(.nd (.call 11 [(.v 3)] [ku32] [(.sl [ki64])])
(.nd (.pr (.len [ki64]) [(.v 8)])
(.seq [kb]
 (.nd (.pr (.cmp .eql .i64) [(.v 0), (.k (.i 2))])
 (.ite (.v 10)
  (.out 0 [(.k (.b true))])
  (.nd (.pr (.ixc .i64) [(.k (.i 0)), (.v 9)])
  (.nd (.pr (.get [ki64] 0) [(.v 8), (.v 11)])
  (.nd (.pr (.len [ki64]) [(.v 1)])
  (.nd (.pr (.ixc .i64) [(.v 12), (.v 13)])
  (.nd (.pr (.get [ki64] 0) [(.v 1), (.v 14)])
  (.nd (.pr (.cmp .gtr .i64) [(.v 15), (.k (.i 16))])
  (.out 0 [(.v 16)])))))))))
(.nd (.pr (.len [ki64]) [(.v 8)])
(.ite (.v 10)
 (.nd (.pr (.rng .i64 .i64) [(.k (.i 0)), (.k (.i 1)), (.v 11)])
 (.nd (.pr (.cut [ki64] .i64 .i64) [(.v 8), (.k (.i 0)), (.k (.i 1))])
 (.out 1 [(.v 13)])))
 (.blk 2 [(.sl [ki64])]
  (.loop [ki64, (.sl [ki64])] [(.k (.i 0)), (.k (.l []))]
   (.nd (.pr (.len [ki64]) [(.v 8)])
   (.nd (.pr (.len [ki64]) [(.v 13)])
   (.nd (.pr (.cmp .lss .i64) [(.v 12), (.v 14)])
   (.ite (.v 16)
    (.blk 3 [(.sl [ki64])]
     (.nd (.pr (.ixc .i64) [(.v 12), (.v 14)])
     (.nd (.pr (.get [ki64] 0) [(.v 8), (.v 17)])
     (.nd (.pr (.len [ki64]) [(.v 1)])
     (.nd (.pr (.ixc .i64) [(.v 18), (.v 19)])
     (.nd (.pr (.get [ki64] 0) [(.v 1), (.v 20)])
     (.nd (.pr (.ixc .i64) [(.k (.i 0)), (.v 14)])
     (.nd (.pr (.get [ki64] 0) [(.v 8), (.v 22)])
     (.nd (.pr (.len [ki64]) [(.v 1)])
     (.nd (.pr (.ixc .i64) [(.v 23), (.v 24)])
     (.nd (.pr (.get [ki64] 0) [(.v 1), (.v 25)])
     (.nd (.call 19 [(.v 21)] [ki64] [ki64])
     (.nd (.call 19 [(.v 26)] [ki64] [ki64])
     (.nd (.pr (.cmp .eql .i64) [(.v 27), (.v 28)])
     (.ite (.v 29)
      (.nd (.pr (.ixc .i64) [(.v 12), (.v 14)])
      (.nd (.pr (.get [ki64] 0) [(.v 8), (.v 30)])
      (.nd (.pr (.mk [ki64] 1) [(.v 31)])
      (.nd (.pr (.app [ki64] 8) [(.v 13), (.v 32)])
      (.nd (.pr (.len [ki64]) [(.v 33)])
      (.out 0 [(.v 33)]))))))
      (.out 0 [(.v 13)])))))))))))))))
    (.nd (.pr (.len [ki64]) [(.v 8)])
    (.nd (.pr (.len [ki64]) [(.v 17)])
    (.nd (.pr (.bin .add .i64) [(.v 12), (.k (.i 1))])
    (.out 0 [(.v 20), (.v 17)])))))
    (.out 2 [(.v 13)]))))))
 (.nd (.pr (.len [ki64]) [(.v 12)])
 (.out 1 [(.v 12)]))))))))
def e38 : Fe := ⟨⟨188, [ki64, (.sl [ki64]), (.sl [ki64]), ku32, ki64, ki64, ki64, ku32], [(.agg [(.dat ki64 (.v 0)), (.lz [ki64] (.v 1)), (.lz [ki64] (.v 2)), (.dat ku32 (.v 3)), (.dat ki64 (.v 4)), (.dat ki64 (.v 5)), (.dat ki64 (.v 6)), (.dat ku32 (.v 7))])], [], [(.sl [ki64])], [(.sl 0 (.k (.i 0)) (.v 9) 1)], [(0, (.arr [ki64] (.v 8) (.v 9)))], 1⟩,
 ⟨[(125, ⟨[(.sl [ki64])], [(4, (.sl 0 (.k (.i 0)) (.v 13) 1))], [(0, (.arr [ki64] (.v 12) (.v 13)))], 1⟩), (250, ⟨[ki64, (.sl [ki64])], [(1, (.ptr 0 0)), (3, (.sl 1 (.k (.i 0)) (.v 14) 1)), (4, (.sl 2 (.k (.i 0)) (.v 15) 1)), (5, (.dat ki64 (.v 12)))], [(0, (.cells [(.dat ki64 (.v 0)), (.lz [ki64] (.v 1)), (.lz [ki64] (.v 2)), (.dat ku32 (.v 3)), (.dat ki64 (.v 4)), (.dat ki64 (.v 5)), (.dat ki64 (.v 6)), (.dat ku32 (.v 7))])), (1, (.arr [ki64] (.v 8) (.v 14))), (2, (.arr [ki64] (.v 13) (.v 15)))], 3⟩), (2002, ⟨[(.sl [ki64])], [(1, (.ptr 0 0)), (3, (.sl 1 (.k (.i 0)) (.v 18) 1)), (4, (.sl 2 (.k (.i 0)) (.v 19) 1)), (5, (.dat ki64 (.v 12)))], [(0, (.cells [(.dat ki64 (.v 0)), (.lz [ki64] (.v 1)), (.lz [ki64] (.v 2)), (.dat ku32 (.v 3)), (.dat ki64 (.v 4)), (.dat ki64 (.v 5)), (.dat ki64 (.v 6)), (.dat ku32 (.v 7))])), (1, (.arr [ki64] (.v 8) (.v 18))), (2, (.arr [ki64] (.v 17) (.v 19)))], 3⟩), (14, ⟨[kb], [(1, (.ptr 0 0)), (3, (.sl 1 (.k (.i 0)) (.v 11) 1)), (21, (.dat kb (.v 10)))], [(0, (.cells [(.dat ki64 (.v 0)), (.lz [ki64] (.v 1)), (.lz [ki64] (.v 2)), (.dat ku32 (.v 3)), (.dat ki64 (.v 4)), (.dat ki64 (.v 5)), (.dat ki64 (.v 6)), (.dat ku32 (.v 7))])), (1, (.arr [ki64] (.v 8) (.v 11)))], 2⟩)], [(0, [1])]⟩,
 [(2, (.sl 0 (.k (.i 0)) (.v 9) 1))], some t38, fun _ => none⟩
/-- loop.example/g00709/spec.MemOk -/
def t39 : Tr :=
(.nd (.pr (.len [ku32]) [(.v 0)])
(.nd (.pr (.cmp .leq .i64) [(.v 1), (.k (.i 64))])
(.out 1 [(.v 2)])))
def e39 : Fe := ⟨⟨202, [(.sl [ku32])], [(.agg [(.lz [ku32] (.v 0))])], [], [kb], [(.dat kb (.v 1))], [], 0⟩,
 ⟨[], []⟩,
 [(2, (.dat kb (.v 1)))], some t39, fun _ => none⟩
/-- loop.example/g00709/spec.l01Has -/
def t40 : Tr :=
(.seq [kb]
 (.nd (.call 39 [(.v 0)] [(.sl [ku32])] [kb])
 (.ite (.v 2)
  (.nd (.pr (.cmp .geq .i64) [(.v 1), (.k (.i 0))])
  (.ite (.v 3)
   (.nd (.pr (.len [ku32]) [(.v 0)])
   (.nd (.pr (.cmp .lss .i64) [(.v 1), (.v 4)])
   (.out 0 [(.v 5)])))
   (.out 0 [(.k (.b false))])))
  (.out 0 [(.k (.b false))])))
(.out 1 [(.v 2)]))
def e40 : Fe := ⟨⟨199, [(.sl [ku32]), ki64], [(.agg [(.lz [ku32] (.v 0))]), (.dat ki64 (.v 1))], [], [kb], [(.dat kb (.v 2))], [], 0⟩,
 ⟨[(3, ⟨[kb], [(4, (.dat kb (.v 2)))], [], 0⟩)], []⟩,
 [(4, (.dat kb (.v 2)))], some t40, fun _ => none⟩
/-- loop.example/g00709/spec.MemLoad -/
def t41 : Tr :=
(.nd (.call 40 [(.v 0), (.v 1)] [(.sl [ku32]), ki64] [kb])
(.nd (.pr .not [(.v 2)])
(.ite (.v 3)
 (.out 1 [(.k (.i 0)), (.k (.b false))])
 (.nd (.pr (.len [ku32]) [(.v 0)])
 (.nd (.pr (.ixc .i64) [(.v 1), (.v 4)])
 (.nd (.pr (.get [ku32] 0) [(.v 0), (.v 5)])
 (.out 1 [(.v 6), (.k (.b true))])))))))
def e41 : Fe := ⟨⟨189, [(.sl [ku32]), ki64], [(.agg [(.lz [ku32] (.v 0))]), (.dat ki64 (.v 1))], [], [ku32, kb], [(.dat ku32 (.v 2)), (.dat kb (.v 3))], [], 0⟩,
 ⟨[], []⟩,
 [(4, (.dat ku32 (.v 2))), (5, (.dat kb (.v 3)))], some t41, fun _ => none⟩
/-- loop.example/g00709/spec.Spread -/
def t42 : Tr :=
(.seq [kb]
 (.nd (.call 9 [(.v 0)] [(.sl [ki64])] [kb])
 (.nd (.pr .not [(.v 3)])
 (.ite (.v 4)
  (.out 0 [(.k (.b true))])
  (.nd (.call 13 [(.v 1)] [ku32] [kb])
  (.nd (.pr .not [(.v 5)])
  (.out 0 [(.v 6)]))))))
(.ite (.v 3)
 (.out 1 [(.k (.l []))])
 (.nd (.pr (.app [ki64] 8) [(.k (.l [])), (.v 0)])
 (.nd (.pr (.len [ki64]) [(.v 4)])
 (.nd (.call 11 [(.v 1)] [ku32] [(.sl [ki64])])
 (.nd (.pr (.len [ki64]) [(.v 6)])
 (.blk 2 [(.sl [ki64])]
  (.loop [ki64, (.sl [ki64])] [(.k (.i 0)), (.v 4)]
   (.nd (.pr (.len [ki64]) [(.v 9)])
   (.nd (.pr (.len [ki64]) [(.v 6)])
   (.seq [kb]
    (.nd (.pr (.cmp .lss .i64) [(.v 8), (.v 11)])
    (.ite (.v 12)
     (.nd (.pr (.len [ki64]) [(.v 2)])
     (.nd (.pr (.cmp .lss .i64) [(.v 8), (.v 13)])
     (.out 0 [(.v 14)])))
     (.out 0 [(.k (.b false))])))
   (.nd (.pr (.len [ki64]) [(.v 9)])
   (.nd (.pr (.len [ki64]) [(.v 6)])
   (.ite (.v 12)
    (.blk 3 [(.sl [ki64])]
     (.nd (.pr (.ixc .i64) [(.v 8), (.v 14)])
     (.nd (.pr (.get [ki64] 0) [(.v 6), (.v 15)])
     (.nd (.pr (.len [ki64]) [(.v 2)])
     (.nd (.pr (.ixc .i64) [(.v 8), (.v 17)])
     (.nd (.pr (.get [ki64] 0) [(.v 2), (.v 18)])
     (.nd (.pr (.ixc .i64) [(.v 16), (.v 13)])
     (.nd (.pr (.set [ki64] 0) [(.v 9), (.v 20), (.v 19)])
     (.out 0 [(.v 21)]))))))))
    (.nd (.pr (.len [ki64]) [(.v 15)])
    (.nd (.pr (.len [ki64]) [(.v 6)])
    (.nd (.pr (.bin .add .i64) [(.v 8), (.k (.i 1))])
    (.out 0 [(.v 18), (.v 15)])))))
    (.out 2 [(.v 9)]))))))))
 (.nd (.pr (.len [ki64]) [(.v 8)])
 (.out 1 [(.v 8)])))))))))
def e42 : Fe := ⟨⟨200, [(.sl [ki64]), ku32, (.sl [ki64])], [(.lz [ki64] (.v 0)), (.dat ku32 (.v 1)), (.lz [ki64] (.v 2))], [], [(.sl [ki64])], [(.sl 0 (.k (.i 0)) (.v 4) 1)], [(0, (.arr [ki64] (.v 3) (.v 4)))], 1⟩,
 ⟨[(125, ⟨[(.sl [ki64])], [(7, (.sl 0 (.k (.i 0)) (.v 9) 1))], [(0, (.arr [ki64] (.v 8) (.v 9)))], 1⟩), (250, ⟨[ki64, (.sl [ki64])], [(2, (.lz [ki64] (.v 2))), (7, (.sl 0 (.k (.i 0)) (.v 10) 1)), (8, (.sl 1 (.k (.i 0)) (.v 11) 1)), (9, (.dat ki64 (.v 8)))], [(0, (.arr [ki64] (.v 9) (.v 10))), (1, (.arr [ki64] (.v 6) (.v 11)))], 2⟩), (2002, ⟨[(.sl [ki64])], [(2, (.lz [ki64] (.v 2))), (7, (.sl 0 (.k (.i 0)) (.v 16) 1)), (8, (.sl 1 (.k (.i 0)) (.v 17) 1)), (9, (.dat ki64 (.v 8)))], [(0, (.arr [ki64] (.v 15) (.v 16))), (1, (.arr [ki64] (.v 6) (.v 17)))], 2⟩), (1000, ⟨[kb], [(2, (.lz [ki64] (.v 2))), (7, (.sl 0 (.k (.i 0)) (.v 13) 1)), (8, (.sl 1 (.k (.i 0)) (.v 14) 1)), (9, (.dat ki64 (.v 8))), (32, (.dat kb (.v 12)))], [(0, (.arr [ki64] (.v 9) (.v 13))), (1, (.arr [ki64] (.v 6) (.v 14)))], 2⟩), (6, ⟨[kb], [(0, (.lz [ki64] (.v 0))), (1, (.dat ku32 (.v 1))), (2, (.lz [ki64] (.v 2))), (17, (.dat kb (.v 3)))], [], 0⟩)], [(4004, [0])]⟩,
 [(6, (.sl 0 (.k (.i 0)) (.v 4) 1))], some t42, fun _ => none⟩
/-- loop.example/g00709/spec.l07Done -/
def t43 : Tr :=
(.nd (.call 29 [(.v 8)] [(.sl [ki64])] [ku32, kb])
(.nd (.call 42 [(.v 2), (.v 10), (.v 9)] [(.sl [ki64]), ku32, (.sl [ki64])] [(.sl [ki64])])
(.nd (.pr (.len [ki64]) [(.v 12)])
(.nd (.pr (.bin .sub .u32) [(.v 3), (.v 10)])
(.nd (.pr (.cmp .eql .u32) [(.v 14), (.k (.i 0))])
(.ite (.v 15)
 (.out 1 [(.k (.i 0)), (.k (.i 0)), (.k (.i 0)), (.k (.i 0)), (.k (.i 0)), (.k (.i 0)), (.v 12)])
 (.out 1 [(.v 0), (.v 14), (.v 4), (.v 5), (.v 6), (.v 7), (.v 12)])))))))
def e43 : Fe := ⟨⟨190, [ki64, (.sl [ki64]), (.sl [ki64]), ku32, ki64, ki64, ki64, ku32, (.sl [ki64]), (.sl [ki64])], [(.agg [(.dat ki64 (.v 0)), (.dat (.sl [ki64]) (.v 1)), (.dat (.sl [ki64]) (.v 2)), (.dat ku32 (.v 3)), (.dat ki64 (.v 4)), (.dat ki64 (.v 5)), (.dat ki64 (.v 6)), (.dat ku32 (.v 7))]), (.lz [ki64] (.v 8)), (.lz [ki64] (.v 9))], [], [ki64, ku32, ki64, ki64, ki64, ku32, (.sl [ki64])], [(.agg [(.dat ki64 (.v 10)), (.dat (.sl [ki64]) (.v 1)), (.sl 1 (.k (.i 0)) (.v 17) 1), (.dat ku32 (.v 11)), (.dat ki64 (.v 12)), (.dat ki64 (.v 13)), (.dat ki64 (.v 14)), (.dat ku32 (.v 15))])], [(0, (.cells [(.dat ki64 (.v 10)), (.dat (.sl [ki64]) (.v 1)), (.sl 1 (.k (.i 0)) (.v 17) 1), (.dat ku32 (.v 11)), (.dat ki64 (.v 12)), (.dat ki64 (.v 13)), (.dat ki64 (.v 14)), (.dat ku32 (.v 15))])), (1, (.arr [ki64] (.v 16) (.v 17)))], 2⟩,
 ⟨[], []⟩,
 [(6, (.ptr 0 0))], some t43, fun _ => none⟩
/-- loop.example/g00709/spec.MemStore -/
def t44 : Tr :=
(.nd (.call 40 [(.v 0), (.v 1)] [(.sl [ku32]), ki64] [kb])
(.nd (.pr .not [(.v 3)])
(.ite (.v 4)
 (.out 1 [(.k (.b false)), (.k (.l []))])
 (.nd (.pr (.app [ku32] 4) [(.k (.l [])), (.v 0)])
 (.nd (.pr (.len [ku32]) [(.v 5)])
 (.nd (.pr (.ixc .i64) [(.v 1), (.v 6)])
 (.nd (.pr (.set [ku32] 0) [(.v 5), (.v 7), (.v 2)])
 (.out 1 [(.k (.b true)), (.v 8)]))))))))
def e44 : Fe := ⟨⟨196, [(.sl [ku32]), ki64, ku32], [(.agg [(.lz [ku32] (.v 0))]), (.dat ki64 (.v 1)), (.dat ku32 (.v 2))], [], [kb, (.sl [ku32])], [(.agg [(.sl 1 (.k (.i 0)) (.v 5) 1)]), (.dat kb (.v 3))], [(0, (.cells [(.sl 1 (.k (.i 0)) (.v 5) 1)])), (1, (.arr [ku32] (.v 4) (.v 5)))], 2⟩,
 ⟨[], []⟩,
 [(6, (.ptr 0 0)), (7, (.dat kb (.v 3)))], some t44, fun _ => none⟩
/-- loop.example/g00709/spec.l07Back -/
def t45 : Tr :=
(.nd (.pr (.bin .add .i64) [(.v 5), (.v 6)])
(.nd (.pr (.bin .sub .i64) [(.v 10), (.k (.i 1))])
(.nd (.call 44 [(.v 8), (.v 11), (.k (.i 0))] [(.sl [ku32]), ki64, ku32] [kb, (.sl [ku32])])
(.nd (.pr (.len [ku32]) [(.v 13)])
(.nd (.pr (.bin .sub .i64) [(.v 6), (.k (.i 1))])
(.out 1 [(.v 15), (.v 13)]))))))
def e45 : Fe := ⟨⟨191, [ki64, (.sl [ki64]), (.sl [ki64]), ku32, ki64, ki64, ki64, ku32, (.sl [ku32])], [(.agg [(.dat ki64 (.v 0)), (.dat (.sl [ki64]) (.v 1)), (.dat (.sl [ki64]) (.v 2)), (.dat ku32 (.v 3)), (.dat ki64 (.v 4)), (.dat ki64 (.v 5)), (.dat ki64 (.v 6)), (.dat ku32 (.v 7))]), (.agg [(.sl 0 (.k (.i 0)) (.v 9) 1)])], [(0, (.arr [ku32] (.v 8) (.v 9)))], [ki64, (.sl [ku32])], [(.agg [(.dat ki64 (.v 0)), (.dat (.sl [ki64]) (.v 1)), (.dat (.sl [ki64]) (.v 2)), (.dat ku32 (.v 3)), (.dat ki64 (.v 4)), (.dat ki64 (.v 5)), (.dat ki64 (.v 9)), (.dat ku32 (.v 7))]), (.agg [(.sl 3 (.k (.i 0)) (.v 12) 1)])], [(0, (.arr [ku32] (.v 8) (.v 11))), (1, (.cells [(.dat ki64 (.v 0)), (.dat (.sl [ki64]) (.v 1)), (.dat (.sl [ki64]) (.v 2)), (.dat ku32 (.v 3)), (.dat ki64 (.v 4)), (.dat ki64 (.v 5)), (.dat ki64 (.v 9)), (.dat ku32 (.v 7))])), (2, (.cells [(.sl 3 (.k (.i 0)) (.v 12) 1)])), (3, (.arr [ku32] (.v 10) (.v 12)))], 4⟩,
 ⟨[], [(30, [3, 4])]⟩,
 [(4, (.ptr 1 0)), (5, (.ptr 2 0))], some t45, fun _ => none⟩
/-- loop.example/g00709/spec.HeldWord -/
def t46 : Tr :=
(.nd (.call 30 [(.k (.i 3)), (.k (.i 0)), (.k (.i 0)), (.k (.i 0))] [ki64, ki64, ku32, ki64] [ku32, kb])
(.out 1 [(.v 0)]))
def e46 : Fe := ⟨⟨192, [], [], [], [ku32], [(.dat ku32 (.v 0))], [], 0⟩,
 ⟨[], []⟩,
 [(0, (.dat ku32 (.v 0)))], some t46, fun _ => none⟩
/-- loop.example/g00709/spec.MemCas -/
def t47 : Tr :=
(.nd (.call 40 [(.v 0), (.v 1)] [(.sl [ku32]), ki64] [kb])
(.nd (.pr .not [(.v 4)])
(.ite (.v 5)
 (.out 1 [(.k (.b false)), (.k (.b false)), (.k (.l []))])
 (.nd (.pr (.len [ku32]) [(.v 0)])
 (.nd (.pr (.ixc .i64) [(.v 1), (.v 6)])
 (.nd (.pr (.get [ku32] 0) [(.v 0), (.v 7)])
 (.nd (.pr (.cmp .neq .u32) [(.v 8), (.v 2)])
 (.ite (.v 9)
  (.nd (.pr (.app [ku32] 4) [(.k (.l [])), (.v 0)])
  (.nd (.pr (.len [ku32]) [(.v 10)])
  (.out 1 [(.k (.b false)), (.k (.b true)), (.v 10)])))
  (.nd (.call 44 [(.v 0), (.v 1), (.v 3)] [(.sl [ku32]), ki64, ku32] [kb, (.sl [ku32])])
  (.nd (.pr (.len [ku32]) [(.v 11)])
  (.out 1 [(.k (.b true)), (.k (.b true)), (.v 11)])))))))))))
def e47 : Fe := ⟨⟨193, [(.sl [ku32]), ki64, ku32, ku32], [(.agg [(.lz [ku32] (.v 0))]), (.dat ki64 (.v 1)), (.dat ku32 (.v 2)), (.dat ku32 (.v 3))], [], [kb, kb, (.sl [ku32])], [(.agg [(.sl 1 (.k (.i 0)) (.v 7) 1)]), (.dat kb (.v 4)), (.dat kb (.v 5))], [(0, (.cells [(.sl 1 (.k (.i 0)) (.v 7) 1)])), (1, (.arr [ku32] (.v 6) (.v 7)))], 2⟩,
 ⟨[], []⟩,
 [(8, (.ptr 0 0)), (9, (.dat kb (.v 4))), (10, (.dat kb (.v 5)))], some t47, fun _ => none⟩
/-- loop.example/g00709/spec.l07Give -/
def t48 : Tr :=
(.nd (.call 38 [(.v 0), (.v 1), (.v 2), (.v 3), (.v 4), (.v 5), (.v 6), (.v 7)] [ki64, (.sl [ki64]), (.sl [ki64]), ku32, ki64, ki64, ki64, ku32] [(.sl [ki64])])
(.nd (.pr (.len [ki64]) [(.v 11)])
(.nd (.pr (.ixc .i64) [(.k (.i 0)), (.v 12)])
(.nd (.pr (.get [ki64] 0) [(.v 11), (.v 13)])
(.nd (.pr (.len [ki64]) [(.v 1)])
(.nd (.pr (.ixc .i64) [(.v 14), (.v 15)])
(.nd (.pr (.get [ki64] 0) [(.v 1), (.v 16)])
(.nd (.pr (.bin .quo .i64) [(.v 17), (.k (.i 16))])
(.nd (.pr (.bin .rem .i64) [(.v 17), (.k (.i 16))])
(.blk 2 []
 (.nd (.pr (.cmp .eql .i64) [(.v 4), (.k (.i 0))])
 (.ite (.v 20)
  (.nd (.call 41 [(.v 9), (.v 18)] [(.sl [ku32]), ki64] [ku32, kb])
  (.seq [kb]
   (.nd (.pr .not [(.v 22)])
   (.ite (.v 23)
    (.out 0 [(.k (.b true))])
    (.nd (.call 32 [(.v 21), (.v 19)] [ku32, ki64] [kb])
    (.nd (.pr .not [(.v 24)])
    (.out 0 [(.v 25)])))))
  (.nd (.pr (.len [ku32]) [(.v 9)])
  (.nd (.pr (.len [ki64]) [(.v 11)])
  (.ite (.v 23)
   (.nd (.pr (.ixc .i64) [(.k (.i 0)), (.v 25)])
   (.nd (.pr (.get [ki64] 0) [(.v 11), (.v 26)])
   (.nd (.pr (.mk [ki64] 1) [(.k (.i (-2)))])
   (.nd (.call 43 [(.v 0), (.v 1), (.v 2), (.v 3), (.v 4), (.v 5), (.v 6), (.v 7), (.v 11), (.v 28)] [ki64, (.sl [ki64]), (.sl [ki64]), ku32, ki64, ki64, ki64, ku32, (.sl [ki64]), (.sl [ki64])] [ki64, ku32, ki64, ki64, ki64, ku32, (.sl [ki64])])
   (.nd (.pr (.len [ki64]) [(.v 35)])
   (.nd (.pr (.mk [ki64, ki64, ki64, ki64, ki64] 1) [(.k (.i 4)), (.v 8), (.v 27), (.v 17), (.k (.i 0))])
   (.out 1 [(.v 29), (.v 35), (.v 30), (.v 31), (.v 32), (.v 33), (.v 34), (.v 37), (.v 9)])))))))
   (.out 1 [(.v 0), (.v 2), (.v 3), (.k (.i 1)), (.v 5), (.v 6), (.v 21), (.k (.l [])), (.v 9)]))))))
  (.nd (.pr (.cmp .eql .i64) [(.v 4), (.k (.i 2))])
  (.ite (.v 21)
   (.nd (.call 45 [(.v 0), (.v 1), (.v 2), (.v 3), (.v 4), (.v 5), (.v 6), (.v 7), (.v 9)] [ki64, (.sl [ki64]), (.sl [ki64]), ku32, ki64, ki64, ki64, ku32, (.sl [ku32])] [ki64, (.sl [ku32])])
   (.nd (.pr (.len [ku32]) [(.v 9)])
   (.nd (.pr (.len [ku32]) [(.v 23)])
   (.nd (.pr (.cmp .eql .i64) [(.v 22), (.k (.i 0))])
   (.ite (.v 26)
    (.nd (.pr (.mk [ki64] 1) [(.k (.i 1))])
    (.nd (.call 43 [(.v 0), (.v 1), (.v 2), (.v 3), (.k (.i 0)), (.k (.i 0)), (.v 22), (.v 7), (.v 11), (.v 27)] [ki64, (.sl [ki64]), (.sl [ki64]), ku32, ki64, ki64, ki64, ku32, (.sl [ki64]), (.sl [ki64])] [ki64, ku32, ki64, ki64, ki64, ku32, (.sl [ki64])])
    (.nd (.pr (.len [ki64]) [(.v 34)])
    (.out 1 [(.v 28), (.v 34), (.v 29), (.v 30), (.v 31), (.v 32), (.v 33), (.k (.l [])), (.v 23)]))))
    (.out 1 [(.v 0), (.v 2), (.v 3), (.v 4), (.v 5), (.v 22), (.v 7), (.k (.l [])), (.v 23)]))))))
   (.out 0 [])))))
(.nd (.pr (.len [ku32]) [(.v 9)])
(.nd (.pr (.len [ki64]) [(.v 11)])
(.nd (.call 31 [(.v 7), (.v 19)] [ku32, ki64] [ku32, ki64, kb])
(.nd (.call 23 [(.v 7)] [ku32] [kb, ki64, ki64, ku32, ki64])
(.seq [ku32, ki64]
 (.nd (.pr .not [(.v 24)])
 (.ite (.v 30)
  (.nd (.call 46 [] [] [ku32])
  (.nd (.pr (.bin .mul .i64) [(.v 29), (.k (.i 16))])
  (.out 0 [(.v 31), (.v 32)])))
  (.out 0 [(.v 22), (.v 23)])))
(.nd (.pr (.len [ku32]) [(.v 9)])
(.nd (.pr (.len [ki64]) [(.v 11)])
(.nd (.call 47 [(.v 9), (.v 18), (.v 7), (.v 30)] [(.sl [ku32]), ki64, ku32, ku32] [kb, kb, (.sl [ku32])])
(.nd (.pr (.len [ku32]) [(.v 36)])
(.nd (.pr .not [(.v 34)])
(.ite (.v 38)
 (.out 1 [(.v 0), (.v 2), (.v 3), (.k (.i 0)), (.v 5), (.v 6), (.k (.i 0)), (.k (.l [])), (.v 36)])
 (.nd (.pr (.ixc .i64) [(.k (.i 0)), (.v 33)])
 (.nd (.pr (.get [ki64] 0) [(.v 11), (.v 39)])
 (.nd (.pr (.mk [ki64, ki64, ki64, ki64, ki64] 1) [(.k (.i 2)), (.v 8), (.v 40), (.v 17), (.v 31)])
 (.ite (.v 24)
  (.nd (.pr (.mk [ki64] 1) [(.k (.i 1))])
  (.nd (.call 43 [(.v 0), (.v 1), (.v 2), (.v 3), (.k (.i 0)), (.v 5), (.v 6), (.k (.i 0)), (.v 11), (.v 42)] [ki64, (.sl [ki64]), (.sl [ki64]), ku32, ki64, ki64, ki64, ku32, (.sl [ki64]), (.sl [ki64])] [ki64, ku32, ki64, ki64, ki64, ku32, (.sl [ki64])])
  (.nd (.pr (.len [ki64]) [(.v 49)])
  (.out 1 [(.v 43), (.v 49), (.v 44), (.v 45), (.v 46), (.v 47), (.v 48), (.v 41), (.v 36)]))))
  (.out 1 [(.v 0), (.v 2), (.v 3), (.k (.i 2)), (.v 18), (.v 29), (.k (.i 0)), (.v 41), (.v 36)]))))))))))))))))))))))))))
def e48 : Fe := ⟨⟨184, [ki64, (.sl [ki64]), (.sl [ki64]), ku32, ki64, ki64, ki64, ku32, ki64, (.sl [ku32])], [(.agg [(.dat ki64 (.v 0)), (.dat (.sl [ki64]) (.v 1)), (.dat (.sl [ki64]) (.v 2)), (.dat ku32 (.v 3)), (.dat ki64 (.v 4)), (.dat ki64 (.v 5)), (.dat ki64 (.v 6)), (.dat ku32 (.v 7))]), (.dat ki64 (.v 8)), (.agg [(.sl 0 (.k (.i 0)) (.v 10) 1)])], [(0, (.arr [ku32] (.v 9) (.v 10)))], [ki64, (.sl [ki64]), ku32, ki64, ki64, ki64, ku32, (.sl [ki64, ki64, ki64, ki64, ki64]), (.sl [ku32])], [(.agg [(.dat ki64 (.v 10)), (.dat (.sl [ki64]) (.v 1)), (.dat (.sl [ki64]) (.v 11)), (.dat ku32 (.v 12)), (.dat ki64 (.v 13)), (.dat ki64 (.v 14)), (.dat ki64 (.v 15)), (.dat ku32 (.v 16))]), (.agg [(.sl 4 (.k (.i 0)) (.v 20) 1)]), (.sl 3 (.k (.i 0)) (.v 19) 5)], [(1, (.cells [(.dat ki64 (.v 10)), (.dat (.sl [ki64]) (.v 1)), (.dat (.sl [ki64]) (.v 11)), (.dat ku32 (.v 12)), (.dat ki64 (.v 13)), (.dat ki64 (.v 14)), (.dat ki64 (.v 15)), (.dat ku32 (.v 16))])), (2, (.cells [(.sl 4 (.k (.i 0)) (.v 20) 1)])), (3, (.arr [ki64, ki64, ki64, ki64, ki64] (.v 17) (.v 19))), (4, (.arr [ku32] (.v 18) (.v 20)))], 5⟩,
 ⟨[(511, ⟨[ku32, ki64], [(1, (.dat ki64 (.v 8))), (3, (.ptr 1 0)), (5, (.ptr 2 0)), (6, (.ptr 3 0)), (7, (.ptr 4 0)), (9, (.sl 5 (.k (.i 0)) (.v 33) 1)), (10, (.dat ki64 (.v 17))), (11, (.dat ki64 (.v 18))), (17, (.dat ku32 (.v 30))), (18, (.dat ki64 (.v 31))), (19, (.dat kb (.v 24))), (20, (.ptr 6 0))], [(0, (.arr [ku32] (.v 9) (.v 32))), (1, (.cells [(.dat ki64 (.v 0)), (.dat (.sl [ki64]) (.v 1)), (.dat (.sl [ki64]) (.v 2)), (.dat ku32 (.v 3)), (.dat ki64 (.v 4)), (.dat ki64 (.v 5)), (.dat ki64 (.v 6)), (.dat ku32 (.v 7))])), (2, (.cells [(.sl 0 (.k (.i 0)) (.v 32) 1)])), (3, (.cells [(.dat ki64 (.k (.i 0))), .nilS, .nilS, (.dat ku32 (.k (.i 0))), (.dat ki64 (.k (.i 0))), (.dat ki64 (.k (.i 0))), (.dat ki64 (.k (.i 0))), (.dat ku32 (.k (.i 0)))])), (4, (.cells [.nilS])), (5, (.arr [ki64] (.v 11) (.v 33))), (6, (.cells [(.dat ki64 (.v 26)), (.dat ki64 (.v 27)), (.dat ku32 (.v 28)), (.dat ki64 (.v 29))]))], 7⟩), (253, ⟨[], [(1, (.dat ki64 (.v 8))), (3, (.ptr 1 0)), (5, (.ptr 2 0)), (6, (.ptr 3 0)), (7, (.ptr 4 0)), (9, (.sl 5 (.k (.i 0)) (.v 21) 1)), (10, (.dat ki64 (.v 17))), (11, (.dat ki64 (.v 18))), (12, (.dat ki64 (.v 19)))], [(0, (.arr [ku32] (.v 9) (.v 20))), (1, (.cells [(.dat ki64 (.v 0)), (.dat (.sl [ki64]) (.v 1)), (.dat (.sl [ki64]) (.v 2)), (.dat ku32 (.v 3)), (.dat ki64 (.v 4)), (.dat ki64 (.v 5)), (.dat ki64 (.v 6)), (.dat ku32 (.v 7))])), (2, (.cells [(.sl 0 (.k (.i 0)) (.v 20) 1)])), (3, (.cells [(.dat ki64 (.k (.i 0))), .nilS, .nilS, (.dat ku32 (.k (.i 0))), (.dat ki64 (.k (.i 0))), (.dat ki64 (.k (.i 0))), (.dat ki64 (.k (.i 0))), (.dat ku32 (.k (.i 0)))])), (4, (.cells [.nilS])), (5, (.arr [ki64] (.v 11) (.v 21)))], 6⟩), (8106, ⟨[kb], [(1, (.dat ki64 (.v 8))), (3, (.ptr 1 0)), (5, (.ptr 2 0)), (6, (.ptr 3 0)), (7, (.ptr 4 0)), (9, (.sl 5 (.k (.i 0)) (.v 25) 1)), (10, (.dat ki64 (.v 17))), (13, (.dat ku32 (.v 21))), (56, (.dat kb (.v 23)))], [(0, (.arr [ku32] (.v 9) (.v 24))), (1, (.cells [(.dat ki64 (.v 0)), (.dat (.sl [ki64]) (.v 1)), (.dat (.sl [ki64]) (.v 2)), (.dat ku32 (.v 3)), (.dat ki64 (.v 4)), (.dat ki64 (.v 5)), (.dat ki64 (.v 6)), (.dat ku32 (.v 7))])), (2, (.cells [(.sl 0 (.k (.i 0)) (.v 24) 1)])), (3, (.cells [(.dat ki64 (.k (.i 0))), .nilS, .nilS, (.dat ku32 (.k (.i 0))), (.dat ki64 (.k (.i 0))), (.dat ki64 (.k (.i 0))), (.dat ki64 (.k (.i 0))), (.dat ku32 (.k (.i 0)))])), (4, (.cells [.nilS])), (5, (.arr [ki64] (.v 11) (.v 25)))], 6⟩)], [(1048574, [3, 4]), (524276, [3, 4]), (131060, [3, 4]), (64886, [3, 4]), (1038166, [3, 4]), (64862, [3, 4]), (64852, [3, 4])]⟩,
 [(6, (.ptr 1 0)), (7, (.ptr 2 0)), (8, (.sl 3 (.k (.i 0)) (.v 19) 5))], some t48, fun _ => none⟩
/-- loop.example/g00709/spec.l07Refuse -/
def t49 : Tr :=
(.blk 2 [(.sl [ki64, ki64, ki64, ki64, ki64]), (.sl [ki64])]
 (.loop [ki64, (.sl [ki64, ki64, ki64, ki64, ki64]), (.sl [ki64])] [(.k (.i 0)), (.k (.l [])), (.k (.l []))]
  (.nd (.pr (.len [ki64, ki64, ki64, ki64, ki64]) [(.v 11)])
  (.nd (.pr (.len [ki64]) [(.v 12)])
  (.nd (.pr (.len [ki64]) [(.v 9)])
  (.nd (.pr (.cmp .lss .i64) [(.v 10), (.v 15)])
  (.ite (.v 16)
   (.blk 3 [(.sl [ki64, ki64, ki64, ki64, ki64]), (.sl [ki64])]
    (.nd (.pr (.len [ki64]) [(.v 9)])
    (.nd (.pr (.ixc .i64) [(.v 10), (.v 17)])
    (.nd (.pr (.get [ki64] 0) [(.v 9), (.v 18)])
    (.nd (.pr (.len [ki64]) [(.v 9)])
    (.nd (.pr (.ixc .i64) [(.v 10), (.v 20)])
    (.nd (.pr (.get [ki64] 0) [(.v 9), (.v 21)])
    (.nd (.pr (.len [ki64]) [(.v 1)])
    (.nd (.pr (.ixc .i64) [(.v 22), (.v 23)])
    (.nd (.pr (.get [ki64] 0) [(.v 1), (.v 24)])
    (.nd (.pr (.mk [ki64, ki64, ki64, ki64, ki64] 1) [(.k (.i 3)), (.v 8), (.v 19), (.k (.i (-1))), (.v 25)])
    (.nd (.pr (.app [ki64, ki64, ki64, ki64, ki64] 40) [(.v 11), (.v 26)])
    (.nd (.pr (.len [ki64, ki64, ki64, ki64, ki64]) [(.v 27)])
    (.nd (.pr (.mk [ki64] 1) [(.k (.i (-2)))])
    (.nd (.pr (.app [ki64] 8) [(.v 12), (.v 29)])
    (.nd (.pr (.len [ki64]) [(.v 30)])
    (.out 0 [(.v 27), (.v 30)]))))))))))))))))
   (.nd (.pr (.len [ki64, ki64, ki64, ki64, ki64]) [(.v 17)])
   (.nd (.pr (.len [ki64]) [(.v 18)])
   (.nd (.pr (.bin .add .i64) [(.v 10), (.k (.i 1))])
   (.out 0 [(.v 21), (.v 17), (.v 18)])))))
   (.out 2 [(.v 11), (.v 12)])))))))
(.nd (.pr (.len [ki64, ki64, ki64, ki64, ki64]) [(.v 10)])
(.nd (.pr (.len [ki64]) [(.v 11)])
(.nd (.call 43 [(.v 0), (.v 1), (.v 2), (.v 3), (.v 4), (.k (.i 0)), (.v 6), (.v 7), (.v 9), (.v 11)] [ki64, (.sl [ki64]), (.sl [ki64]), ku32, ki64, ki64, ki64, ku32, (.sl [ki64]), (.sl [ki64])] [ki64, ku32, ki64, ki64, ki64, ku32, (.sl [ki64])])
(.nd (.pr (.len [ki64]) [(.v 20)])
(.out 1 [(.v 14), (.v 15), (.v 16), (.v 17), (.v 18), (.v 19), (.v 10), (.v 20)]))))))
def e49 : Fe := ⟨⟨194, [ki64, (.sl [ki64]), (.sl [ki64]), ku32, ki64, ki64, ki64, ku32, ki64, (.sl [ki64])], [(.agg [(.dat ki64 (.v 0)), (.dat (.sl [ki64]) (.v 1)), (.dat (.sl [ki64]) (.v 2)), (.dat ku32 (.v 3)), (.dat ki64 (.v 4)), (.dat ki64 (.v 5)), (.dat ki64 (.v 6)), (.dat ku32 (.v 7))]), (.dat ki64 (.v 8)), (.lz [ki64] (.v 9))], [], [ki64, ku32, ki64, ki64, ki64, ku32, (.sl [ki64, ki64, ki64, ki64, ki64]), (.sl [ki64])], [(.agg [(.dat ki64 (.v 10)), (.dat (.sl [ki64]) (.v 1)), (.sl 2 (.k (.i 0)) (.v 19) 1), (.dat ku32 (.v 11)), (.dat ki64 (.v 12)), (.dat ki64 (.v 13)), (.dat ki64 (.v 14)), (.dat ku32 (.v 15))]), (.sl 1 (.k (.i 0)) (.v 18) 5)], [(0, (.cells [(.dat ki64 (.v 10)), (.dat (.sl [ki64]) (.v 1)), (.sl 2 (.k (.i 0)) (.v 19) 1), (.dat ku32 (.v 11)), (.dat ki64 (.v 12)), (.dat ki64 (.v 13)), (.dat ki64 (.v 14)), (.dat ku32 (.v 15))])), (1, (.arr [ki64, ki64, ki64, ki64, ki64] (.v 16) (.v 18))), (2, (.arr [ki64] (.v 17) (.v 19)))], 3⟩,
 ⟨[(61, ⟨[(.sl [ki64, ki64, ki64, ki64, ki64]), (.sl [ki64])], [(2, (.lz [ki64] (.v 9))), (3, (.ptr 0 0)), (6, (.ptr 1 0)), (8, (.sl 2 (.k (.i 0)) (.v 12) 5)), (9, (.sl 3 (.k (.i 0)) (.v 13) 1))], [(0, (.cells [(.dat ki64 (.v 0)), (.dat (.sl [ki64]) (.v 1)), (.dat (.sl [ki64]) (.v 2)), (.dat ku32 (.v 3)), (.dat ki64 (.v 4)), (.dat ki64 (.v 5)), (.dat ki64 (.v 6)), (.dat ku32 (.v 7))])), (1, (.cells [(.dat ki64 (.k (.i 0))), .nilS, .nilS, (.dat ku32 (.k (.i 0))), (.dat ki64 (.k (.i 0))), (.dat ki64 (.k (.i 0))), (.dat ki64 (.k (.i 0))), (.dat ku32 (.k (.i 0)))])), (2, (.arr [ki64, ki64, ki64, ki64, ki64] (.v 10) (.v 12))), (3, (.arr [ki64] (.v 11) (.v 13)))], 4⟩), (122, ⟨[ki64, (.sl [ki64, ki64, ki64, ki64, ki64]), (.sl [ki64])], [(1, (.dat ki64 (.v 8))), (2, (.lz [ki64] (.v 9))), (3, (.ptr 0 0)), (6, (.ptr 1 0)), (8, (.sl 2 (.k (.i 0)) (.v 13) 5)), (9, (.sl 3 (.k (.i 0)) (.v 14) 1)), (10, (.dat ki64 (.v 10)))], [(0, (.cells [(.dat ki64 (.v 0)), (.dat (.sl [ki64]) (.v 1)), (.dat (.sl [ki64]) (.v 2)), (.dat ku32 (.v 3)), (.dat ki64 (.v 4)), (.dat ki64 (.v 5)), (.dat ki64 (.v 6)), (.dat ku32 (.v 7))])), (1, (.cells [(.dat ki64 (.k (.i 0))), .nilS, .nilS, (.dat ku32 (.k (.i 0))), (.dat ki64 (.k (.i 0))), (.dat ki64 (.k (.i 0))), (.dat ki64 (.k (.i 0))), (.dat ku32 (.k (.i 0)))])), (2, (.arr [ki64, ki64, ki64, ki64, ki64] (.v 11) (.v 13))), (3, (.arr [ki64] (.v 12) (.v 14)))], 4⟩), (978, ⟨[(.sl [ki64, ki64, ki64, ki64, ki64]), (.sl [ki64])], [(1, (.dat ki64 (.v 8))), (2, (.lz [ki64] (.v 9))), (3, (.ptr 0 0)), (6, (.ptr 1 0)), (8, (.sl 2 (.k (.i 0)) (.v 19) 5)), (9, (.sl 3 (.k (.i 0)) (.v 20) 1)), (10, (.dat ki64 (.v 10)))], [(0, (.cells [(.dat ki64 (.v 0)), (.dat (.sl [ki64]) (.v 1)), (.dat (.sl [ki64]) (.v 2)), (.dat ku32 (.v 3)), (.dat ki64 (.v 4)), (.dat ki64 (.v 5)), (.dat ki64 (.v 6)), (.dat ku32 (.v 7))])), (1, (.cells [(.dat ki64 (.k (.i 0))), .nilS, .nilS, (.dat ku32 (.k (.i 0))), (.dat ki64 (.k (.i 0))), (.dat ki64 (.k (.i 0))), (.dat ki64 (.k (.i 0))), (.dat ku32 (.k (.i 0)))])), (2, (.arr [ki64, ki64, ki64, ki64, ki64] (.v 17) (.v 19))), (3, (.arr [ki64] (.v 18) (.v 20)))], 4⟩)], [(3912, [2])]⟩,
 [(6, (.ptr 0 0)), (7, (.sl 1 (.k (.i 0)) (.v 18) 5))], some t49, fun _ => none⟩
/-- loop.example/g00709/spec.HeadWord -/
def t50 : Tr :=
(.nd (.call 30 [(.k (.i 2)), (.k (.i 0)), (.k (.i 0)), (.v 0)] [ki64, ki64, ku32, ki64] [ku32, kb])
(.out 1 [(.v 1), (.v 2)]))
def e50 : Fe := ⟨⟨195, [ki64], [(.dat ki64 (.v 0))], [], [ku32, kb], [(.dat ku32 (.v 1)), (.dat kb (.v 2))], [], 0⟩,
 ⟨[], []⟩,
 [(2, (.dat ku32 (.v 1))), (3, (.dat kb (.v 2)))], some t50, fun _ => none⟩
/-- loop.example/g00709/spec.l07Large -/
def t51 : Tr :=
(.nd (.call 38 [(.v 0), (.v 1), (.v 2), (.v 3), (.v 4), (.v 5), (.v 6), (.v 7)] [ki64, (.sl [ki64]), (.sl [ki64]), ku32, ki64, ki64, ki64, ku32] [(.sl [ki64])])
(.nd (.pr (.len [ki64]) [(.v 11)])
(.nd (.pr (.ixc .i64) [(.k (.i 0)), (.v 12)])
(.nd (.pr (.get [ki64] 0) [(.v 11), (.v 13)])
(.nd (.pr (.len [ki64]) [(.v 1)])
(.nd (.pr (.ixc .i64) [(.v 14), (.v 15)])
(.nd (.pr (.get [ki64] 0) [(.v 1), (.v 16)])
(.nd (.call 16 [(.v 17)] [ki64] [ki64])
(.blk 2 []
 (.nd (.pr (.cmp .eql .i64) [(.v 4), (.k (.i 0))])
 (.ite (.v 19)
  (.nd (.pr (.bin .add .i64) [(.v 5), (.v 18)])
  (.nd (.pr (.cmp .gtr .i64) [(.v 20), (.v 10)])
  (.ite (.v 21)
   (.nd (.call 49 [(.v 0), (.v 1), (.v 2), (.v 3), (.v 4), (.v 5), (.v 6), (.v 7), (.v 8), (.v 11)] [ki64, (.sl [ki64]), (.sl [ki64]), ku32, ki64, ki64, ki64, ku32, ki64, (.sl [ki64])] [ki64, ku32, ki64, ki64, ki64, ku32, (.sl [ki64, ki64, ki64, ki64, ki64]), (.sl [ki64])])
   (.nd (.pr (.len [ki64, ki64, ki64, ki64, ki64]) [(.v 28)])
   (.nd (.pr (.len [ki64]) [(.v 29)])
   (.out 1 [(.v 22), (.v 29), (.v 23), (.v 24), (.v 25), (.v 26), (.v 27), (.v 28), (.v 9)]))))
   (.nd (.pr (.bin .add .i64) [(.v 5), (.v 6)])
   (.nd (.call 41 [(.v 9), (.v 22)] [(.sl [ku32]), ki64] [ku32, kb])
   (.seq [ki64, ki64]
    (.nd (.pr (.cmp .eql .u32) [(.v 23), (.k (.i 0))])
    (.ite (.v 25)
     (.out 0 [(.k (.i 1)), (.v 5)])
     (.nd (.pr (.cmp .gtr .i64) [(.v 6), (.k (.i 0))])
     (.ite (.v 26)
      (.out 0 [(.k (.i 2)), (.v 5)])
      (.nd (.pr (.bin .add .i64) [(.v 5), (.k (.i 1))])
      (.out 0 [(.v 4), (.v 27)]))))))
   (.nd (.pr (.len [ku32]) [(.v 9)])
   (.out 1 [(.v 0), (.v 2), (.v 3), (.v 25), (.v 26), (.v 6), (.v 7), (.k (.l [])), (.v 9)]))))))))
  (.nd (.pr (.cmp .eql .i64) [(.v 4), (.k (.i 1))])
  (.ite (.v 20)
   (.nd (.pr (.bin .add .i64) [(.v 5), (.v 6)])
   (.nd (.call 46 [] [] [ku32])
   (.nd (.call 47 [(.v 9), (.v 21), (.k (.i 0)), (.v 22)] [(.sl [ku32]), ki64, ku32, ku32] [kb, kb, (.sl [ku32])])
   (.nd (.pr (.len [ku32]) [(.v 25)])
   (.seq [ki64, ki64, ki64]
    (.ite (.v 23)
     (.nd (.pr (.bin .add .i64) [(.v 6), (.k (.i 1))])
     (.nd (.pr (.cmp .eql .i64) [(.v 27), (.v 18)])
     (.ite (.v 28)
      (.out 0 [(.k (.i 3)), (.v 5), (.v 27)])
      (.out 0 [(.k (.i 0)), (.v 5), (.v 27)]))))
     (.nd (.pr (.cmp .gtr .i64) [(.v 6), (.k (.i 0))])
     (.ite (.v 27)
      (.out 0 [(.k (.i 2)), (.v 5), (.v 6)])
      (.nd (.pr (.bin .add .i64) [(.v 5), (.k (.i 1))])
      (.out 0 [(.k (.i 0)), (.v 28), (.v 6)])))))
   (.nd (.pr (.len [ku32]) [(.v 9)])
   (.nd (.pr (.len [ku32]) [(.v 25)])
   (.out 1 [(.v 0), (.v 2), (.v 3), (.v 27), (.v 28), (.v 29), (.v 7), (.k (.l [])), (.v 25)]))))))))
   (.nd (.pr (.cmp .eql .i64) [(.v 4), (.k (.i 2))])
   (.ite (.v 21)
    (.nd (.call 45 [(.v 0), (.v 1), (.v 2), (.v 3), (.v 4), (.v 5), (.v 6), (.v 7), (.v 9)] [ki64, (.sl [ki64]), (.sl [ki64]), ku32, ki64, ki64, ki64, ku32, (.sl [ku32])] [ki64, (.sl [ku32])])
    (.nd (.pr (.len [ku32]) [(.v 9)])
    (.nd (.pr (.len [ku32]) [(.v 23)])
    (.seq [ki64, ki64]
     (.nd (.pr (.cmp .eql .i64) [(.v 22), (.k (.i 0))])
     (.ite (.v 26)
      (.nd (.pr (.bin .add .i64) [(.v 5), (.k (.i 1))])
      (.out 0 [(.k (.i 0)), (.v 27)]))
      (.out 0 [(.v 4), (.v 5)])))
    (.nd (.pr (.len [ku32]) [(.v 9)])
    (.nd (.pr (.len [ku32]) [(.v 23)])
    (.out 1 [(.v 0), (.v 2), (.v 3), (.v 26), (.v 27), (.v 22), (.v 7), (.k (.l [])), (.v 23)])))))))
    (.out 0 [])))))))
(.nd (.pr (.len [ku32]) [(.v 9)])
(.nd (.pr (.len [ki64]) [(.v 11)])
(.nd (.call 50 [(.v 18)] [ki64] [ku32, kb])
(.nd (.call 44 [(.v 9), (.v 5), (.v 21)] [(.sl [ku32]), ki64, ku32] [kb, (.sl [ku32])])
(.nd (.pr (.len [ku32]) [(.v 24)])
(.nd (.pr (.bin .mul .i64) [(.k (.i 16)), (.v 5)])
(.nd (.pr (.ixc .i64) [(.k (.i 0)), (.v 20)])
(.nd (.pr (.get [ki64] 0) [(.v 11), (.v 27)])
(.nd (.pr (.bin .mul .i64) [(.v 18), (.k (.i 16))])
(.nd (.pr (.mk [ki64] 1) [(.v 26)])
(.nd (.call 43 [(.v 0), (.v 1), (.v 2), (.v 3), (.k (.i 0)), (.k (.i 0)), (.k (.i 0)), (.v 7), (.v 11), (.v 30)] [ki64, (.sl [ki64]), (.sl [ki64]), ku32, ki64, ki64, ki64, ku32, (.sl [ki64]), (.sl [ki64])] [ki64, ku32, ki64, ki64, ki64, ku32, (.sl [ki64])])
(.nd (.pr (.len [ki64]) [(.v 37)])
(.nd (.pr (.mk [ki64, ki64, ki64, ki64, ki64] 1) [(.k (.i 1)), (.v 8), (.v 28), (.v 26), (.v 29)])
(.out 1 [(.v 31), (.v 37), (.v 32), (.v 33), (.v 34), (.v 35), (.v 36), (.v 39), (.v 24)])))))))))))))))))))))))
def e51 : Fe := ⟨⟨185, [ki64, (.sl [ki64]), (.sl [ki64]), ku32, ki64, ki64, ki64, ku32, ki64, (.sl [ku32])], [(.agg [(.dat ki64 (.v 0)), (.dat (.sl [ki64]) (.v 1)), (.dat (.sl [ki64]) (.v 2)), (.dat ku32 (.v 3)), (.dat ki64 (.v 4)), (.dat ki64 (.v 5)), (.dat ki64 (.v 6)), (.dat ku32 (.v 7))]), (.dat ki64 (.v 8)), (.agg [(.sl 0 (.k (.i 0)) (.v 10) 1)])], [(0, (.arr [ku32] (.v 9) (.v 10)))], [ki64, (.sl [ki64]), ku32, ki64, ki64, ki64, ku32, (.sl [ki64, ki64, ki64, ki64, ki64]), (.sl [ku32])], [(.agg [(.dat ki64 (.v 10)), (.dat (.sl [ki64]) (.v 1)), (.dat (.sl [ki64]) (.v 11)), (.dat ku32 (.v 12)), (.dat ki64 (.v 13)), (.dat ki64 (.v 14)), (.dat ki64 (.v 15)), (.dat ku32 (.v 16))]), (.agg [(.sl 4 (.k (.i 0)) (.v 20) 1)]), (.sl 3 (.k (.i 0)) (.v 19) 5)], [(1, (.cells [(.dat ki64 (.v 10)), (.dat (.sl [ki64]) (.v 1)), (.dat (.sl [ki64]) (.v 11)), (.dat ku32 (.v 12)), (.dat ki64 (.v 13)), (.dat ki64 (.v 14)), (.dat ki64 (.v 15)), (.dat ku32 (.v 16))])), (2, (.cells [(.sl 4 (.k (.i 0)) (.v 20) 1)])), (3, (.arr [ki64, ki64, ki64, ki64, ki64] (.v 17) (.v 19))), (4, (.arr [ku32] (.v 18) (.v 20)))], 5⟩,
 ⟨[(125, ⟨[], [(1, (.dat ki64 (.v 8))), (3, (.ptr 1 0)), (5, (.ptr 2 0)), (6, (.ptr 3 0)), (7, (.ptr 4 0)), (10, (.sl 5 (.k (.i 0)) (.v 20) 1)), (11, (.dat ki64 (.v 18)))], [(0, (.arr [ku32] (.v 9) (.v 19))), (1, (.cells [(.dat ki64 (.v 0)), (.dat (.sl [ki64]) (.v 1)), (.dat (.sl [ki64]) (.v 2)), (.dat ku32 (.v 3)), (.dat ki64 (.v 4)), (.dat ki64 (.v 5)), (.dat ki64 (.v 6)), (.dat ku32 (.v 7))])), (2, (.cells [(.sl 0 (.k (.i 0)) (.v 19) 1)])), (3, (.cells [(.dat ki64 (.k (.i 0))), .nilS, .nilS, (.dat ku32 (.k (.i 0))), (.dat ki64 (.k (.i 0))), (.dat ki64 (.k (.i 0))), (.dat ki64 (.k (.i 0))), (.dat ku32 (.k (.i 0)))])), (4, (.cells [.nilS])), (5, (.arr [ki64] (.v 11) (.v 20)))], 6⟩), (32125, ⟨[ki64, ki64], [(6, (.ptr 1 0)), (7, (.ptr 2 0)), (19, (.ptr 3 0)), (20, (.ptr 4 0))], [(0, (.arr [ku32] (.v 9) (.v 28))), (1, (.cells [(.dat ki64 (.k (.i 0))), .nilS, .nilS, (.dat ku32 (.k (.i 0))), (.dat ki64 (.k (.i 0))), (.dat ki64 (.k (.i 0))), (.dat ki64 (.k (.i 0))), (.dat ku32 (.k (.i 0)))])), (2, (.cells [.nilS])), (3, (.cells [(.dat ki64 (.v 0)), (.dat (.sl [ki64]) (.v 1)), (.dat (.sl [ki64]) (.v 2)), (.dat ku32 (.v 3)), (.dat ki64 (.v 26)), (.dat ki64 (.v 27)), (.dat ki64 (.v 22)), (.dat ku32 (.v 7))])), (4, (.cells [(.sl 5 (.k (.i 0)) (.v 29) 1)])), (5, (.arr [ku32] (.v 23) (.v 29)))], 6⟩), (16059, ⟨[ki64, ki64, ki64], [(3, (.ptr 1 0)), (6, (.ptr 2 0)), (7, (.ptr 3 0)), (16, (.ptr 4 0))], [(0, (.arr [ku32] (.v 9) (.v 30))), (1, (.cells [(.dat ki64 (.v 0)), (.dat (.sl [ki64]) (.v 1)), (.dat (.sl [ki64]) (.v 2)), (.dat ku32 (.v 3)), (.dat ki64 (.v 27)), (.dat ki64 (.v 28)), (.dat ki64 (.v 29)), (.dat ku32 (.v 7))])), (2, (.cells [(.dat ki64 (.k (.i 0))), .nilS, .nilS, (.dat ku32 (.k (.i 0))), (.dat ki64 (.k (.i 0))), (.dat ki64 (.k (.i 0))), (.dat ki64 (.k (.i 0))), (.dat ku32 (.k (.i 0)))])), (3, (.cells [.nilS])), (4, (.cells [(.sl 5 (.k (.i 0)) (.v 31) 1)])), (5, (.arr [ku32] (.v 25) (.v 31)))], 6⟩), (4011, ⟨[ki64, ki64], [(3, (.ptr 1 0)), (5, (.ptr 2 0)), (6, (.ptr 3 0)), (7, (.ptr 4 0))], [(0, (.arr [ku32] (.v 9) (.v 27))), (1, (.cells [(.dat ki64 (.v 0)), (.dat (.sl [ki64]) (.v 1)), (.dat (.sl [ki64]) (.v 2)), (.dat ku32 (.v 3)), (.dat ki64 (.v 25)), (.dat ki64 (.v 26)), (.dat ki64 (.v 6)), (.dat ku32 (.v 7))])), (2, (.cells [(.sl 0 (.k (.i 0)) (.v 27) 1)])), (3, (.cells [(.dat ki64 (.k (.i 0))), .nilS, .nilS, (.dat ku32 (.k (.i 0))), (.dat ki64 (.k (.i 0))), (.dat ki64 (.k (.i 0))), (.dat ki64 (.k (.i 0))), (.dat ku32 (.k (.i 0)))])), (4, (.cells [.nilS]))], 5⟩)], [(16382, [3, 4]), (128502, [1, 2]), (64238, [2, 3]), (16046, [3, 4]), (32074, [3, 4])]⟩,
 [(6, (.ptr 1 0)), (7, (.ptr 2 0)), (8, (.sl 3 (.k (.i 0)) (.v 19) 5))], some t51, fun _ => none⟩
/-- loop.example/g00709/spec.WarpStart -/
def t52 : Tr :=
(.seq [kb]
 (.nd (.pr (.cmp .lss .i64) [(.v 0), (.k (.i 0))])
 (.ite (.v 3)
  (.out 0 [(.k (.b true))])
  (.nd (.pr (.cmp .gtr .i64) [(.v 0), (.k (.i 3))])
  (.ite (.v 4)
   (.out 0 [(.k (.b true))])
   (.nd (.call 20 [(.v 1)] [ki64] [kb])
   (.nd (.pr .not [(.v 5)])
   (.ite (.v 6)
    (.out 0 [(.k (.b true))])
    (.nd (.pr (.cmp .lss .i64) [(.v 2), (.k (.i 1))])
    (.ite (.v 7)
     (.out 0 [(.k (.b true))])
     (.nd (.pr (.cmp .gtr .i64) [(.v 2), (.k (.i 16))])
     (.out 0 [(.v 8)])))))))))))
(.ite (.v 3)
 (.out 1 [(.k (.i (-1)))])
 (.nd (.pr (.bin .mul .i64) [(.k (.i 5)), (.v 0)])
 (.nd (.pr (.bin .mul .i64) [(.k (.i 3)), (.v 1)])
 (.nd (.pr (.bin .add .i64) [(.v 4), (.v 5)])
 (.nd (.pr (.bin .rem .i64) [(.v 6), (.v 2)])
 (.out 1 [(.v 7)])))))))
def e52 : Fe := ⟨⟨197, [ki64, ki64, ki64], [(.dat ki64 (.v 0)), (.dat ki64 (.v 1)), (.dat ki64 (.v 2))], [], [ki64], [(.dat ki64 (.v 3))], [], 0⟩,
 ⟨[(6, ⟨[kb], [(0, (.dat ki64 (.v 0))), (1, (.dat ki64 (.v 1))), (2, (.dat ki64 (.v 2))), (25, (.dat kb (.v 3)))], [], 0⟩)], []⟩,
 [(6, (.dat ki64 (.v 3)))], some t52, fun _ => none⟩
/-- loop.example/g00709/spec.l02Free -/
def t53 : Tr :=
(.nd (.call 10 [(.v 0)] [ku32] [(.sl [ki64])])
(.nd (.pr (.len [ki64]) [(.v 2)])
(.blk 2 [(.sl [ki64])]
 (.loop [ki64, (.sl [ki64])] [(.k (.i 0)), (.k (.l []))]
  (.nd (.pr (.len [ki64]) [(.v 5)])
  (.nd (.pr (.len [ki64]) [(.v 2)])
  (.seq [kb]
   (.nd (.pr (.cmp .lss .i64) [(.v 4), (.v 1)])
   (.ite (.v 8)
    (.nd (.pr (.cmp .leq .i64) [(.v 1), (.k (.i 32))])
    (.out 0 [(.v 9)]))
    (.out 0 [(.k (.b false))])))
  (.nd (.pr (.len [ki64]) [(.v 5)])
  (.nd (.pr (.len [ki64]) [(.v 2)])
  (.ite (.v 8)
   (.blk 3 [(.sl [ki64])]
    (.nd (.pr (.ixc .i64) [(.v 4), (.v 10)])
    (.nd (.pr (.get [ki64] 0) [(.v 2), (.v 11)])
    (.nd (.pr (.cmp .eql .i64) [(.v 12), (.k (.i 0))])
    (.ite (.v 13)
     (.nd (.pr (.mk [ki64] 1) [(.v 4)])
     (.nd (.pr (.app [ki64] 8) [(.v 5), (.v 14)])
     (.nd (.pr (.len [ki64]) [(.v 15)])
     (.out 0 [(.v 15)]))))
     (.out 0 [(.v 5)])))))
   (.nd (.pr (.len [ki64]) [(.v 11)])
   (.nd (.pr (.len [ki64]) [(.v 2)])
   (.nd (.pr (.bin .add .i64) [(.v 4), (.k (.i 1))])
   (.out 0 [(.v 14), (.v 11)])))))
   (.out 2 [(.v 5)]))))))))
(.nd (.pr (.len [ki64]) [(.v 4)])
(.out 1 [(.v 4)])))))
def e53 : Fe := ⟨⟨201, [ku32, ki64], [(.dat ku32 (.v 0)), (.dat ki64 (.v 1))], [], [(.sl [ki64])], [(.sl 0 (.k (.i 0)) (.v 3) 1)], [(0, (.arr [ki64] (.v 2) (.v 3)))], 1⟩,
 ⟨[(61, ⟨[(.sl [ki64])], [(5, (.sl 0 (.k (.i 0)) (.v 5) 1))], [(0, (.arr [ki64] (.v 4) (.v 5)))], 1⟩), (122, ⟨[ki64, (.sl [ki64])], [(1, (.dat ki64 (.v 1))), (5, (.sl 0 (.k (.i 0)) (.v 6) 1)), (6, (.sl 1 (.k (.i 0)) (.v 7) 1)), (7, (.dat ki64 (.v 4)))], [(0, (.arr [ki64] (.v 5) (.v 6))), (1, (.arr [ki64] (.v 2) (.v 7)))], 2⟩), (978, ⟨[(.sl [ki64])], [(1, (.dat ki64 (.v 1))), (5, (.sl 0 (.k (.i 0)) (.v 12) 1)), (6, (.sl 1 (.k (.i 0)) (.v 13) 1)), (7, (.dat ki64 (.v 4)))], [(0, (.arr [ki64] (.v 11) (.v 12))), (1, (.arr [ki64] (.v 2) (.v 13)))], 2⟩), (488, ⟨[kb], [(1, (.dat ki64 (.v 1))), (5, (.sl 0 (.k (.i 0)) (.v 9) 1)), (6, (.sl 1 (.k (.i 0)) (.v 10) 1)), (7, (.dat ki64 (.v 4))), (17, (.dat kb (.v 8)))], [(0, (.arr [ki64] (.v 5) (.v 9))), (1, (.arr [ki64] (.v 2) (.v 10)))], 2⟩)], []⟩,
 [(4, (.sl 0 (.k (.i 0)) (.v 3) 1))], some t53, fun _ => none⟩
/-- loop.example/g00709/spec.Claim -/
def t54 : Tr :=
(.seq [kb]
 (.nd (.call 25 [(.v 0), (.v 1)] [ku32, ki64] [ki64])
 (.nd (.pr (.cmp .eql .i64) [(.v 3), (.k (.i 0))])
 (.ite (.v 4)
  (.out 0 [(.k (.b true))])
  (.nd (.pr (.cmp .lss .i64) [(.v 2), (.k (.i 1))])
  (.out 0 [(.v 5)])))))
(.ite (.v 3)
 (.out 1 [(.k (.i 0)), (.k (.b false)), (.k (.l []))])
 (.nd (.call 23 [(.v 0)] [ku32] [kb, ki64, ki64, ku32, ki64])
 (.nd (.call 21 [(.v 1)] [ki64] [ki64])
 (.nd (.call 53 [(.v 7), (.v 9)] [ku32, ki64] [(.sl [ki64])])
 (.nd (.pr (.len [ki64]) [(.v 10)])
 (.nd (.pr (.mn .i64) [(.v 2), (.v 11)])
 (.nd (.pr (.rng .i64 .i64) [(.k (.i 0)), (.v 12), (.v 11)])
 (.nd (.pr (.nat .i64) [(.k (.i 0))])
 (.nd (.pr .plus [(.v 14), (.v 13)])
 (.nd (.pr (.cut [ki64] .i64 .i64) [(.v 10), (.v 14), (.v 15)])
 (.nd (.call 29 [(.v 16)] [(.sl [ki64])] [ku32, kb])
 (.nd (.pr (.bin .add .u32) [(.v 7), (.v 17)])
 (.nd (.call 30 [(.k (.i 1)), (.v 1), (.v 19), (.k (.i 0))] [ki64, ki64, ku32, ki64] [ku32, kb])
 (.blk 2 [(.sl [ki64])]
  (.loop [ki64, (.sl [ki64])] [(.k (.i 0)), (.k (.l []))]
   (.nd (.pr (.len [ki64]) [(.v 10)])
   (.nd (.pr (.len [ki64]) [(.v 23)])
   (.nd (.pr (.nat .i64) [(.v 13)])
   (.nd (.pr (.cmp .lss .i64) [(.v 22), (.v 26)])
   (.ite (.v 27)
    (.blk 3 [(.sl [ki64])]
     (.nd (.pr (.ixc .i64) [(.v 22), (.v 13)])
     (.nd (.pr .plus [(.v 14), (.v 28)])
     (.nd (.pr (.get [ki64] 0) [(.v 10), (.v 29)])
     (.nd (.call 26 [(.v 1)] [ki64] [ki64])
     (.nd (.pr (.bin .mul .i64) [(.v 30), (.v 31)])
     (.nd (.pr (.mk [ki64] 1) [(.v 32)])
     (.nd (.pr (.app [ki64] 8) [(.v 23), (.v 33)])
     (.nd (.pr (.len [ki64]) [(.v 34)])
     (.out 0 [(.v 34)])))))))))
    (.nd (.pr (.len [ki64]) [(.v 10)])
    (.nd (.pr (.len [ki64]) [(.v 28)])
    (.nd (.pr (.bin .add .i64) [(.v 22), (.k (.i 1))])
    (.out 0 [(.v 31), (.v 28)])))))
    (.out 2 [(.v 23)])))))))
 (.nd (.pr (.len [ki64]) [(.v 22)])
 (.out 1 [(.v 20), (.k (.b true)), (.v 22)])))))))))))))))))
def e54 : Fe := ⟨⟨198, [ku32, ki64, ki64], [(.dat ku32 (.v 0)), (.dat ki64 (.v 1)), (.dat ki64 (.v 2))], [], [ku32, kb, (.sl [ki64])], [(.dat ku32 (.v 3)), (.sl 0 (.k (.i 0)) (.v 6) 1), (.dat kb (.v 4))], [(0, (.arr [ki64] (.v 5) (.v 6)))], 1⟩,
 ⟨[(2045, ⟨[(.sl [ki64])], [(15, (.dat ku32 (.v 20))), (17, (.sl 0 (.k (.i 0)) (.v 23) 1))], [(0, (.arr [ki64] (.v 22) (.v 23)))], 1⟩), (4090, ⟨[ki64, (.sl [ki64])], [(1, (.dat ki64 (.v 1))), (12, (.sl 0 (.v 14) (.v 13) 1)), (15, (.dat ku32 (.v 20))), (17, (.sl 1 (.k (.i 0)) (.v 25) 1)), (18, (.dat ki64 (.v 22)))], [(0, (.arr [ki64] (.v 10) (.v 24))), (1, (.arr [ki64] (.v 23) (.v 25)))], 2⟩), (32722, ⟨[(.sl [ki64])], [(1, (.dat ki64 (.v 1))), (12, (.sl 0 (.v 14) (.v 13) 1)), (15, (.dat ku32 (.v 20))), (17, (.sl 1 (.k (.i 0)) (.v 30) 1)), (18, (.dat ki64 (.v 22)))], [(0, (.arr [ki64] (.v 10) (.v 29))), (1, (.arr [ki64] (.v 28) (.v 30)))], 2⟩), (6, ⟨[kb], [(0, (.dat ku32 (.v 0))), (1, (.dat ki64 (.v 1))), (2, (.dat ki64 (.v 2))), (26, (.dat kb (.v 3)))], [], 0⟩)], [(65444, [1])]⟩,
 [(6, (.dat ku32 (.v 3))), (7, (.sl 0 (.k (.i 0)) (.v 6) 1)), (8, (.dat kb (.v 4)))], some t54, fun _ => none⟩
/-- loop.example/g00709/spec.l07Small -/
def t55 : Tr :=
(.nd (.call 38 [(.v 0), (.v 1), (.v 2), (.v 3), (.v 4), (.v 5), (.v 6), (.v 7)] [ki64, (.sl [ki64]), (.sl [ki64]), ku32, ki64, ki64, ki64, ku32] [(.sl [ki64])])
(.nd (.pr (.len [ki64]) [(.v 11)])
(.nd (.pr (.ixc .i64) [(.k (.i 0)), (.v 12)])
(.nd (.pr (.get [ki64] 0) [(.v 11), (.v 13)])
(.nd (.pr (.len [ki64]) [(.v 1)])
(.nd (.pr (.ixc .i64) [(.v 14), (.v 15)])
(.nd (.pr (.get [ki64] 0) [(.v 1), (.v 16)])
(.nd (.call 19 [(.v 17)] [ki64] [ki64])
(.seq [kb]
 (.nd (.pr (.cmp .eql .i64) [(.v 4), (.k (.i 0))])
 (.ite (.v 19)
  (.nd (.pr (.cmp .eql .i64) [(.v 5), (.v 10)])
  (.out 0 [(.v 20)]))
  (.out 0 [(.k (.b false))])))
(.nd (.pr (.len [ku32]) [(.v 9)])
(.nd (.pr (.len [ki64]) [(.v 11)])
(.ite (.v 19)
 (.nd (.call 49 [(.v 0), (.v 1), (.v 2), (.v 3), (.v 4), (.v 5), (.v 6), (.v 7), (.v 8), (.v 11)] [ki64, (.sl [ki64]), (.sl [ki64]), ku32, ki64, ki64, ki64, ku32, ki64, (.sl [ki64])] [ki64, ku32, ki64, ki64, ki64, ku32, (.sl [ki64, ki64, ki64, ki64, ki64]), (.sl [ki64])])
 (.nd (.pr (.len [ki64, ki64, ki64, ki64, ki64]) [(.v 28)])
 (.nd (.pr (.len [ki64]) [(.v 29)])
 (.out 1 [(.v 22), (.v 29), (.v 23), (.v 24), (.v 25), (.v 26), (.v 27), (.v 28), (.v 9)]))))
 (.nd (.call 52 [(.v 8), (.v 18), (.v 10)] [ki64, ki64, ki64] [ki64])
 (.nd (.pr (.bin .add .i64) [(.v 22), (.v 5)])
 (.nd (.pr (.bin .rem .i64) [(.v 23), (.v 10)])
 (.nd (.pr (.cmp .eql .i64) [(.v 4), (.k (.i 0))])
 (.ite (.v 25)
  (.nd (.call 41 [(.v 9), (.v 24)] [(.sl [ku32]), ki64] [ku32, kb])
  (.seq [ki64, ki64, ku32]
   (.nd (.call 25 [(.v 26), (.v 18)] [ku32, ki64] [ki64])
   (.nd (.pr (.cmp .gtr .i64) [(.v 28), (.k (.i 0))])
   (.ite (.v 29)
    (.out 0 [(.k (.i 1)), (.v 5), (.v 26)])
    (.nd (.pr (.bin .add .i64) [(.v 5), (.k (.i 1))])
    (.out 0 [(.v 4), (.v 30), (.v 7)])))))
  (.nd (.pr (.len [ku32]) [(.v 9)])
  (.out 1 [(.v 0), (.v 2), (.v 3), (.v 28), (.v 29), (.v 6), (.v 30), (.k (.l [])), (.v 9)]))))
  (.nd (.call 54 [(.v 7), (.v 18), (.v 21)] [ku32, ki64, ki64] [ku32, kb, (.sl [ki64])])
  (.nd (.pr (.len [ki64]) [(.v 28)])
  (.nd (.call 47 [(.v 9), (.v 24), (.v 7), (.v 26)] [(.sl [ku32]), ki64, ku32, ku32] [kb, kb, (.sl [ku32])])
  (.nd (.pr (.len [ku32]) [(.v 32)])
  (.nd (.pr .not [(.v 30)])
  (.ite (.v 34)
   (.out 1 [(.v 0), (.v 2), (.v 3), (.k (.i 0)), (.v 5), (.v 6), (.k (.i 0)), (.k (.l [])), (.v 32)])
   (.blk 2 [(.sl [ki64, ki64, ki64, ki64, ki64]), (.sl [ki64])]
    (.loop [ki64, (.sl [ki64, ki64, ki64, ki64, ki64]), (.sl [ki64])] [(.k (.i 0)), (.k (.l [])), (.k (.l []))]
     (.nd (.pr (.len [ku32]) [(.v 9)])
     (.nd (.pr (.len [ki64]) [(.v 11)])
     (.nd (.pr (.len [ki64]) [(.v 28)])
     (.nd (.pr (.len [ki64, ki64, ki64, ki64, ki64]) [(.v 36)])
     (.nd (.pr (.len [ki64]) [(.v 37)])
     (.nd (.pr (.len [ku32]) [(.v 32)])
     (.nd (.pr (.cmp .lss .i64) [(.v 35), (.v 40)])
     (.ite (.v 44)
      (.blk 3 [(.sl [ki64, ki64, ki64, ki64, ki64]), (.sl [ki64])]
       (.nd (.pr (.bin .mul .i64) [(.k (.i 16)), (.v 24)])
       (.nd (.pr (.ixc .i64) [(.v 35), (.v 40)])
       (.nd (.pr (.get [ki64] 0) [(.v 28), (.v 46)])
       (.nd (.pr (.bin .add .i64) [(.v 45), (.v 47)])
       (.nd (.pr (.ixc .i64) [(.v 35), (.v 39)])
       (.nd (.pr (.get [ki64] 0) [(.v 11), (.v 49)])
       (.nd (.call 26 [(.v 18)] [ki64] [ki64])
       (.nd (.pr (.mk [ki64, ki64, ki64, ki64, ki64] 1) [(.k (.i 1)), (.v 8), (.v 50), (.v 48), (.v 51)])
       (.nd (.pr (.app [ki64, ki64, ki64, ki64, ki64] 40) [(.v 36), (.v 52)])
       (.nd (.pr (.len [ki64, ki64, ki64, ki64, ki64]) [(.v 53)])
       (.nd (.pr (.mk [ki64] 1) [(.v 48)])
       (.nd (.pr (.app [ki64] 8) [(.v 37), (.v 55)])
       (.nd (.pr (.len [ki64]) [(.v 56)])
       (.out 0 [(.v 53), (.v 56)]))))))))))))))
      (.nd (.pr (.len [ku32]) [(.v 9)])
      (.nd (.pr (.len [ki64]) [(.v 11)])
      (.nd (.pr (.len [ki64]) [(.v 28)])
      (.nd (.pr (.len [ki64, ki64, ki64, ki64, ki64]) [(.v 45)])
      (.nd (.pr (.len [ki64]) [(.v 46)])
      (.nd (.pr (.len [ku32]) [(.v 32)])
      (.nd (.pr (.bin .add .i64) [(.v 35), (.k (.i 1))])
      (.out 0 [(.v 53), (.v 45), (.v 46)])))))))))
      (.out 2 [(.v 36), (.v 37)]))))))))))
   (.nd (.pr (.len [ku32]) [(.v 9)])
   (.nd (.pr (.len [ki64]) [(.v 11)])
   (.nd (.pr (.len [ki64]) [(.v 28)])
   (.nd (.pr (.len [ki64, ki64, ki64, ki64, ki64]) [(.v 35)])
   (.nd (.pr (.len [ki64]) [(.v 36)])
   (.nd (.pr (.len [ku32]) [(.v 32)])
   (.seq [ki64]
    (.nd (.pr (.cmp .eql .i64) [(.v 39), (.v 38)])
    (.ite (.v 43)
     (.out 0 [(.k (.i 0))])
     (.out 0 [(.v 5)])))
   (.nd (.pr (.len [ku32]) [(.v 9)])
   (.nd (.pr (.len [ki64]) [(.v 11)])
   (.nd (.pr (.len [ki64]) [(.v 28)])
   (.nd (.pr (.len [ki64, ki64, ki64, ki64, ki64]) [(.v 35)])
   (.nd (.pr (.len [ki64]) [(.v 36)])
   (.nd (.pr (.len [ku32]) [(.v 32)])
   (.nd (.pr (.rng .i64 .i64) [(.k (.i 0)), (.v 46), (.v 45)])
   (.nd (.pr (.nat .i64) [(.k (.i 0))])
   (.nd (.pr .plus [(.v 51), (.v 50)])
   (.nd (.pr (.cut [ki64] .i64 .i64) [(.v 11), (.v 51), (.v 52)])
   (.nd (.call 43 [(.v 0), (.v 1), (.v 2), (.v 3), (.k (.i 0)), (.v 43), (.v 6), (.k (.i 0)), (.v 53), (.v 36)] [ki64, (.sl [ki64]), (.sl [ki64]), ku32, ki64, ki64, ki64, ku32, (.sl [ki64]), (.sl [ki64])] [ki64, ku32, ki64, ki64, ki64, ku32, (.sl [ki64])])
   (.nd (.pr (.len [ki64]) [(.v 60)])
   (.out 1 [(.v 54), (.v 60), (.v 55), (.v 56), (.v 57), (.v 58), (.v 59), (.v 35), (.v 32)]))))))))))))))))))))))))))))))))))))))))))))
def e55 : Fe := ⟨⟨186, [ki64, (.sl [ki64]), (.sl [ki64]), ku32, ki64, ki64, ki64, ku32, ki64, (.sl [ku32])], [(.agg [(.dat ki64 (.v 0)), (.dat (.sl [ki64]) (.v 1)), (.dat (.sl [ki64]) (.v 2)), (.dat ku32 (.v 3)), (.dat ki64 (.v 4)), (.dat ki64 (.v 5)), (.dat ki64 (.v 6)), (.dat ku32 (.v 7))]), (.dat ki64 (.v 8)), (.agg [(.sl 0 (.k (.i 0)) (.v 10) 1)])], [(0, (.arr [ku32] (.v 9) (.v 10)))], [ki64, (.sl [ki64]), ku32, ki64, ki64, ki64, ku32, (.sl [ki64, ki64, ki64, ki64, ki64]), (.sl [ku32])], [(.agg [(.dat ki64 (.v 10)), (.dat (.sl [ki64]) (.v 1)), (.dat (.sl [ki64]) (.v 11)), (.dat ku32 (.v 12)), (.dat ki64 (.v 13)), (.dat ki64 (.v 14)), (.dat ki64 (.v 15)), (.dat ku32 (.v 16))]), (.agg [(.sl 4 (.k (.i 0)) (.v 20) 1)]), (.sl 3 (.k (.i 0)) (.v 19) 5)], [(1, (.cells [(.dat ki64 (.v 10)), (.dat (.sl [ki64]) (.v 1)), (.dat (.sl [ki64]) (.v 11)), (.dat ku32 (.v 12)), (.dat ki64 (.v 13)), (.dat ki64 (.v 14)), (.dat ki64 (.v 15)), (.dat ku32 (.v 16))])), (2, (.cells [(.sl 4 (.k (.i 0)) (.v 20) 1)])), (3, (.arr [ki64, ki64, ki64, ki64, ki64] (.v 17) (.v 19))), (4, (.arr [ku32] (.v 18) (.v 20)))], 5⟩,
 ⟨[(65535, ⟨[ki64], [(3, (.ptr 1 0)), (6, (.ptr 2 0)), (7, (.ptr 3 0)), (10, (.sl 4 (.k (.i 0)) (.v 45) 1)), (18, (.sl 5 (.k (.i 0)) (.v 46) 1)), (20, (.ptr 6 0)), (23, (.sl 7 (.k (.i 0)) (.v 47) 5)), (24, (.sl 8 (.k (.i 0)) (.v 48) 1))], [(0, (.arr [ku32] (.v 9) (.v 44))), (1, (.cells [(.dat ki64 (.v 0)), (.dat (.sl [ki64]) (.v 1)), (.dat (.sl [ki64]) (.v 2)), (.dat ku32 (.v 3)), (.dat ki64 (.k (.i 0))), (.dat ki64 (.v 43)), (.dat ki64 (.v 6)), (.dat ku32 (.k (.i 0)))])), (2, (.cells [(.dat ki64 (.k (.i 0))), .nilS, .nilS, (.dat ku32 (.k (.i 0))), (.dat ki64 (.k (.i 0))), (.dat ki64 (.k (.i 0))), (.dat ki64 (.k (.i 0))), (.dat ku32 (.k (.i 0)))])), (3, (.cells [.nilS])), (4, (.arr [ki64] (.v 11) (.v 45))), (5, (.arr [ki64] (.v 28) (.v 46))), (6, (.cells [(.sl 9 (.k (.i 0)) (.v 49) 1)])), (7, (.arr [ki64, ki64, ki64, ki64, ki64] (.v 35) (.v 47))), (8, (.arr [ki64] (.v 36) (.v 48))), (9, (.arr [ku32] (.v 32) (.v 49)))], 10⟩), (131069, ⟨[(.sl [ki64, ki64, ki64, ki64, ki64]), (.sl [ki64])], [(3, (.ptr 1 0)), (6, (.ptr 2 0)), (7, (.ptr 3 0)), (10, (.sl 4 (.k (.i 0)) (.v 38) 1)), (18, (.sl 5 (.k (.i 0)) (.v 39) 1)), (20, (.ptr 6 0)), (23, (.sl 7 (.k (.i 0)) (.v 40) 5)), (24, (.sl 8 (.k (.i 0)) (.v 41) 1))], [(0, (.arr [ku32] (.v 9) (.v 37))), (1, (.cells [(.dat ki64 (.v 0)), (.dat (.sl [ki64]) (.v 1)), (.dat (.sl [ki64]) (.v 2)), (.dat ku32 (.v 3)), (.dat ki64 (.k (.i 0))), (.dat ki64 (.v 5)), (.dat ki64 (.v 6)), (.dat ku32 (.k (.i 0)))])), (2, (.cells [(.dat ki64 (.k (.i 0))), .nilS, .nilS, (.dat ku32 (.k (.i 0))), (.dat ki64 (.k (.i 0))), (.dat ki64 (.k (.i 0))), (.dat ki64 (.k (.i 0))), (.dat ku32 (.k (.i 0)))])), (3, (.cells [.nilS])), (4, (.arr [ki64] (.v 11) (.v 38))), (5, (.arr [ki64] (.v 28) (.v 39))), (6, (.cells [(.sl 9 (.k (.i 0)) (.v 42) 1)])), (7, (.arr [ki64, ki64, ki64, ki64, ki64] (.v 35) (.v 40))), (8, (.arr [ki64] (.v 36) (.v 41))), (9, (.arr [ku32] (.v 32) (.v 42)))], 10⟩), (262138, ⟨[ki64, (.sl [ki64, ki64, ki64, ki64, ki64]), (.sl [ki64])], [(1, (.dat ki64 (.v 8))), (3, (.ptr 1 0)), (6, (.ptr 2 0)), (7, (.ptr 3 0)), (10, (.sl 4 (.k (.i 0)) (.v 39) 1)), (11, (.dat ki64 (.v 18))), (14, (.dat ki64 (.v 24))), (18, (.sl 5 (.k (.i 0)) (.v 40) 1)), (20, (.ptr 6 0)), (23, (.sl 7 (.k (.i 0)) (.v 41) 5)), (24, (.sl 8 (.k (.i 0)) (.v 42) 1)), (25, (.dat ki64 (.v 35)))], [(0, (.arr [ku32] (.v 9) (.v 38))), (1, (.cells [(.dat ki64 (.v 0)), (.dat (.sl [ki64]) (.v 1)), (.dat (.sl [ki64]) (.v 2)), (.dat ku32 (.v 3)), (.dat ki64 (.k (.i 0))), (.dat ki64 (.v 5)), (.dat ki64 (.v 6)), (.dat ku32 (.k (.i 0)))])), (2, (.cells [(.dat ki64 (.k (.i 0))), .nilS, .nilS, (.dat ku32 (.k (.i 0))), (.dat ki64 (.k (.i 0))), (.dat ki64 (.k (.i 0))), (.dat ki64 (.k (.i 0))), (.dat ku32 (.k (.i 0)))])), (3, (.cells [.nilS])), (4, (.arr [ki64] (.v 11) (.v 39))), (5, (.arr [ki64] (.v 28) (.v 40))), (6, (.cells [(.sl 9 (.k (.i 0)) (.v 43) 1)])), (7, (.arr [ki64, ki64, ki64, ki64, ki64] (.v 36) (.v 41))), (8, (.arr [ki64] (.v 37) (.v 42))), (9, (.arr [ku32] (.v 32) (.v 43)))], 10⟩), (2097106, ⟨[(.sl [ki64, ki64, ki64, ki64, ki64]), (.sl [ki64])], [(1, (.dat ki64 (.v 8))), (3, (.ptr 1 0)), (6, (.ptr 2 0)), (7, (.ptr 3 0)), (10, (.sl 4 (.k (.i 0)) (.v 48) 1)), (11, (.dat ki64 (.v 18))), (14, (.dat ki64 (.v 24))), (18, (.sl 5 (.k (.i 0)) (.v 49) 1)), (20, (.ptr 6 0)), (23, (.sl 7 (.k (.i 0)) (.v 50) 5)), (24, (.sl 8 (.k (.i 0)) (.v 51) 1)), (25, (.dat ki64 (.v 35)))], [(0, (.arr [ku32] (.v 9) (.v 47))), (1, (.cells [(.dat ki64 (.v 0)), (.dat (.sl [ki64]) (.v 1)), (.dat (.sl [ki64]) (.v 2)), (.dat ku32 (.v 3)), (.dat ki64 (.k (.i 0))), (.dat ki64 (.v 5)), (.dat ki64 (.v 6)), (.dat ku32 (.k (.i 0)))])), (2, (.cells [(.dat ki64 (.k (.i 0))), .nilS, .nilS, (.dat ku32 (.k (.i 0))), (.dat ki64 (.k (.i 0))), (.dat ki64 (.k (.i 0))), (.dat ki64 (.k (.i 0))), (.dat ku32 (.k (.i 0)))])), (3, (.cells [.nilS])), (4, (.arr [ki64] (.v 11) (.v 48))), (5, (.arr [ki64] (.v 28) (.v 49))), (6, (.cells [(.sl 9 (.k (.i 0)) (.v 52) 1)])), (7, (.arr [ki64, ki64, ki64, ki64, ki64] (.v 45) (.v 50))), (8, (.arr [ki64] (.v 46) (.v 51))), (9, (.arr [ku32] (.v 32) (.v 52)))], 10⟩), (2037, ⟨[ki64, ki64, ku32], [(3, (.ptr 1 0)), (5, (.ptr 2 0)), (6, (.ptr 3 0)), (7, (.ptr 4 0))], [(0, (.arr [ku32] (.v 9) (.v 31))), (1, (.cells [(.dat ki64 (.v 0)), (.dat (.sl [ki64]) (.v 1)), (.dat (.sl [ki64]) (.v 2)), (.dat ku32 (.v 3)), (.dat ki64 (.v 28)), (.dat ki64 (.v 29)), (.dat ki64 (.v 6)), (.dat ku32 (.v 30))])), (2, (.cells [(.sl 0 (.k (.i 0)) (.v 31) 1)])), (3, (.cells [(.dat ki64 (.k (.i 0))), .nilS, .nilS, (.dat ku32 (.k (.i 0))), (.dat ki64 (.k (.i 0))), (.dat ki64 (.k (.i 0))), (.dat ki64 (.k (.i 0))), (.dat ku32 (.k (.i 0)))])), (4, (.cells [.nilS]))], 5⟩), (62, ⟨[kb], [(1, (.dat ki64 (.v 8))), (3, (.ptr 1 0)), (5, (.ptr 2 0)), (6, (.ptr 3 0)), (7, (.ptr 4 0)), (9, (.dat ki64 (.v 10))), (10, (.sl 5 (.k (.i 0)) (.v 21) 1)), (11, (.dat ki64 (.v 18))), (48, (.dat kb (.v 19)))], [(0, (.arr [ku32] (.v 9) (.v 20))), (1, (.cells [(.dat ki64 (.v 0)), (.dat (.sl [ki64]) (.v 1)), (.dat (.sl [ki64]) (.v 2)), (.dat ku32 (.v 3)), (.dat ki64 (.v 4)), (.dat ki64 (.v 5)), (.dat ki64 (.v 6)), (.dat ku32 (.v 7))])), (2, (.cells [(.sl 0 (.k (.i 0)) (.v 20) 1)])), (3, (.cells [(.dat ki64 (.k (.i 0))), .nilS, .nilS, (.dat ku32 (.k (.i 0))), (.dat ki64 (.k (.i 0))), (.dat ki64 (.k (.i 0))), (.dat ki64 (.k (.i 0))), (.dat ku32 (.k (.i 0)))])), (4, (.cells [.nilS])), (5, (.arr [ki64] (.v 11) (.v 21)))], 6⟩)], [(262142, [2, 3]), (16776850, [7]), (65524, [3, 4]), (8150, [3, 4]), (1002, [3, 4])]⟩,
 [(6, (.ptr 1 0)), (7, (.ptr 2 0)), (8, (.sl 3 (.k (.i 0)) (.v 19) 5))], some t55, fun _ => none⟩
/-- loop.example/g00709/spec.WarpStep -/
def t56 : Tr :=
(.seq [kb]
 (.nd (.pr (.cmp .lss .i64) [(.v 8), (.k (.i 0))])
 (.ite (.v 10)
  (.out 0 [(.k (.b true))])
  (.nd (.pr (.cmp .gtr .i64) [(.v 8), (.k (.i 3))])
  (.ite (.v 11)
   (.out 0 [(.k (.b true))])
   (.nd (.call 35 [(.v 9)] [(.sl [ku32])] [kb])
   (.nd (.pr .not [(.v 12)])
   (.ite (.v 13)
    (.out 0 [(.k (.b true))])
    (.nd (.pr (.len [ku32]) [(.v 9)])
    (.nd (.call 33 [(.v 0), (.v 1), (.v 2), (.v 3), (.v 4), (.v 5), (.v 6), (.v 7), (.v 14)] [ki64, (.sl [ki64]), (.sl [ki64]), ku32, ki64, ki64, ki64, ku32, ki64] [kb])
    (.nd (.pr .not [(.v 15)])
    (.ite (.v 16)
     (.out 0 [(.k (.b true))])
     (.nd (.pr (.cmp .eql .i64) [(.v 0), (.k (.i 0))])
     (.out 0 [(.v 17)])))))))))))))
(.ite (.v 10)
 (.out 1 [(.k (.b false)), (.k (.i 0)), (.k (.l [])), (.k (.l [])), (.k (.i 0)), (.k (.i 0)), (.k (.i 0)), (.k (.i 0)), (.k (.i 0)), (.k (.l [])), (.k (.l []))])
 (.nd (.call 36 [(.v 0), (.v 1), (.v 2), (.v 3), (.v 4), (.v 5), (.v 6), (.v 7)] [ki64, (.sl [ki64]), (.sl [ki64]), ku32, ki64, ki64, ki64, ku32] [(.sl [ki64]), (.sl [ki64])])
 (.nd (.pr (.len [ki64]) [(.v 11)])
 (.nd (.pr (.len [ki64]) [(.v 12)])
 (.nd (.pr (.app [ku32] 4) [(.k (.l [])), (.v 9)])
 (.nd (.pr (.len [ku32]) [(.v 15)])
 (.nd (.call 37 [(.v 3)] [ku32] [ki64])
 (.nd (.pr (.len [ki64]) [(.v 1)])
 (.nd (.pr (.ixc .i64) [(.v 17), (.v 18)])
 (.nd (.pr (.get [ki64] 0) [(.v 1), (.v 19)])
 (.blk 2 [ki64, (.sl [ki64]), ku32, ki64, ki64, ki64, ku32, (.sl [ki64, ki64, ki64, ki64, ki64]), (.sl [ku32])]
  (.nd (.pr (.cmp .eql .i64) [(.v 0), (.k (.i 2))])
  (.ite (.v 21)
   (.nd (.call 48 [(.v 0), (.v 11), (.v 12), (.v 3), (.v 4), (.v 5), (.v 6), (.v 7), (.v 8), (.v 15)] [ki64, (.sl [ki64]), (.sl [ki64]), ku32, ki64, ki64, ki64, ku32, ki64, (.sl [ku32])] [ki64, (.sl [ki64]), ku32, ki64, ki64, ki64, ku32, (.sl [ki64, ki64, ki64, ki64, ki64]), (.sl [ku32])])
   (.nd (.pr (.len [ki64, ki64, ki64, ki64, ki64]) [(.v 29)])
   (.nd (.pr (.len [ku32]) [(.v 30)])
   (.out 0 [(.v 22), (.v 23), (.v 24), (.v 25), (.v 26), (.v 27), (.v 28), (.v 29), (.v 30)]))))
   (.nd (.pr (.cmp .gtr .i64) [(.v 20), (.k (.i 16))])
   (.ite (.v 22)
    (.nd (.call 51 [(.v 0), (.v 11), (.v 12), (.v 3), (.v 4), (.v 5), (.v 6), (.v 7), (.v 8), (.v 15)] [ki64, (.sl [ki64]), (.sl [ki64]), ku32, ki64, ki64, ki64, ku32, ki64, (.sl [ku32])] [ki64, (.sl [ki64]), ku32, ki64, ki64, ki64, ku32, (.sl [ki64, ki64, ki64, ki64, ki64]), (.sl [ku32])])
    (.nd (.pr (.len [ki64, ki64, ki64, ki64, ki64]) [(.v 30)])
    (.nd (.pr (.len [ku32]) [(.v 31)])
    (.out 0 [(.v 23), (.v 24), (.v 25), (.v 26), (.v 27), (.v 28), (.v 29), (.v 30), (.v 31)]))))
    (.nd (.call 55 [(.v 0), (.v 11), (.v 12), (.v 3), (.v 4), (.v 5), (.v 6), (.v 7), (.v 8), (.v 15)] [ki64, (.sl [ki64]), (.sl [ki64]), ku32, ki64, ki64, ki64, ku32, ki64, (.sl [ku32])] [ki64, (.sl [ki64]), ku32, ki64, ki64, ki64, ku32, (.sl [ki64, ki64, ki64, ki64, ki64]), (.sl [ku32])])
    (.nd (.pr (.len [ki64, ki64, ki64, ki64, ki64]) [(.v 30)])
    (.nd (.pr (.len [ku32]) [(.v 31)])
    (.out 0 [(.v 23), (.v 24), (.v 25), (.v 26), (.v 27), (.v 28), (.v 29), (.v 30), (.v 31)]))))))))
 (.nd (.pr (.len [ki64, ki64, ki64, ki64, ki64]) [(.v 28)])
 (.nd (.pr (.len [ku32]) [(.v 29)])
 (.out 1 [(.k (.b true)), (.v 21), (.v 11), (.v 22), (.v 23), (.v 24), (.v 25), (.v 26), (.v 27), (.v 28), (.v 29)])))))))))))))))
def e56 : Fe := ⟨⟨179, [ki64, (.sl [ki64]), (.sl [ki64]), ku32, ki64, ki64, ki64, ku32, ki64, (.sl [ku32])], [(.agg [(.dat ki64 (.v 0)), (.lz [ki64] (.v 1)), (.lz [ki64] (.v 2)), (.dat ku32 (.v 3)), (.dat ki64 (.v 4)), (.dat ki64 (.v 5)), (.dat ki64 (.v 6)), (.dat ku32 (.v 7))]), (.dat ki64 (.v 8)), (.agg [(.lz [ku32] (.v 9))])], [], [kb, ki64, (.sl [ki64]), (.sl [ki64]), ku32, ki64, ki64, ki64, ku32, (.sl [ki64, ki64, ki64, ki64, ki64]), (.sl [ku32])], [(.agg [(.dat ki64 (.v 11)), (.dat (.sl [ki64]) (.v 12)), (.dat (.sl [ki64]) (.v 13)), (.dat ku32 (.v 14)), (.dat ki64 (.v 15)), (.dat ki64 (.v 16)), (.dat ki64 (.v 17)), (.dat ku32 (.v 18))]), (.agg [(.sl 3 (.k (.i 0)) (.v 22) 1)]), (.sl 2 (.k (.i 0)) (.v 21) 5), (.dat kb (.v 10))], [(0, (.cells [(.dat ki64 (.v 11)), (.dat (.sl [ki64]) (.v 12)), (.dat (.sl [ki64]) (.v 13)), (.dat ku32 (.v 14)), (.dat ki64 (.v 15)), (.dat ki64 (.v 16)), (.dat ki64 (.v 17)), (.dat ku32 (.v 18))])), (1, (.cells [(.sl 3 (.k (.i 0)) (.v 22) 1)])), (2, (.arr [ki64, ki64, ki64, ki64, ki64] (.v 19) (.v 21))), (3, (.arr [ku32] (.v 20) (.v 22)))], 4⟩,
 ⟨[(254, ⟨[ki64, (.sl [ki64]), ku32, ki64, ki64, ki64, ku32, (.sl [ki64, ki64, ki64, ki64, ki64]), (.sl [ku32])], [(6, (.ptr 0 0)), (7, (.ptr 1 0)), (10, (.ptr 2 0)), (11, (.ptr 3 0)), (13, (.sl 4 (.k (.i 0)) (.v 30) 5))], [(0, (.cells [(.dat ki64 (.k (.i 0))), .nilS, .nilS, (.dat ku32 (.k (.i 0))), (.dat ki64 (.k (.i 0))), (.dat ki64 (.k (.i 0))), (.dat ki64 (.k (.i 0))), (.dat ku32 (.k (.i 0)))])), (1, (.cells [.nilS])), (2, (.cells [(.dat ki64 (.v 21)), (.dat (.sl [ki64]) (.v 11)), (.dat (.sl [ki64]) (.v 22)), (.dat ku32 (.v 23)), (.dat ki64 (.v 24)), (.dat ki64 (.v 25)), (.dat ki64 (.v 26)), (.dat ku32 (.v 27))])), (3, (.cells [(.sl 5 (.k (.i 0)) (.v 31) 1)])), (4, (.arr [ki64, ki64, ki64, ki64, ki64] (.v 28) (.v 30))), (5, (.arr [ku32] (.v 29) (.v 31)))], 6⟩), (6, ⟨[kb], [(1, (.dat ki64 (.v 8))), (3, (.ptr 0 0)), (5, (.ptr 1 0)), (6, (.ptr 2 0)), (7, (.ptr 3 0)), (37, (.dat kb (.v 10)))], [(0, (.cells [(.dat ki64 (.v 0)), (.lz [ki64] (.v 1)), (.lz [ki64] (.v 2)), (.dat ku32 (.v 3)), (.dat ki64 (.v 4)), (.dat ki64 (.v 5)), (.dat ki64 (.v 6)), (.dat ku32 (.v 7))])), (1, (.cells [(.lz [ku32] (.v 9))])), (2, (.cells [(.dat ki64 (.k (.i 0))), .nilS, .nilS, (.dat ku32 (.k (.i 0))), (.dat ki64 (.k (.i 0))), (.dat ki64 (.k (.i 0))), (.dat ki64 (.k (.i 0))), (.dat ku32 (.k (.i 0)))])), (3, (.cells [.nilS]))], 4⟩)], [(510, [0, 1])]⟩,
 [(6, (.ptr 0 0)), (7, (.ptr 1 0)), (8, (.sl 2 (.k (.i 0)) (.v 21) 5)), (9, (.dat kb (.v 10)))], some t56, fun _ => none⟩
/-- (*loop.example/g00709/spec.l01Cur).heap -/
def t57 : Tr :=
(.nd (.call 2 [(.v 0), (.v 1), (.v 2), (.k (.i 6))] [(.sl [ku8]), ki64, ki64, ki64] [ki64, ki64, ki64])
(.nd (.pr (.bin .add .i64) [(.k (.i 1)), (.v 3)])
(.nd (.call 3 [(.v 6)] [ki64] [kb, (.sl [ku32])])
(.nd (.pr (.len [ku32]) [(.v 8)])
(.nd (.call 5 [] [] [(.sl [ki64]), (.sl [ki64])])
(.nd (.pr (.len [ki64]) [(.v 10)])
(.nd (.pr (.len [ki64]) [(.v 11)])
(.nd (.call 5 [] [] [(.sl [ki64]), (.sl [ki64])])
(.nd (.pr (.len [ki64]) [(.v 14)])
(.nd (.pr (.len [ki64]) [(.v 15)])
(.nd (.call 5 [] [] [(.sl [ki64]), (.sl [ki64])])
(.nd (.pr (.len [ki64]) [(.v 18)])
(.nd (.pr (.len [ki64]) [(.v 19)])
(.nd (.pr (.mk [ki64, (.sl [ki64]), (.sl [ki64]), ku32, ki64, ki64, ki64, ku32] 3) [(.k (.i 0)), (.v 10), (.v 11), (.k (.i 0)), (.k (.i 0)), (.k (.i 0)), (.k (.i 0)), (.k (.i 0)), (.k (.i 0)), (.v 14), (.v 15), (.k (.i 0)), (.k (.i 0)), (.k (.i 0)), (.k (.i 0)), (.k (.i 0)), (.k (.i 0)), (.v 18), (.v 19), (.k (.i 0)), (.k (.i 0)), (.k (.i 0)), (.k (.i 0)), (.k (.i 0))])
(.nd (.call 6 [(.v 0), (.v 4), (.v 5), (.k (.i 60))] [(.sl [ku8]), ki64, ki64, ki64] [ki64, ki64, ki64])
(.blk 2 [ki64, ki64, (.sl [ki64, (.sl [ki64]), (.sl [ki64]), ku32, ki64, ki64, ki64, ku32]), (.sl [ku32])]
 (.loop [ki64, ki64, ki64, (.sl [ki64, (.sl [ki64]), (.sl [ki64]), ku32, ki64, ki64, ki64, ku32]), (.sl [ku32])] [(.v 23), (.v 24), (.v 25), (.v 22), (.v 8)]
  (.nd (.pr (.len [ki64, (.sl [ki64]), (.sl [ki64]), ku32, ki64, ki64, ki64, ku32]) [(.v 29)])
  (.nd (.pr (.len [ku32]) [(.v 30)])
  (.nd (.pr (.cmp .gtr .i64) [(.v 26), (.k (.i 0))])
  (.ite (.v 33)
   (.blk 3 [ki64, ki64, (.sl [ki64, (.sl [ki64]), (.sl [ki64]), ku32, ki64, ki64, ki64, ku32]), (.sl [ku32])]
    (.nd (.call 2 [(.v 0), (.v 27), (.v 28), (.k (.i 3))] [(.sl [ku8]), ki64, ki64, ki64] [ki64, ki64, ki64])
    (.nd (.pr (.ixc .i64) [(.v 34), (.v 31)])
    (.nd (.pr (.get [ki64, (.sl [ki64]), (.sl [ki64]), ku32, ki64, ki64, ki64, ku32] 0) [(.v 29), (.v 37)])
    (.nd (.pr (.cmp .eql .i64) [(.v 38), (.k (.i 0))])
    (.ite (.v 39)
     (.nd (.pr (.ixc .i64) [(.v 34), (.v 31)])
     (.nd (.pr (.get [ki64, (.sl [ki64]), (.sl [ki64]), ku32, ki64, ki64, ki64, ku32] 0) [(.v 29), (.v 40)])
     (.nd (.pr (.get [ki64, (.sl [ki64]), (.sl [ki64]), ku32, ki64, ki64, ki64, ku32] 1) [(.v 29), (.v 40)])
     (.nd (.pr (.get [ki64, (.sl [ki64]), (.sl [ki64]), ku32, ki64, ki64, ki64, ku32] 2) [(.v 29), (.v 40)])
     (.nd (.pr (.get [ki64, (.sl [ki64]), (.sl [ki64]), ku32, ki64, ki64, ki64, ku32] 3) [(.v 29), (.v 40)])
     (.nd (.pr (.get [ki64, (.sl [ki64]), (.sl [ki64]), ku32, ki64, ki64, ki64, ku32] 4) [(.v 29), (.v 40)])
     (.nd (.pr (.get [ki64, (.sl [ki64]), (.sl [ki64]), ku32, ki64, ki64, ki64, ku32] 5) [(.v 29), (.v 40)])
     (.nd (.pr (.get [ki64, (.sl [ki64]), (.sl [ki64]), ku32, ki64, ki64, ki64, ku32] 6) [(.v 29), (.v 40)])
     (.nd (.pr (.get [ki64, (.sl [ki64]), (.sl [ki64]), ku32, ki64, ki64, ki64, ku32] 7) [(.v 29), (.v 40)])
     (.nd (.call 8 [(.v 0), (.v 35), (.v 36)] [(.sl [ku8]), ki64, ki64] [ki64, ki64, ki64, (.sl [ki64])])
     (.nd (.pr (.len [ki64]) [(.v 52)])
     (.nd (.call 34 [(.v 41), (.v 42), (.v 43), (.v 44), (.v 45), (.v 46), (.v 47), (.v 48), (.v 51), (.v 52)] [ki64, (.sl [ki64]), (.sl [ki64]), ku32, ki64, ki64, ki64, ku32, ki64, (.sl [ki64])] [kb, ki64, ku32, (.sl [ki64]), (.sl [ki64])])
     (.nd (.pr (.len [ki64]) [(.v 57)])
     (.nd (.pr (.len [ki64]) [(.v 58)])
     (.seq [(.sl [ki64, (.sl [ki64]), (.sl [ki64]), ku32, ki64, ki64, ki64, ku32])]
      (.ite (.v 54)
       (.nd (.pr (.ixc .i64) [(.v 34), (.v 31)])
       (.nd (.pr (.set [ki64, (.sl [ki64]), (.sl [ki64]), ku32, ki64, ki64, ki64, ku32] 0) [(.v 29), (.v 61), (.v 55)])
       (.nd (.pr (.set [ki64, (.sl [ki64]), (.sl [ki64]), ku32, ki64, ki64, ki64, ku32] 1) [(.v 62), (.v 61), (.v 57)])
       (.nd (.pr (.set [ki64, (.sl [ki64]), (.sl [ki64]), ku32, ki64, ki64, ki64, ku32] 2) [(.v 63), (.v 61), (.v 58)])
       (.nd (.pr (.set [ki64, (.sl [ki64]), (.sl [ki64]), ku32, ki64, ki64, ki64, ku32] 3) [(.v 64), (.v 61), (.v 56)])
       (.nd (.pr (.set [ki64, (.sl [ki64]), (.sl [ki64]), ku32, ki64, ki64, ki64, ku32] 4) [(.v 65), (.v 61), (.k (.i 0))])
       (.nd (.pr (.set [ki64, (.sl [ki64]), (.sl [ki64]), ku32, ki64, ki64, ki64, ku32] 5) [(.v 66), (.v 61), (.k (.i 0))])
       (.nd (.pr (.set [ki64, (.sl [ki64]), (.sl [ki64]), ku32, ki64, ki64, ki64, ku32] 6) [(.v 67), (.v 61), (.k (.i 0))])
       (.nd (.pr (.set [ki64, (.sl [ki64]), (.sl [ki64]), ku32, ki64, ki64, ki64, ku32] 7) [(.v 68), (.v 61), (.k (.i 0))])
       (.out 0 [(.v 69)]))))))))))
       (.out 0 [(.v 29)]))
     (.nd (.pr (.len [ki64, (.sl [ki64]), (.sl [ki64]), ku32, ki64, ki64, ki64, ku32]) [(.v 61)])
     (.nd (.pr (.len [ku32]) [(.v 30)])
     (.out 3 [(.v 49), (.v 50), (.v 61), (.v 30)]))))))))))))))))))
     (.nd (.call 2 [(.v 0), (.v 35), (.v 36), (.k (.i 6))] [(.sl [ku8]), ki64, ki64, ki64] [ki64, ki64, ki64])
     (.blk 4 [(.sl [ki64, (.sl [ki64]), (.sl [ki64]), ku32, ki64, ki64, ki64, ku32]), (.sl [ku32])]
      (.loop [ki64, (.sl [ki64, (.sl [ki64]), (.sl [ki64]), ku32, ki64, ki64, ki64, ku32]), (.sl [ku32])] [(.v 40), (.v 29), (.v 30)]
       (.nd (.pr (.len [ki64, (.sl [ki64]), (.sl [ki64]), ku32, ki64, ki64, ki64, ku32]) [(.v 44)])
       (.nd (.pr (.len [ku32]) [(.v 45)])
       (.nd (.pr (.cmp .geq .i64) [(.v 43), (.k (.i 0))])
       (.ite (.v 48)
        (.blk 5 [(.sl [ki64, (.sl [ki64]), (.sl [ki64]), ku32, ki64, ki64, ki64, ku32]), (.sl [ku32])]
         (.nd (.pr (.ixc .i64) [(.v 34), (.v 46)])
         (.nd (.pr (.get [ki64, (.sl [ki64]), (.sl [ki64]), ku32, ki64, ki64, ki64, ku32] 0) [(.v 44), (.v 49)])
         (.nd (.pr (.get [ki64, (.sl [ki64]), (.sl [ki64]), ku32, ki64, ki64, ki64, ku32] 1) [(.v 44), (.v 49)])
         (.nd (.pr (.get [ki64, (.sl [ki64]), (.sl [ki64]), ku32, ki64, ki64, ki64, ku32] 2) [(.v 44), (.v 49)])
         (.nd (.pr (.get [ki64, (.sl [ki64]), (.sl [ki64]), ku32, ki64, ki64, ki64, ku32] 3) [(.v 44), (.v 49)])
         (.nd (.pr (.get [ki64, (.sl [ki64]), (.sl [ki64]), ku32, ki64, ki64, ki64, ku32] 4) [(.v 44), (.v 49)])
         (.nd (.pr (.get [ki64, (.sl [ki64]), (.sl [ki64]), ku32, ki64, ki64, ki64, ku32] 5) [(.v 44), (.v 49)])
         (.nd (.pr (.get [ki64, (.sl [ki64]), (.sl [ki64]), ku32, ki64, ki64, ki64, ku32] 6) [(.v 44), (.v 49)])
         (.nd (.pr (.get [ki64, (.sl [ki64]), (.sl [ki64]), ku32, ki64, ki64, ki64, ku32] 7) [(.v 44), (.v 49)])
         (.nd (.call 56 [(.v 50), (.v 51), (.v 52), (.v 53), (.v 54), (.v 55), (.v 56), (.v 57), (.v 34), (.v 45)] [ki64, (.sl [ki64]), (.sl [ki64]), ku32, ki64, ki64, ki64, ku32, ki64, (.sl [ku32])] [kb, ki64, (.sl [ki64]), (.sl [ki64]), ku32, ki64, ki64, ki64, ku32, (.sl [ki64, ki64, ki64, ki64, ki64]), (.sl [ku32])])
         (.nd (.pr (.len [ki64, ki64, ki64, ki64, ki64]) [(.v 67)])
         (.nd (.pr (.len [ku32]) [(.v 68)])
         (.ite (.v 58)
          (.nd (.pr (.ixc .i64) [(.v 34), (.v 46)])
          (.nd (.pr (.set [ki64, (.sl [ki64]), (.sl [ki64]), ku32, ki64, ki64, ki64, ku32] 0) [(.v 44), (.v 71), (.v 59)])
          (.nd (.pr (.set [ki64, (.sl [ki64]), (.sl [ki64]), ku32, ki64, ki64, ki64, ku32] 1) [(.v 72), (.v 71), (.v 60)])
          (.nd (.pr (.set [ki64, (.sl [ki64]), (.sl [ki64]), ku32, ki64, ki64, ki64, ku32] 2) [(.v 73), (.v 71), (.v 61)])
          (.nd (.pr (.set [ki64, (.sl [ki64]), (.sl [ki64]), ku32, ki64, ki64, ki64, ku32] 3) [(.v 74), (.v 71), (.v 62)])
          (.nd (.pr (.set [ki64, (.sl [ki64]), (.sl [ki64]), ku32, ki64, ki64, ki64, ku32] 4) [(.v 75), (.v 71), (.v 63)])
          (.nd (.pr (.set [ki64, (.sl [ki64]), (.sl [ki64]), ku32, ki64, ki64, ki64, ku32] 5) [(.v 76), (.v 71), (.v 64)])
          (.nd (.pr (.set [ki64, (.sl [ki64]), (.sl [ki64]), ku32, ki64, ki64, ki64, ku32] 6) [(.v 77), (.v 71), (.v 65)])
          (.nd (.pr (.set [ki64, (.sl [ki64]), (.sl [ki64]), ku32, ki64, ki64, ki64, ku32] 7) [(.v 78), (.v 71), (.v 66)])
          (.out 0 [(.v 79), (.v 68)]))))))))))
          (.out 0 [(.v 44), (.v 45)]))))))))))))))
        (.nd (.pr (.len [ki64, (.sl [ki64]), (.sl [ki64]), ku32, ki64, ki64, ki64, ku32]) [(.v 49)])
        (.nd (.pr (.len [ku32]) [(.v 50)])
        (.nd (.pr (.bin .sub .i64) [(.v 43), (.k (.i 1))])
        (.out 0 [(.v 53), (.v 49), (.v 50)])))))
        (.out 4 [(.v 44), (.v 45)]))))))
     (.nd (.pr (.len [ki64, (.sl [ki64]), (.sl [ki64]), ku32, ki64, ki64, ki64, ku32]) [(.v 43)])
     (.nd (.pr (.len [ku32]) [(.v 44)])
     (.out 0 [(.v 41), (.v 42), (.v 43), (.v 44)]))))))))))
   (.nd (.pr (.len [ki64, (.sl [ki64]), (.sl [ki64]), ku32, ki64, ki64, ki64, ku32]) [(.v 36)])
   (.nd (.pr (.len [ku32]) [(.v 37)])
   (.nd (.pr (.bin .sub .i64) [(.v 26), (.k (.i 1))])
   (.out 0 [(.v 40), (.v 34), (.v 35), (.v 36), (.v 37)])))))
   (.out 2 [(.v 27), (.v 28), (.v 29), (.v 30)]))))))
(.nd (.pr (.len [ki64, (.sl [ki64]), (.sl [ki64]), ku32, ki64, ki64, ki64, ku32]) [(.v 28)])
(.nd (.pr (.len [ku32]) [(.v 29)])
(.out 1 [(.v 26), (.v 27), (.v 28), (.v 29)])))))))))))))))))))
def e57 : Fe := ⟨⟨169, [(.sl [ku8]), ki64, ki64], [(.ptr 0 0)], [(0, (.cells [(.dat (.sl [ku8]) (.v 0)), (.dat ki64 (.v 1)), (.dat ki64 (.v 2))]))], [ki64, ki64, (.sl [ki64, (.sl [ki64]), (.sl [ki64]), ku32, ki64, ki64, ki64, ku32]), (.sl [ku32])], [(.agg [(.sl 3 (.k (.i 0)) (.v 8) 1)]), (.sl 2 (.k (.i 0)) (.v 7) 8)], [(0, (.cells [(.dat (.sl [ku8]) (.v 0)), (.dat ki64 (.v 3)), (.dat ki64 (.v 4))])), (1, (.cells [(.sl 3 (.k (.i 0)) (.v 8) 1)])), (2, (.arr [ki64, (.sl [ki64]), (.sl [ki64]), ku32, ki64, ki64, ki64, ku32] (.v 5) (.v 7))), (3, (.arr [ku32] (.v 6) (.v 8)))], 4⟩,
 ⟨[(61, ⟨[ki64, ki64, (.sl [ki64, (.sl [ki64]), (.sl [ki64]), ku32, ki64, ki64, ki64, ku32]), (.sl [ku32])], [(2, (.ptr 1 0)), (4, (.ptr 2 0)), (6, (.sl 3 (.k (.i 0)) (.v 30) 8))], [(0, (.cells [(.dat (.sl [ku8]) (.v 0)), (.dat ki64 (.v 26)), (.dat ki64 (.v 27))])), (1, (.cells [.nilS])), (2, (.cells [(.sl 4 (.k (.i 0)) (.v 31) 1)])), (3, (.arr [ki64, (.sl [ki64]), (.sl [ki64]), ku32, ki64, ki64, ki64, ku32] (.v 28) (.v 30))), (4, (.arr [ku32] (.v 29) (.v 31)))], 5⟩), (122, ⟨[ki64, ki64, ki64, (.sl [ki64, (.sl [ki64]), (.sl [ki64]), ku32, ki64, ki64, ki64, ku32]), (.sl [ku32])], [(0, (.ptr 0 0)), (2, (.ptr 1 0)), (4, (.ptr 2 0)), (6, (.sl 3 (.k (.i 0)) (.v 31) 8)), (7, (.dat ki64 (.v 26)))], [(0, (.cells [(.dat (.sl [ku8]) (.v 0)), (.dat ki64 (.v 27)), (.dat ki64 (.v 28))])), (1, (.cells [.nilS])), (2, (.cells [(.sl 4 (.k (.i 0)) (.v 32) 1)])), (3, (.arr [ki64, (.sl [ki64]), (.sl [ki64]), ku32, ki64, ki64, ki64, ku32] (.v 29) (.v 31))), (4, (.arr [ku32] (.v 30) (.v 32)))], 5⟩), (978, ⟨[ki64, ki64, (.sl [ki64, (.sl [ki64]), (.sl [ki64]), ku32, ki64, ki64, ki64, ku32]), (.sl [ku32])], [(0, (.ptr 0 0)), (2, (.ptr 1 0)), (4, (.ptr 2 0)), (6, (.sl 3 (.k (.i 0)) (.v 38) 8)), (7, (.dat ki64 (.v 26)))], [(0, (.cells [(.dat (.sl [ku8]) (.v 0)), (.dat ki64 (.v 34)), (.dat ki64 (.v 35))])), (1, (.cells [.nilS])), (2, (.cells [(.sl 4 (.k (.i 0)) (.v 39) 1)])), (3, (.arr [ki64, (.sl [ki64]), (.sl [ki64]), ku32, ki64, ki64, ki64, ku32] (.v 36) (.v 38))), (4, (.arr [ku32] (.v 37) (.v 39)))], 5⟩), (15655, ⟨[(.sl [ki64, (.sl [ki64]), (.sl [ki64]), ku32, ki64, ki64, ki64, ku32]), (.sl [ku32])], [(0, (.ptr 0 0)), (2, (.ptr 1 0)), (4, (.ptr 2 0)), (6, (.sl 3 (.k (.i 0)) (.v 45) 8)), (7, (.dat ki64 (.v 26)))], [(0, (.cells [(.dat (.sl [ku8]) (.v 0)), (.dat ki64 (.v 41)), (.dat ki64 (.v 42))])), (1, (.cells [.nilS])), (2, (.cells [(.sl 4 (.k (.i 0)) (.v 46) 1)])), (3, (.arr [ki64, (.sl [ki64]), (.sl [ki64]), ku32, ki64, ki64, ki64, ku32] (.v 43) (.v 45))), (4, (.arr [ku32] (.v 44) (.v 46)))], 5⟩), (31310, ⟨[ki64, (.sl [ki64, (.sl [ki64]), (.sl [ki64]), ku32, ki64, ki64, ki64, ku32]), (.sl [ku32])], [(0, (.ptr 0 0)), (2, (.ptr 1 0)), (4, (.ptr 2 0)), (6, (.sl 3 (.k (.i 0)) (.v 46) 8)), (7, (.dat ki64 (.v 26))), (8, (.dat ki64 (.v 34))), (11, (.dat ki64 (.v 43)))], [(0, (.cells [(.dat (.sl [ku8]) (.v 0)), (.dat ki64 (.v 41)), (.dat ki64 (.v 42))])), (1, (.cells [.nilS])), (2, (.cells [(.sl 4 (.k (.i 0)) (.v 47) 1)])), (3, (.arr [ki64, (.sl [ki64]), (.sl [ki64]), ku32, ki64, ki64, ki64, ku32] (.v 44) (.v 46))), (4, (.arr [ku32] (.v 45) (.v 47)))], 5⟩), (250482, ⟨[(.sl [ki64, (.sl [ki64]), (.sl [ki64]), ku32, ki64, ki64, ki64, ku32]), (.sl [ku32])], [(0, (.ptr 0 0)), (2, (.ptr 1 0)), (4, (.ptr 2 0)), (6, (.sl 3 (.k (.i 0)) (.v 51) 8)), (7, (.dat ki64 (.v 26))), (8, (.dat ki64 (.v 34))), (11, (.dat ki64 (.v 43)))], [(0, (.cells [(.dat (.sl [ku8]) (.v 0)), (.dat ki64 (.v 41)), (.dat ki64 (.v 42))])), (1, (.cells [.nilS])), (2, (.cells [(.sl 4 (.k (.i 0)) (.v 52) 1)])), (3, (.arr [ki64, (.sl [ki64]), (.sl [ki64]), ku32, ki64, ki64, ki64, ku32] (.v 49) (.v 51))), (4, (.arr [ku32] (.v 50) (.v 52)))], 5⟩), (62613, ⟨[(.sl [ki64, (.sl [ki64]), (.sl [ki64]), ku32, ki64, ki64, ki64, ku32])], [(0, (.ptr 0 0)), (2, (.ptr 1 0)), (4, (.ptr 2 0)), (6, (.sl 3 (.k (.i 0)) (.v 62) 8)), (7, (.dat ki64 (.v 26)))], [(0, (.cells [(.dat (.sl [ku8]) (.v 0)), (.dat ki64 (.v 49)), (.dat ki64 (.v 50))])), (1, (.cells [.nilS])), (2, (.cells [(.sl 4 (.k (.i 0)) (.v 63) 1)])), (3, (.arr [ki64, (.sl [ki64]), (.sl [ki64]), ku32, ki64, ki64, ki64, ku32] (.v 61) (.v 62))), (4, (.arr [ku32] (.v 30) (.v 63)))], 5⟩)], [(62612, [0])]⟩,
 [(2, (.ptr 1 0)), (3, (.sl 2 (.k (.i 0)) (.v 7) 8))], some t57, fun _ => none⟩
/-- (*loop.example/g00709/spec.l01Cur).mach -/
def t58 : Tr :=
(.nd (.call 57 [(.v 0), (.v 1), (.v 2)] [(.sl [ku8]), ki64, ki64] [ki64, ki64, (.sl [ki64, (.sl [ki64]), (.sl [ki64]), ku32, ki64, ki64, ki64, ku32]), (.sl [ku32])])
(.nd (.pr (.len [ki64, (.sl [ki64]), (.sl [ki64]), ku32, ki64, ki64, ki64, ku32]) [(.v 5)])
(.nd (.pr (.len [ku32]) [(.v 6)])
(.out 1 [(.v 3), (.v 4), (.v 6), (.v 5)]))))
def e58 : Fe := ⟨⟨142, [(.sl [ku8]), ki64, ki64], [(.ptr 0 0)], [(0, (.cells [(.dat (.sl [ku8]) (.v 0)), (.dat ki64 (.v 1)), (.dat ki64 (.v 2))]))], [ki64, ki64, (.sl [ku32]), (.sl [ki64, (.sl [ki64]), (.sl [ki64]), ku32, ki64, ki64, ki64, ku32])], [(.agg [(.sl 2 (.k (.i 0)) (.v 7) 1), (.sl 3 (.k (.i 0)) (.v 8) 8)])], [(0, (.cells [(.dat (.sl [ku8]) (.v 0)), (.dat ki64 (.v 3)), (.dat ki64 (.v 4))])), (1, (.cells [(.sl 2 (.k (.i 0)) (.v 7) 1), (.sl 3 (.k (.i 0)) (.v 8) 8)])), (2, (.arr [ku32] (.v 5) (.v 7))), (3, (.arr [ki64, (.sl [ki64]), (.sl [ki64]), ku32, ki64, ki64, ki64, ku32] (.v 6) (.v 8)))], 4⟩,
 ⟨[], []⟩,
 [(2, (.ptr 1 0))], some t58, fun _ => none⟩
/-- (*loop.example/g00709/spec.l01Cur).once -/
def t59 : Tr :=
(.nd (.call 2 [(.v 0), (.v 1), (.v 2), (.v 3)] [(.sl [ku8]), ki64, ki64, ki64] [ki64, ki64, ki64])
(.nd (.pr (.bin .sub .i64) [(.v 3), (.k (.i 1))])
(.nd (.pr (.cmp .eql .i64) [(.v 4), (.v 7)])
(.out 1 [(.v 8), (.v 5), (.v 6)]))))
def e59 : Fe := ⟨⟨129, [(.sl [ku8]), ki64, ki64, ki64], [(.ptr 0 0), (.dat ki64 (.v 3))], [(0, (.cells [(.dat (.sl [ku8]) (.v 0)), (.dat ki64 (.v 1)), (.dat ki64 (.v 2))]))], [kb, ki64, ki64], [(.dat kb (.v 4))], [(0, (.cells [(.dat (.sl [ku8]) (.v 0)), (.dat ki64 (.v 5)), (.dat ki64 (.v 6))]))], 1⟩,
 ⟨[], []⟩,
 [(4, (.dat kb (.v 4)))], some t59, fun _ => none⟩
/-- (*loop.example/g00709/spec.l01Cur).wide -/
def t60 : Tr :=
(.nd (.call 2 [(.v 0), (.v 1), (.v 2), (.k (.i 256))] [(.sl [ku8]), ki64, ki64, ki64] [ki64, ki64, ki64])
(.nd (.pr (.bin .mul .i64) [(.k (.i 65536)), (.v 4)])
(.nd (.call 2 [(.v 0), (.v 5), (.v 6), (.k (.i 256))] [(.sl [ku8]), ki64, ki64, ki64] [ki64, ki64, ki64])
(.nd (.pr (.bin .mul .i64) [(.k (.i 256)), (.v 8)])
(.nd (.pr (.bin .add .i64) [(.v 7), (.v 11)])
(.nd (.call 2 [(.v 0), (.v 9), (.v 10), (.k (.i 256))] [(.sl [ku8]), ki64, ki64, ki64] [ki64, ki64, ki64])
(.nd (.pr (.bin .add .i64) [(.v 12), (.v 13)])
(.nd (.pr (.bin .rem .i64) [(.v 16), (.v 3)])
(.out 1 [(.v 17), (.v 14), (.v 15)])))))))))
def e60 : Fe := ⟨⟨177, [(.sl [ku8]), ki64, ki64, ki64], [(.ptr 0 0), (.dat ki64 (.v 3))], [(0, (.cells [(.dat (.sl [ku8]) (.v 0)), (.dat ki64 (.v 1)), (.dat ki64 (.v 2))]))], [ki64, ki64, ki64], [(.dat ki64 (.v 4))], [(0, (.cells [(.dat (.sl [ku8]) (.v 0)), (.dat ki64 (.v 5)), (.dat ki64 (.v 6))]))], 1⟩,
 ⟨[], []⟩,
 [(4, (.dat ki64 (.v 4)))], some t60, fun _ => none⟩
/-- (*loop.example/g00709/spec.l01Cur).ctl -/
def t61 : Tr :=
(.nd (.call 2 [(.v 0), (.v 1), (.v 2), (.k (.i 4))] [(.sl [ku8]), ki64, ki64, ki64] [ki64, ki64, ki64])
(.blk 2 [ki64, ki64, ki64, ku32, ki64]
 (.nd (.pr (.cmp .eql .i64) [(.v 3), (.k (.i 1))])
 (.ite (.v 6)
  (.nd (.call 2 [(.v 0), (.v 4), (.v 5), (.k (.i 5))] [(.sl [ku8]), ki64, ki64, ki64] [ki64, ki64, ki64])
  (.nd (.call 2 [(.v 0), (.v 8), (.v 9), (.k (.i 65535))] [(.sl [ku8]), ki64, ki64, ki64] [ki64, ki64, ki64])
  (.nd (.call 21 [(.v 7)] [ki64] [ki64])
  (.nd (.call 18 [(.v 13)] [ki64] [ki64])
  (.nd (.pr (.bin .sub .i64) [(.v 14), (.k (.i 1))])
  (.nd (.pr (.bin .rem .i64) [(.v 10), (.v 15)])
  (.nd (.pr (.bin .add .i64) [(.k (.i 1)), (.v 16)])
  (.nd (.pr (.conv .i64 .u32) [(.v 17)])
  (.nd (.call 59 [(.v 0), (.v 11), (.v 12), (.k (.i 2))] [(.sl [ku8]), ki64, ki64, ki64] [kb, ki64, ki64])
  (.ite (.v 19)
   (.nd (.call 60 [(.v 0), (.v 20), (.v 21), (.k (.i 65535))] [(.sl [ku8]), ki64, ki64, ki64] [ki64, ki64, ki64])
   (.nd (.call 21 [(.v 7)] [ki64] [ki64])
   (.nd (.call 18 [(.v 25)] [ki64] [ki64])
   (.nd (.pr (.bin .sub .i64) [(.v 26), (.k (.i 1))])
   (.nd (.pr (.bin .rem .i64) [(.v 22), (.v 27)])
   (.nd (.pr (.bin .add .i64) [(.k (.i 1)), (.v 28)])
   (.nd (.pr (.conv .i64 .u32) [(.v 29)])
   (.out 0 [(.v 23), (.v 24), (.v 7), (.v 30), (.k (.i 0))]))))))))
   (.out 0 [(.v 20), (.v 21), (.v 7), (.v 18), (.k (.i 0))])))))))))))
  (.nd (.pr (.cmp .eql .i64) [(.v 3), (.k (.i 2))])
  (.ite (.v 7)
   (.nd (.call 2 [(.v 0), (.v 4), (.v 5), (.k (.i 4))] [(.sl [ku8]), ki64, ki64, ki64] [ki64, ki64, ki64])
   (.nd (.pr (.bin .add .i64) [(.k (.i 2)), (.v 8)])
   (.out 0 [(.v 9), (.v 10), (.k (.i 0)), (.k (.i 0)), (.v 11)])))
   (.out 0 [(.v 4), (.v 5), (.k (.i 0)), (.k (.i 0)), (.k (.i 0))])))))
(.out 1 [(.v 6), (.v 7), (.v 3), (.v 8), (.v 9), (.v 10)])))
def e61 : Fe := ⟨⟨171, [(.sl [ku8]), ki64, ki64], [(.ptr 0 0)], [(0, (.cells [(.dat (.sl [ku8]) (.v 0)), (.dat ki64 (.v 1)), (.dat ki64 (.v 2))]))], [ki64, ki64, ki64, ki64, ku32, ki64], [(.agg [(.dat ki64 (.v 5)), (.dat ki64 (.v 6)), (.dat ku32 (.v 7)), (.dat ki64 (.v 8))])], [(0, (.cells [(.dat (.sl [ku8]) (.v 0)), (.dat ki64 (.v 3)), (.dat ki64 (.v 4))])), (1, (.cells [(.dat ki64 (.v 5)), (.dat ki64 (.v 6)), (.dat ku32 (.v 7)), (.dat ki64 (.v 8))]))], 2⟩,
 ⟨[(29, ⟨[ki64, ki64, ki64, ku32, ki64], [(2, (.ptr 1 0)), (3, (.ptr 2 0))], [(0, (.cells [(.dat (.sl [ku8]) (.v 0)), (.dat ki64 (.v 6)), (.dat ki64 (.v 7))])), (1, (.cells [(.dat ki64 (.k (.i 0))), (.dat ki64 (.k (.i 0))), (.dat ku32 (.k (.i 0))), (.dat ki64 (.k (.i 0)))])), (2, (.cells [(.dat ki64 (.v 3)), (.dat ki64 (.v 8)), (.dat ku32 (.v 9)), (.dat ki64 (.v 10))]))], 3⟩)], [(3758, [2, 0]), (938, [2, 0])]⟩,
 [(2, (.ptr 1 0))], some t61, fun _ => none⟩
/-- (*loop.example/g00709/spec.l01Cur).word -/
def t62 : Tr :=
(.nd (.call 2 [(.v 0), (.v 1), (.v 2), (.k (.i 256))] [(.sl [ku8]), ki64, ki64, ki64] [ki64, ki64, ki64])
(.nd (.pr (.conv .i64 .u32) [(.v 3)])
(.nd (.call 60 [(.v 0), (.v 4), (.v 5), (.k (.i 16777216))] [(.sl [ku8]), ki64, ki64, ki64] [ki64, ki64, ki64])
(.nd (.pr (.conv .i64 .u32) [(.v 7)])
(.nd (.pr (.bin .mul .u32) [(.v 10), (.k (.i 255))])
(.nd (.pr (.mk [ku32] 7) [(.k (.i 0)), (.k (.i 1)), (.k (.i 4294967295)), (.k (.i 65535)), (.v 6), (.v 11), (.k (.i 2147483648))])
(.nd (.call 2 [(.v 0), (.v 8), (.v 9), (.k (.i 7))] [(.sl [ku8]), ki64, ki64, ki64] [ki64, ki64, ki64])
(.nd (.pr (.ixc .i64) [(.v 13), (.k (.i 7))])
(.nd (.pr (.get [ku32] 0) [(.v 12), (.v 16)])
(.out 1 [(.v 17), (.v 14), (.v 15)]))))))))))
def e62 : Fe := ⟨⟨165, [(.sl [ku8]), ki64, ki64], [(.ptr 0 0)], [(0, (.cells [(.dat (.sl [ku8]) (.v 0)), (.dat ki64 (.v 1)), (.dat ki64 (.v 2))]))], [ku32, ki64, ki64], [(.dat ku32 (.v 3))], [(0, (.cells [(.dat (.sl [ku8]) (.v 0)), (.dat ki64 (.v 4)), (.dat ki64 (.v 5))]))], 1⟩,
 ⟨[], []⟩,
 [(2, (.dat ku32 (.v 3)))], some t62, fun _ => none⟩
/-- (*loop.example/g00709/spec.l01Cur).ctlWord -/
def t63 : Tr :=
(.nd (.call 61 [(.v 0), (.v 1), (.v 2)] [(.sl [ku8]), ki64, ki64] [ki64, ki64, ki64, ki64, ku32, ki64])
(.nd (.call 30 [(.v 5), (.v 6), (.v 7), (.v 8)] [ki64, ki64, ku32, ki64] [ku32, kb])
(.nd (.call 59 [(.v 0), (.v 3), (.v 4), (.k (.i 12))] [(.sl [ku8]), ki64, ki64, ki64] [kb, ki64, ki64])
(.ite (.v 11)
 (.nd (.call 62 [(.v 0), (.v 12), (.v 13)] [(.sl [ku8]), ki64, ki64] [ku32, ki64, ki64])
 (.out 1 [(.v 14), (.v 15), (.v 16)]))
 (.out 1 [(.v 9), (.v 12), (.v 13)])))))
def e63 : Fe := ⟨⟨143, [(.sl [ku8]), ki64, ki64], [(.ptr 0 0)], [(0, (.cells [(.dat (.sl [ku8]) (.v 0)), (.dat ki64 (.v 1)), (.dat ki64 (.v 2))]))], [ku32, ki64, ki64], [(.dat ku32 (.v 3))], [(0, (.cells [(.dat (.sl [ku8]) (.v 0)), (.dat ki64 (.v 4)), (.dat ki64 (.v 5))]))], 1⟩,
 ⟨[], []⟩,
 [(2, (.dat ku32 (.v 3)))], some t63, fun _ => none⟩
/-- (*loop.example/g00709/spec.l01Cur).mask -/
def t64 : Tr :=
(.nd (.call 59 [(.v 0), (.v 1), (.v 2), (.k (.i 12))] [(.sl [ku8]), ki64, ki64, ki64] [kb, ki64, ki64])
(.ite (.v 3)
 (.nd (.call 62 [(.v 0), (.v 4), (.v 5)] [(.sl [ku8]), ki64, ki64] [ku32, ki64, ki64])
 (.out 1 [(.v 6), (.v 7), (.v 8)]))
 (.nd (.call 2 [(.v 0), (.v 4), (.v 5), (.k (.i 256))] [(.sl [ku8]), ki64, ki64, ki64] [ki64, ki64, ki64])
 (.nd (.pr (.conv .i64 .u32) [(.v 6)])
 (.out 1 [(.v 9), (.v 7), (.v 8)])))))
def e64 : Fe := ⟨⟨173, [(.sl [ku8]), ki64, ki64], [(.ptr 0 0)], [(0, (.cells [(.dat (.sl [ku8]) (.v 0)), (.dat ki64 (.v 1)), (.dat ki64 (.v 2))]))], [ku32, ki64, ki64], [(.dat ku32 (.v 3))], [(0, (.cells [(.dat (.sl [ku8]) (.v 0)), (.dat ki64 (.v 4)), (.dat ki64 (.v 5))]))], 1⟩,
 ⟨[], []⟩,
 [(2, (.dat ku32 (.v 3)))], some t64, fun _ => none⟩
/-- (*loop.example/g00709/spec.l01Cur).warp -/
def t65 : Tr :=
(.nd (.call 57 [(.v 0), (.v 1), (.v 2)] [(.sl [ku8]), ki64, ki64] [ki64, ki64, (.sl [ki64, (.sl [ki64]), (.sl [ki64]), ku32, ki64, ki64, ki64, ku32]), (.sl [ku32])])
(.nd (.pr (.len [ki64, (.sl [ki64]), (.sl [ki64]), ku32, ki64, ki64, ki64, ku32]) [(.v 5)])
(.nd (.pr (.len [ku32]) [(.v 6)])
(.nd (.call 2 [(.v 0), (.v 3), (.v 4), (.k (.i 3))] [(.sl [ku8]), ki64, ki64, ki64] [ki64, ki64, ki64])
(.nd (.pr (.ixc .i64) [(.v 9), (.v 7)])
(.nd (.pr (.get [ki64, (.sl [ki64]), (.sl [ki64]), ku32, ki64, ki64, ki64, ku32] 0) [(.v 5), (.v 12)])
(.nd (.pr (.get [ki64, (.sl [ki64]), (.sl [ki64]), ku32, ki64, ki64, ki64, ku32] 1) [(.v 5), (.v 12)])
(.nd (.pr (.get [ki64, (.sl [ki64]), (.sl [ki64]), ku32, ki64, ki64, ki64, ku32] 2) [(.v 5), (.v 12)])
(.nd (.pr (.get [ki64, (.sl [ki64]), (.sl [ki64]), ku32, ki64, ki64, ki64, ku32] 3) [(.v 5), (.v 12)])
(.nd (.pr (.get [ki64, (.sl [ki64]), (.sl [ki64]), ku32, ki64, ki64, ki64, ku32] 4) [(.v 5), (.v 12)])
(.nd (.pr (.get [ki64, (.sl [ki64]), (.sl [ki64]), ku32, ki64, ki64, ki64, ku32] 5) [(.v 5), (.v 12)])
(.nd (.pr (.get [ki64, (.sl [ki64]), (.sl [ki64]), ku32, ki64, ki64, ki64, ku32] 6) [(.v 5), (.v 12)])
(.nd (.pr (.get [ki64, (.sl [ki64]), (.sl [ki64]), ku32, ki64, ki64, ki64, ku32] 7) [(.v 5), (.v 12)])
(.seq [ki64, ki64, ki64, (.sl [ki64]), (.sl [ki64]), ku32, ki64, ki64, ki64, ku32]
 (.seq [kb, ki64, ki64]
  (.nd (.pr (.cmp .eql .i64) [(.v 13), (.k (.i 0))])
  (.ite (.v 21)
   (.nd (.call 59 [(.v 0), (.v 10), (.v 11), (.k (.i 4))] [(.sl [ku8]), ki64, ki64, ki64] [kb, ki64, ki64])
   (.nd (.pr .not [(.v 22)])
   (.out 0 [(.v 25), (.v 23), (.v 24)])))
   (.out 0 [(.k (.b false)), (.v 10), (.v 11)])))
 (.nd (.pr (.len [ku32]) [(.v 6)])
 (.ite (.v 21)
  (.nd (.call 8 [(.v 0), (.v 22), (.v 23)] [(.sl [ku8]), ki64, ki64] [ki64, ki64, ki64, (.sl [ki64])])
  (.nd (.pr (.len [ki64]) [(.v 28)])
  (.nd (.call 34 [(.v 13), (.v 14), (.v 15), (.v 16), (.v 17), (.v 18), (.v 19), (.v 20), (.v 27), (.v 28)] [ki64, (.sl [ki64]), (.sl [ki64]), ku32, ki64, ki64, ki64, ku32, ki64, (.sl [ki64])] [kb, ki64, ku32, (.sl [ki64]), (.sl [ki64])])
  (.nd (.pr (.len [ki64]) [(.v 33)])
  (.nd (.pr (.len [ki64]) [(.v 34)])
  (.ite (.v 30)
   (.out 0 [(.v 25), (.v 26), (.v 31), (.v 33), (.v 34), (.v 32), (.k (.i 0)), (.k (.i 0)), (.k (.i 0)), (.k (.i 0))])
   (.out 0 [(.v 25), (.v 26), (.v 13), (.v 14), (.v 15), (.v 16), (.v 17), (.v 18), (.v 19), (.v 20)])))))))
  (.out 0 [(.v 22), (.v 23), (.v 13), (.v 14), (.v 15), (.v 16), (.v 17), (.v 18), (.v 19), (.v 20)]))))
(.nd (.pr (.len [ku32]) [(.v 6)])
(.nd (.call 2 [(.v 0), (.v 21), (.v 22), (.k (.i 24))] [(.sl [ku8]), ki64, ki64, ki64] [ki64, ki64, ki64])
(.blk 2 [ki64, ki64, ki64, (.sl [ki64]), ku32, ki64, ki64, ki64, ku32, (.sl [ku32])]
 (.nd (.pr (.cmp .eql .i64) [(.v 32), (.k (.i 0))])
 (.ite (.v 35)
  (.nd (.call 7 [(.v 0), (.v 33), (.v 34)] [(.sl [ku8]), ki64, ki64] [ki64, ki64, ki64])
  (.nd (.pr (.mk [ki64] 4) [(.v 36), (.k (.i 0)), (.k (.i 1)), (.k (.i 2))])
  (.nd (.call 2 [(.v 0), (.v 37), (.v 38), (.k (.i 4))] [(.sl [ku8]), ki64, ki64, ki64] [ki64, ki64, ki64])
  (.nd (.pr (.ixc .i64) [(.v 40), (.k (.i 4))])
  (.nd (.pr (.get [ki64] 0) [(.v 39), (.v 43)])
  (.out 0 [(.v 41), (.v 42), (.v 44), (.v 25), (.v 26), (.v 27), (.v 28), (.v 29), (.v 30), (.v 6)]))))))
  (.nd (.pr (.cmp .eql .i64) [(.v 32), (.k (.i 1))])
  (.ite (.v 36)
   (.nd (.call 64 [(.v 0), (.v 33), (.v 34)] [(.sl [ku8]), ki64, ki64] [ku32, ki64, ki64])
   (.out 0 [(.v 38), (.v 39), (.v 23), (.v 25), (.v 37), (.v 27), (.v 28), (.v 29), (.v 30), (.v 6)]))
   (.nd (.pr (.cmp .eql .i64) [(.v 32), (.k (.i 2))])
   (.ite (.v 37)
    (.nd (.call 7 [(.v 0), (.v 33), (.v 34)] [(.sl [ku8]), ki64, ki64] [ki64, ki64, ki64])
    (.nd (.call 2 [(.v 0), (.v 39), (.v 40), (.k (.i 4))] [(.sl [ku8]), ki64, ki64, ki64] [ki64, ki64, ki64])
    (.nd (.pr (.mk [ki64] 2) [(.v 38), (.v 41)])
    (.nd (.call 2 [(.v 0), (.v 42), (.v 43), (.k (.i 2))] [(.sl [ku8]), ki64, ki64, ki64] [ki64, ki64, ki64])
    (.nd (.pr (.ixc .i64) [(.v 45), (.k (.i 2))])
    (.nd (.pr (.get [ki64] 0) [(.v 44), (.v 48)])
    (.out 0 [(.v 46), (.v 47), (.v 23), (.v 25), (.v 26), (.v 49), (.v 28), (.v 29), (.v 30), (.v 6)])))))))
    (.nd (.pr (.cmp .eql .i64) [(.v 32), (.k (.i 3))])
    (.ite (.v 38)
     (.nd (.call 7 [(.v 0), (.v 33), (.v 34)] [(.sl [ku8]), ki64, ki64] [ki64, ki64, ki64])
     (.nd (.call 2 [(.v 0), (.v 40), (.v 41), (.k (.i 7))] [(.sl [ku8]), ki64, ki64, ki64] [ki64, ki64, ki64])
     (.nd (.pr (.mk [ki64] 2) [(.v 39), (.v 42)])
     (.nd (.call 2 [(.v 0), (.v 43), (.v 44), (.k (.i 2))] [(.sl [ku8]), ki64, ki64, ki64] [ki64, ki64, ki64])
     (.nd (.pr (.ixc .i64) [(.v 46), (.k (.i 2))])
     (.nd (.pr (.get [ki64] 0) [(.v 45), (.v 49)])
     (.out 0 [(.v 47), (.v 48), (.v 23), (.v 25), (.v 26), (.v 27), (.v 50), (.v 29), (.v 30), (.v 6)])))))))
     (.nd (.pr (.cmp .eql .i64) [(.v 32), (.k (.i 4))])
     (.ite (.v 39)
      (.nd (.call 7 [(.v 0), (.v 33), (.v 34)] [(.sl [ku8]), ki64, ki64] [ki64, ki64, ki64])
      (.nd (.call 2 [(.v 0), (.v 41), (.v 42), (.k (.i 4))] [(.sl [ku8]), ki64, ki64, ki64] [ki64, ki64, ki64])
      (.nd (.pr (.mk [ki64] 2) [(.v 40), (.v 43)])
      (.nd (.call 2 [(.v 0), (.v 44), (.v 45), (.k (.i 2))] [(.sl [ku8]), ki64, ki64, ki64] [ki64, ki64, ki64])
      (.nd (.pr (.ixc .i64) [(.v 47), (.k (.i 2))])
      (.nd (.pr (.get [ki64] 0) [(.v 46), (.v 50)])
      (.out 0 [(.v 48), (.v 49), (.v 23), (.v 25), (.v 26), (.v 27), (.v 28), (.v 51), (.v 30), (.v 6)])))))))
      (.nd (.pr (.cmp .eql .i64) [(.v 32), (.k (.i 5))])
      (.ite (.v 40)
       (.nd (.call 63 [(.v 0), (.v 33), (.v 34)] [(.sl [ku8]), ki64, ki64] [ku32, ki64, ki64])
       (.out 0 [(.v 42), (.v 43), (.v 23), (.v 25), (.v 26), (.v 27), (.v 28), (.v 29), (.v 41), (.v 6)]))
       (.nd (.pr (.cmp .eql .i64) [(.v 32), (.k (.i 6))])
       (.ite (.v 41)
        (.nd (.pr (.len [ki64]) [(.v 25)])
        (.nd (.pr (.cut [ki64] .i64 .i64) [(.v 25), (.k (.i 0)), (.k (.i 7))])
        (.out 0 [(.v 33), (.v 34), (.v 23), (.v 43), (.v 26), (.v 27), (.v 28), (.v 29), (.v 30), (.v 6)])))
        (.nd (.pr (.cmp .eql .i64) [(.v 32), (.k (.i 7))])
        (.ite (.v 42)
         (.nd (.call 2 [(.v 0), (.v 33), (.v 34), (.v 31)] [(.sl [ku8]), ki64, ki64, ki64] [ki64, ki64, ki64])
         (.nd (.call 63 [(.v 0), (.v 44), (.v 45)] [(.sl [ku8]), ki64, ki64] [ku32, ki64, ki64])
         (.nd (.pr (.ixc .i64) [(.v 43), (.v 31)])
         (.nd (.pr (.set [ku32] 0) [(.v 6), (.v 49), (.v 46)])
         (.out 0 [(.v 47), (.v 48), (.v 23), (.v 25), (.v 26), (.v 27), (.v 28), (.v 29), (.v 30), (.v 50)])))))
         (.out 0 [(.v 33), (.v 34), (.v 23), (.v 25), (.v 26), (.v 27), (.v 28), (.v 29), (.v 30), (.v 6)])))))))))))))))))
(.nd (.pr (.len [ku32]) [(.v 44)])
(.out 1 [(.v 9), (.v 35), (.v 36), (.v 37), (.v 24), (.v 38), (.v 39), (.v 40), (.v 41), (.v 42), (.v 43), (.v 44)])))))))))))))))))))
def e65 : Fe := ⟨⟨144, [(.sl [ku8]), ki64, ki64], [(.ptr 0 0)], [(0, (.cells [(.dat (.sl [ku8]) (.v 0)), (.dat ki64 (.v 1)), (.dat ki64 (.v 2))]))], [ki64, ki64, ki64, ki64, (.sl [ki64]), (.sl [ki64]), ku32, ki64, ki64, ki64, ku32, (.sl [ku32])], [(.agg [(.dat ki64 (.v 6)), (.dat (.sl [ki64]) (.v 7)), (.dat (.sl [ki64]) (.v 8)), (.dat ku32 (.v 9)), (.dat ki64 (.v 10)), (.dat ki64 (.v 11)), (.dat ki64 (.v 12)), (.dat ku32 (.v 13))]), (.dat ki64 (.v 3)), (.agg [(.sl 3 (.k (.i 0)) (.v 15) 1)])], [(0, (.cells [(.dat (.sl [ku8]) (.v 0)), (.dat ki64 (.v 4)), (.dat ki64 (.v 5))])), (1, (.cells [(.dat ki64 (.v 6)), (.dat (.sl [ki64]) (.v 7)), (.dat (.sl [ki64]) (.v 8)), (.dat ku32 (.v 9)), (.dat ki64 (.v 10)), (.dat ki64 (.v 11)), (.dat ki64 (.v 12)), (.dat ku32 (.v 13))])), (2, (.cells [(.sl 3 (.k (.i 0)) (.v 15) 1)])), (3, (.arr [ku32] (.v 14) (.v 15)))], 4⟩,
 ⟨[(253, ⟨[ki64, ki64, ki64, (.sl [ki64]), ku32, ki64, ki64, ki64, ku32, (.sl [ku32])], [(2, (.ptr 1 0)), (4, (.ptr 2 0)), (5, (.ptr 3 0)), (7, (.dat ki64 (.v 9))), (8, (.ptr 4 0))], [(0, (.cells [(.dat (.sl [ku8]) (.v 0)), (.dat ki64 (.v 35)), (.dat ki64 (.v 36))])), (1, (.cells [(.dat ki64 (.k (.i 0))), .nilS, .nilS, (.dat ku32 (.k (.i 0))), (.dat ki64 (.k (.i 0))), (.dat ki64 (.k (.i 0))), (.dat ki64 (.k (.i 0))), (.dat ku32 (.k (.i 0)))])), (2, (.cells [.nilS])), (3, (.cells [(.sl 5 (.k (.i 0)) (.v 45) 1)])), (4, (.cells [(.dat ki64 (.v 37)), (.dat (.sl [ki64]) (.v 24)), (.dat (.sl [ki64]) (.v 38)), (.dat ku32 (.v 39)), (.dat ki64 (.v 40)), (.dat ki64 (.v 41)), (.dat ki64 (.v 42)), (.dat ku32 (.v 43))])), (5, (.arr [ku32] (.v 44) (.v 45)))], 6⟩), (31, ⟨[ki64, ki64, ki64, (.sl [ki64]), (.sl [ki64]), ku32, ki64, ki64, ki64, ku32], [(0, (.ptr 0 0)), (2, (.ptr 1 0)), (4, (.ptr 2 0)), (5, (.ptr 3 0)), (7, (.dat ki64 (.v 9))), (8, (.ptr 4 0))], [(0, (.cells [(.dat (.sl [ku8]) (.v 0)), (.dat ki64 (.v 21)), (.dat ki64 (.v 22))])), (1, (.cells [(.dat ki64 (.k (.i 0))), .nilS, .nilS, (.dat ku32 (.k (.i 0))), (.dat ki64 (.k (.i 0))), (.dat ki64 (.k (.i 0))), (.dat ki64 (.k (.i 0))), (.dat ku32 (.k (.i 0)))])), (2, (.cells [.nilS])), (3, (.cells [(.sl 5 (.k (.i 0)) (.v 31) 1)])), (4, (.cells [(.dat ki64 (.v 23)), (.dat (.sl [ki64]) (.v 24)), (.dat (.sl [ki64]) (.v 25)), (.dat ku32 (.v 26)), (.dat ki64 (.v 27)), (.dat ki64 (.v 28)), (.dat ki64 (.v 29)), (.dat ku32 (.v 30))])), (5, (.arr [ku32] (.v 6) (.v 31)))], 6⟩), (62, ⟨[kb, ki64, ki64], [(0, (.ptr 0 0)), (2, (.ptr 1 0)), (4, (.ptr 2 0)), (5, (.ptr 3 0)), (7, (.dat ki64 (.v 9))), (8, (.ptr 4 0)), (29, (.dat kb (.v 21)))], [(0, (.cells [(.dat (.sl [ku8]) (.v 0)), (.dat ki64 (.v 22)), (.dat ki64 (.v 23))])), (1, (.cells [(.dat ki64 (.k (.i 0))), .nilS, .nilS, (.dat ku32 (.k (.i 0))), (.dat ki64 (.k (.i 0))), (.dat ki64 (.k (.i 0))), (.dat ki64 (.k (.i 0))), (.dat ku32 (.k (.i 0)))])), (2, (.cells [.nilS])), (3, (.cells [(.sl 5 (.k (.i 0)) (.v 24) 1)])), (4, (.cells [(.dat ki64 (.v 13)), (.dat (.sl [ki64]) (.v 14)), (.dat (.sl [ki64]) (.v 15)), (.dat ku32 (.v 16)), (.dat ki64 (.v 17)), (.dat ki64 (.v 18)), (.dat ki64 (.v 19)), (.dat ku32 (.v 20))])), (5, (.arr [ku32] (.v 6) (.v 24)))], 6⟩)], [(254, [1, 2]), (33226750, [5, 0]), (500, [0])]⟩,
 [(2, (.ptr 1 0)), (3, (.dat ki64 (.v 3))), (4, (.ptr 2 0))], some t65, fun _ => none⟩
/-- (*loop.example/g00709/spec.l01Cur).mem -/
def t66 : Tr :=
(.nd (.call 6 [(.v 0), (.v 1), (.v 2), (.k (.i 8))] [(.sl [ku8]), ki64, ki64, ki64] [ki64, ki64, ki64])
(.blk 2 [ki64, ki64, (.sl [ku32])]
 (.loop [ki64, ki64, ki64, (.sl [ku32])] [(.v 3), (.v 4), (.v 5), (.k (.l []))]
  (.nd (.pr (.len [ku32]) [(.v 9)])
  (.nd (.pr (.cmp .gtr .i64) [(.v 6), (.k (.i 0))])
  (.ite (.v 11)
   (.blk 3 [ki64, ki64, (.sl [ku32])]
    (.nd (.call 62 [(.v 0), (.v 7), (.v 8)] [(.sl [ku8]), ki64, ki64] [ku32, ki64, ki64])
    (.nd (.pr (.mk [ku32] 1) [(.v 12)])
    (.nd (.pr (.app [ku32] 4) [(.v 9), (.v 15)])
    (.nd (.pr (.len [ku32]) [(.v 16)])
    (.out 0 [(.v 13), (.v 14), (.v 16)])))))
   (.nd (.pr (.len [ku32]) [(.v 14)])
   (.nd (.pr (.bin .sub .i64) [(.v 6), (.k (.i 1))])
   (.out 0 [(.v 16), (.v 12), (.v 13), (.v 14)]))))
   (.out 2 [(.v 7), (.v 8), (.v 9)])))))
(.nd (.pr (.len [ku32]) [(.v 8)])
(.seq [ki64, ki64, (.sl [ku32])]
 (.nd (.call 59 [(.v 0), (.v 6), (.v 7), (.k (.i 20))] [(.sl [ku8]), ki64, ki64, ki64] [kb, ki64, ki64])
 (.ite (.v 10)
  (.nd (.call 2 [(.v 0), (.v 11), (.v 12), (.k (.i 2))] [(.sl [ku8]), ki64, ki64, ki64] [ki64, ki64, ki64])
  (.nd (.pr (.bin .add .i64) [(.k (.i 64)), (.v 13)])
  (.nd (.pr (.mkz [ku32] .i64 4 [(.i 0)]) [(.v 16)])
  (.nd (.pr (.len [ku32]) [(.v 17)])
  (.out 0 [(.v 14), (.v 15), (.v 17)])))))
  (.out 0 [(.v 11), (.v 12), (.v 8)])))
(.nd (.pr (.len [ku32]) [(.v 12)])
(.out 1 [(.v 10), (.v 11), (.v 12)]))))))
def e66 : Fe := ⟨⟨130, [(.sl [ku8]), ki64, ki64], [(.ptr 0 0)], [(0, (.cells [(.dat (.sl [ku8]) (.v 0)), (.dat ki64 (.v 1)), (.dat ki64 (.v 2))]))], [ki64, ki64, (.sl [ku32])], [(.agg [(.sl 2 (.k (.i 0)) (.v 6) 1)])], [(0, (.cells [(.dat (.sl [ku8]) (.v 0)), (.dat ki64 (.v 3)), (.dat ki64 (.v 4))])), (1, (.cells [(.sl 2 (.k (.i 0)) (.v 6) 1)])), (2, (.arr [ku32] (.v 5) (.v 6)))], 3⟩,
 ⟨[(15, ⟨[ki64, ki64, (.sl [ku32])], [(2, (.ptr 1 0)), (3, (.ptr 2 0))], [(0, (.cells [(.dat (.sl [ku8]) (.v 0)), (.dat ki64 (.v 10)), (.dat ki64 (.v 11))])), (1, (.cells [.nilS])), (2, (.cells [(.sl 3 (.k (.i 0)) (.v 13) 1)])), (3, (.arr [ku32] (.v 12) (.v 13)))], 4⟩), (29, ⟨[ki64, ki64, (.sl [ku32])], [(0, (.ptr 0 0)), (2, (.ptr 1 0)), (3, (.ptr 2 0))], [(0, (.cells [(.dat (.sl [ku8]) (.v 0)), (.dat ki64 (.v 6)), (.dat ki64 (.v 7))])), (1, (.cells [.nilS])), (2, (.cells [(.sl 3 (.k (.i 0)) (.v 9) 1)])), (3, (.arr [ku32] (.v 8) (.v 9)))], 4⟩), (58, ⟨[ki64, ki64, ki64, (.sl [ku32])], [(0, (.ptr 0 0)), (2, (.ptr 1 0)), (3, (.ptr 2 0)), (4, (.dat ki64 (.v 6)))], [(0, (.cells [(.dat (.sl [ku8]) (.v 0)), (.dat ki64 (.v 7)), (.dat ki64 (.v 8))])), (1, (.cells [.nilS])), (2, (.cells [(.sl 3 (.k (.i 0)) (.v 10) 1)])), (3, (.arr [ku32] (.v 9) (.v 10)))], 4⟩), (466, ⟨[ki64, ki64, (.sl [ku32])], [(0, (.ptr 0 0)), (2, (.ptr 1 0)), (3, (.ptr 2 0)), (4, (.dat ki64 (.v 6)))], [(0, (.cells [(.dat (.sl [ku8]) (.v 0)), (.dat ki64 (.v 12)), (.dat ki64 (.v 13))])), (1, (.cells [.nilS])), (2, (.cells [(.sl 3 (.k (.i 0)) (.v 15) 1)])), (3, (.arr [ku32] (.v 14) (.v 15)))], 4⟩)], [(932, [0, 2, 3])]⟩,
 [(2, (.ptr 1 0))], some t66, fun _ => none⟩
/-- (*loop.example/g00709/spec.l01Cur).badMach -/
def t67 : Tr :=
(.nd (.call 58 [(.v 0), (.v 1), (.v 2)] [(.sl [ku8]), ki64, ki64] [ki64, ki64, (.sl [ku32]), (.sl [ki64, (.sl [ki64]), (.sl [ki64]), ku32, ki64, ki64, ki64, ku32])])
(.nd (.pr (.len [ku32]) [(.v 5)])
(.nd (.pr (.len [ki64, (.sl [ki64]), (.sl [ki64]), ku32, ki64, ki64, ki64, ku32]) [(.v 6)])
(.nd (.call 2 [(.v 0), (.v 3), (.v 4), (.k (.i 20))] [(.sl [ku8]), ki64, ki64, ki64] [ki64, ki64, ki64])
(.blk 2 [ki64, ki64, (.sl [ku32]), (.sl [ki64, (.sl [ki64]), (.sl [ki64]), ku32, ki64, ki64, ki64, ku32])]
 (.nd (.pr (.cmp .eql .i64) [(.v 9), (.k (.i 0))])
 (.ite (.v 12)
  (.nd (.call 2 [(.v 0), (.v 10), (.v 11), (.v 7)] [(.sl [ku8]), ki64, ki64, ki64] [ki64, ki64, ki64])
  (.nd (.call 63 [(.v 0), (.v 14), (.v 15)] [(.sl [ku8]), ki64, ki64] [ku32, ki64, ki64])
  (.nd (.pr (.ixc .i64) [(.v 13), (.v 7)])
  (.nd (.pr (.set [ku32] 0) [(.v 5), (.v 19), (.v 16)])
  (.out 0 [(.v 17), (.v 18), (.v 20), (.v 6)])))))
  (.nd (.pr (.cmp .eql .i64) [(.v 9), (.k (.i 1))])
  (.ite (.v 13)
   (.nd (.call 65 [(.v 0), (.v 10), (.v 11)] [(.sl [ku8]), ki64, ki64] [ki64, ki64, ki64, ki64, (.sl [ki64]), (.sl [ki64]), ku32, ki64, ki64, ki64, ku32, (.sl [ku32])])
   (.nd (.pr (.len [ku32]) [(.v 25)])
   (.nd (.call 2 [(.v 0), (.v 15), (.v 16), (.k (.i 3))] [(.sl [ku8]), ki64, ki64, ki64] [ki64, ki64, ki64])
   (.nd (.pr (.ixc .i64) [(.v 27), (.v 8)])
   (.nd (.pr (.set [ki64, (.sl [ki64]), (.sl [ki64]), ku32, ki64, ki64, ki64, ku32] 0) [(.v 6), (.v 30), (.v 17)])
   (.nd (.pr (.set [ki64, (.sl [ki64]), (.sl [ki64]), ku32, ki64, ki64, ki64, ku32] 1) [(.v 31), (.v 30), (.v 18)])
   (.nd (.pr (.set [ki64, (.sl [ki64]), (.sl [ki64]), ku32, ki64, ki64, ki64, ku32] 2) [(.v 32), (.v 30), (.v 19)])
   (.nd (.pr (.set [ki64, (.sl [ki64]), (.sl [ki64]), ku32, ki64, ki64, ki64, ku32] 3) [(.v 33), (.v 30), (.v 20)])
   (.nd (.pr (.set [ki64, (.sl [ki64]), (.sl [ki64]), ku32, ki64, ki64, ki64, ku32] 4) [(.v 34), (.v 30), (.v 21)])
   (.nd (.pr (.set [ki64, (.sl [ki64]), (.sl [ki64]), ku32, ki64, ki64, ki64, ku32] 5) [(.v 35), (.v 30), (.v 22)])
   (.nd (.pr (.set [ki64, (.sl [ki64]), (.sl [ki64]), ku32, ki64, ki64, ki64, ku32] 6) [(.v 36), (.v 30), (.v 23)])
   (.nd (.pr (.set [ki64, (.sl [ki64]), (.sl [ki64]), ku32, ki64, ki64, ki64, ku32] 7) [(.v 37), (.v 30), (.v 24)])
   (.out 0 [(.v 28), (.v 29), (.v 5), (.v 38)])))))))))))))
   (.nd (.pr (.cmp .eql .i64) [(.v 9), (.k (.i 2))])
   (.ite (.v 14)
    (.nd (.call 5 [] [] [(.sl [ki64]), (.sl [ki64])])
    (.nd (.pr (.len [ki64]) [(.v 15)])
    (.nd (.pr (.len [ki64]) [(.v 16)])
    (.nd (.call 5 [] [] [(.sl [ki64]), (.sl [ki64])])
    (.nd (.pr (.len [ki64]) [(.v 19)])
    (.nd (.pr (.len [ki64]) [(.v 20)])
    (.nd (.pr (.mk [ki64, (.sl [ki64]), (.sl [ki64]), ku32, ki64, ki64, ki64, ku32] 2) [(.k (.i 0)), (.v 15), (.v 16), (.k (.i 0)), (.k (.i 0)), (.k (.i 0)), (.k (.i 0)), (.k (.i 0)), (.k (.i 0)), (.v 19), (.v 20), (.k (.i 0)), (.k (.i 0)), (.k (.i 0)), (.k (.i 0)), (.k (.i 0))])
    (.nd (.pr (.app [ki64, (.sl [ki64]), (.sl [ki64]), ku32, ki64, ki64, ki64, ku32] 96) [(.v 6), (.v 23)])
    (.nd (.pr (.len [ki64, (.sl [ki64]), (.sl [ki64]), ku32, ki64, ki64, ki64, ku32]) [(.v 24)])
    (.nd (.call 2 [(.v 0), (.v 10), (.v 11), (.k (.i 6))] [(.sl [ku8]), ki64, ki64, ki64] [ki64, ki64, ki64])
    (.nd (.pr (.rng .i64 .i64) [(.k (.i 0)), (.v 26), (.v 25)])
    (.nd (.pr (.cut [ki64, (.sl [ki64]), (.sl [ki64]), ku32, ki64, ki64, ki64, ku32] .i64 .i64) [(.v 24), (.k (.i 0)), (.v 26)])
    (.out 0 [(.v 27), (.v 28), (.v 5), (.v 30)])))))))))))))
    (.nd (.pr (.cmp .eql .i64) [(.v 9), (.k (.i 3))])
    (.ite (.v 15)
     (.nd (.call 66 [(.v 0), (.v 10), (.v 11)] [(.sl [ku8]), ki64, ki64] [ki64, ki64, (.sl [ku32])])
     (.nd (.pr (.len [ku32]) [(.v 18)])
     (.out 0 [(.v 16), (.v 17), (.v 18), (.v 6)])))
     (.out 0 [(.v 10), (.v 11), (.v 5), (.v 6)])))))))))
(.nd (.pr (.len [ku32]) [(.v 14)])
(.nd (.pr (.len [ki64, (.sl [ki64]), (.sl [ki64]), ku32, ki64, ki64, ki64, ku32]) [(.v 15)])
(.out 1 [(.v 12), (.v 13), (.v 14), (.v 15)]))))))))
def e67 : Fe := ⟨⟨111, [(.sl [ku8]), ki64, ki64], [(.ptr 0 0)], [(0, (.cells [(.dat (.sl [ku8]) (.v 0)), (.dat ki64 (.v 1)), (.dat ki64 (.v 2))]))], [ki64, ki64, (.sl [ku32]), (.sl [ki64, (.sl [ki64]), (.sl [ki64]), ku32, ki64, ki64, ki64, ku32])], [(.agg [(.sl 2 (.k (.i 0)) (.v 7) 1), (.sl 3 (.k (.i 0)) (.v 8) 8)])], [(0, (.cells [(.dat (.sl [ku8]) (.v 0)), (.dat ki64 (.v 3)), (.dat ki64 (.v 4))])), (1, (.cells [(.sl 2 (.k (.i 0)) (.v 7) 1), (.sl 3 (.k (.i 0)) (.v 8) 8)])), (2, (.arr [ku32] (.v 5) (.v 7))), (3, (.arr [ki64, (.sl [ki64]), (.sl [ki64]), ku32, ki64, ki64, ki64, ku32] (.v 6) (.v 8)))], 4⟩,
 ⟨[(29, ⟨[ki64, ki64, (.sl [ku32]), (.sl [ki64, (.sl [ki64]), (.sl [ki64]), ku32, ki64, ki64, ki64, ku32])], [(2, (.ptr 1 0)), (3, (.ptr 2 0))], [(0, (.cells [(.dat (.sl [ku8]) (.v 0)), (.dat ki64 (.v 12)), (.dat ki64 (.v 13))])), (1, (.cells [.nilS, .nilS])), (2, (.cells [(.sl 3 (.k (.i 0)) (.v 16) 1), (.sl 4 (.k (.i 0)) (.v 17) 8)])), (3, (.arr [ku32] (.v 14) (.v 16))), (4, (.arr [ki64, (.sl [ki64]), (.sl [ki64]), ku32, ki64, ki64, ki64, ku32] (.v 15) (.v 17)))], 5⟩)], [(0, [1]), (3774, [4, 5, 0]), (1885, [4, 0]), (234, [3, 0])]⟩,
 [(2, (.ptr 1 0))], some t67, fun _ => none⟩
/-- loop.example/g00709/spec.DrawOwners -/
def t68 : Tr :=
(.nd (.call 1 [(.v 0)] [(.sl [ku8])] [ki64])
(.nd (.call 67 [(.v 0), (.k (.i 0)), (.v 1)] [(.sl [ku8]), ki64, ki64] [ki64, ki64, (.sl [ku32]), (.sl [ki64, (.sl [ki64]), (.sl [ki64]), ku32, ki64, ki64, ki64, ku32])])
(.nd (.pr (.len [ku32]) [(.v 4)])
(.nd (.pr (.len [ki64, (.sl [ki64]), (.sl [ki64]), ku32, ki64, ki64, ki64, ku32]) [(.v 5)])
(.out 1 [(.v 4), (.v 5)])))))
def e68 : Fe := ⟨⟨62, [(.sl [ku8])], [(.dat (.sl [ku8]) (.v 0))], [], [(.sl [ku32]), (.sl [ki64, (.sl [ki64]), (.sl [ki64]), ku32, ki64, ki64, ki64, ku32])], [(.agg [(.sl 1 (.k (.i 0)) (.v 3) 1), (.sl 2 (.k (.i 0)) (.v 4) 8)])], [(0, (.cells [(.sl 1 (.k (.i 0)) (.v 3) 1), (.sl 2 (.k (.i 0)) (.v 4) 8)])), (1, (.arr [ku32] (.v 1) (.v 3))), (2, (.arr [ki64, (.sl [ki64]), (.sl [ki64]), ku32, ki64, ki64, ki64, ku32] (.v 2) (.v 4)))], 3⟩,
 ⟨[], []⟩,
 [(2, (.ptr 0 0))], some t68, fun _ => none⟩
/-- loop.example/g00709/impl.within -/
def t69 : Tr :=
(.seq [kb]
 (.nd (.pr (.cmp .geq .i64) [(.v 0), (.v 1)])
 (.ite (.v 3)
  (.nd (.pr (.cmp .leq .i64) [(.v 0), (.v 2)])
  (.out 0 [(.v 4)]))
  (.out 0 [(.k (.b false))])))
(.out 1 [(.v 3)]))
def e69 : Fe := ⟨⟨70, [ki64, ki64, ki64], [(.dat ki64 (.v 0)), (.dat ki64 (.v 1)), (.dat ki64 (.v 2))], [], [kb], [(.dat kb (.v 3))], [], 0⟩,
 ⟨[(3, ⟨[kb], [(6, (.dat kb (.v 3)))], [], 0⟩)], []⟩,
 [(6, (.dat kb (.v 3)))], some t69, fun _ => none⟩
/-- loop.example/g00709/impl.isClass -/
def t70 : Tr :=
(.nd (.call 69 [(.v 0), (.k (.i 0)), (.k (.i 4))] [ki64, ki64, ki64] [kb])
(.out 1 [(.v 1)]))
def e70 : Fe := ⟨⟨101, [ki64], [(.dat ki64 (.v 0))], [], [kb], [(.dat kb (.v 1))], [], 0⟩,
 ⟨[], []⟩,
 [(2, (.dat kb (.v 1)))], some t70, fun _ => none⟩
/-- loop.example/g00709/impl.PerPage -/
def t71 : Tr :=
(.nd (.call 70 [(.v 0)] [ki64] [kb])
(.nd (.pr .not [(.v 1)])
(.ite (.v 2)
 (.out 1 [(.k (.i 0))])
 (.nd (.pr (.sh .shr .i64 .i64) [(.k (.i 16)), (.v 0)])
 (.out 1 [(.v 3)])))))
def e71 : Fe := ⟨⟨56, [ki64], [(.dat ki64 (.v 0))], [], [ki64], [(.dat ki64 (.v 1))], [], 0⟩,
 ⟨[], []⟩,
 [(2, (.dat ki64 (.v 1)))], some t71, fun _ => none⟩
/-- loop.example/g00709/impl.isCtl -/
def t72 : Tr :=
(.blk 2 []
 (.seq [kb]
  (.nd (.pr (.cmp .eql .i64) [(.v 0), (.k (.i 0))])
  (.ite (.v 4)
   (.out 0 [(.k (.b true))])
   (.nd (.pr (.cmp .eql .i64) [(.v 0), (.k (.i 3))])
   (.out 0 [(.v 5)]))))
 (.ite (.v 4)
  (.nd (.pr (.cmp .eql .i64) [(.v 0), (.v 0)])
  (.nd (.pr .and [(.k (.b true)), (.v 5)])
  (.nd (.pr (.cmp .eql .i64) [(.v 1), (.k (.i 0))])
  (.nd (.pr .and [(.v 6), (.v 7)])
  (.nd (.pr (.cmp .eql .u32) [(.v 2), (.k (.i 0))])
  (.nd (.pr .and [(.v 8), (.v 9)])
  (.nd (.pr (.cmp .eql .i64) [(.v 3), (.k (.i 0))])
  (.nd (.pr .and [(.v 10), (.v 11)])
  (.out 1 [(.v 12)])))))))))
  (.nd (.pr (.cmp .eql .i64) [(.v 0), (.k (.i 1))])
  (.ite (.v 5)
   (.seq [kb]
    (.nd (.call 70 [(.v 1)] [ki64] [kb])
    (.ite (.v 6)
     (.nd (.pr (.cmp .neq .u32) [(.v 2), (.k (.i 0))])
     (.ite (.v 7)
      (.nd (.call 71 [(.v 1)] [ki64] [ki64])
      (.nd (.pr (.sh .shl .u32 .i64) [(.k (.i 1)), (.v 8)])
      (.nd (.pr (.cmp .lss .u32) [(.v 2), (.v 9)])
      (.ite (.v 10)
       (.nd (.pr (.cmp .eql .i64) [(.v 3), (.k (.i 0))])
       (.out 0 [(.v 11)]))
       (.out 0 [(.k (.b false))])))))
      (.out 0 [(.k (.b false))])))
     (.out 0 [(.k (.b false))])))
   (.out 1 [(.v 6)]))
   (.nd (.pr (.cmp .eql .i64) [(.v 0), (.k (.i 2))])
   (.ite (.v 6)
    (.seq [kb]
     (.nd (.call 69 [(.v 3), (.k (.i 2)), (.k (.i 16))] [ki64, ki64, ki64] [kb])
     (.ite (.v 7)
      (.nd (.pr (.cmp .eql .i64) [(.v 1), (.k (.i 0))])
      (.ite (.v 8)
       (.nd (.pr (.cmp .eql .u32) [(.v 2), (.k (.i 0))])
       (.out 0 [(.v 9)]))
       (.out 0 [(.k (.b false))])))
      (.out 0 [(.k (.b false))])))
    (.out 1 [(.v 7)]))
    (.out 0 [])))))))
(.out 1 [(.k (.b false))]))
def e72 : Fe := ⟨⟨132, [ki64, ki64, ku32, ki64], [(.agg [(.dat ki64 (.v 0)), (.dat ki64 (.v 1)), (.dat ku32 (.v 2)), (.dat ki64 (.v 3))])], [], [kb], [(.dat kb (.v 4))], [], 0⟩,
 ⟨[(13, ⟨[], [], [], 0⟩), (1726, ⟨[kb], [(2, (.dat kb (.v 7)))], [], 0⟩), (430, ⟨[kb], [(2, (.dat kb (.v 6)))], [], 0⟩), (26, ⟨[kb], [(1, (.ptr 0 0)), (4, (.dat ki64 (.v 0))), (5, (.dat kb (.v 4)))], [(0, (.cells [(.dat ki64 (.v 0)), (.dat ki64 (.v 1)), (.dat ku32 (.v 2)), (.dat ki64 (.v 3))]))], 1⟩)], []⟩,
 [(2, (.dat kb (.v 4)))], some t72, fun _ => none⟩
/-- loop.example/g00709/impl.CtlRead -/
def t73 : Tr :=
(.nd (.pr (.sh .shr .u32 .u64) [(.v 0), (.k (.i 20))])
(.nd (.pr (.bin .and .u32) [(.v 1), (.k (.i 15))])
(.nd (.pr (.conv .u32 .i64) [(.v 2)])
(.nd (.pr (.sh .shr .u32 .u64) [(.v 0), (.k (.i 16))])
(.nd (.pr (.bin .and .u32) [(.v 4), (.k (.i 15))])
(.nd (.pr (.conv .u32 .i64) [(.v 5)])
(.nd (.pr (.bin .and .u32) [(.v 0), (.k (.i 65535))])
(.nd (.pr (.sh .shr .u32 .u64) [(.v 0), (.k (.i 24))])
(.nd (.pr (.conv .u32 .i64) [(.v 8)])
(.nd (.call 72 [(.v 3), (.v 6), (.v 7), (.v 9)] [ki64, ki64, ku32, ki64] [kb])
(.nd (.pr .not [(.v 10)])
(.ite (.v 11)
 (.out 1 [(.k (.b false)), (.k (.i 0)), (.k (.i 0)), (.k (.i 0)), (.k (.i 0))])
 (.out 1 [(.k (.b true)), (.v 3), (.v 6), (.v 7), (.v 9)])))))))))))))
def e73 : Fe := ⟨⟨95, [ku32], [(.dat ku32 (.v 0))], [], [kb, ki64, ki64, ku32, ki64], [(.agg [(.dat ki64 (.v 2)), (.dat ki64 (.v 3)), (.dat ku32 (.v 4)), (.dat ki64 (.v 5))]), (.dat kb (.v 1))], [(0, (.cells [(.dat ki64 (.v 2)), (.dat ki64 (.v 3)), (.dat ku32 (.v 4)), (.dat ki64 (.v 5))]))], 1⟩,
 ⟨[], []⟩,
 [(2, (.ptr 0 0)), (3, (.dat kb (.v 1)))], some t73, fun _ => none⟩
/-- loop.example/g00709/impl.isHeap$1 -/
def t74 : Tr :=
(.nd (.call 73 [(.v 0)] [ku32] [kb, ki64, ki64, ku32, ki64])
(.nd (.pr .not [(.v 1)])
(.out 1 [(.v 6)])))
def e74 : Fe := ⟨⟨131, [ku32], [(.dat ku32 (.v 0))], [], [kb], [(.dat kb (.v 1))], [], 0⟩,
 ⟨[], []⟩,
 [(2, (.dat kb (.v 1)))], some t74, fun _ => none⟩
/-- slices.IndexFunc[[]uint32,uint32] -/
def t75 : Tr :=
(.nd (.pr (.len [ku32]) [(.v 0)])
(.blk 2 []
 (.loop [ki64] [(.k (.i 0))]
  (.nd (.pr (.cmp .lss .i64) [(.v 2), (.v 1)])
  (.ite (.v 3)
   (.blk 3 []
    (.nd (.pr (.len [ku32]) [(.v 0)])
    (.nd (.pr (.ixc .i64) [(.v 2), (.v 4)])
    (.nd (.pr (.get [ku32] 0) [(.v 0), (.v 5)])
    (.nd (.call 74 [(.v 6)] [ku32] [kb])
    (.ite (.v 7)
     (.out 1 [(.v 2)])
     (.out 0 []))))))
   (.nd (.pr (.bin .add .i64) [(.v 2), (.k (.i 1))])
   (.out 0 [(.v 4)])))
   (.out 2 []))))
(.out 1 [(.k (.i (-1)))])))
def e75 : Fe := ⟨⟨140, [(.sl [ku32])], [(.lz [ku32] (.v 0)), (.fn 131 [])], [], [ki64], [(.dat ki64 (.v 1))], [], 0⟩,
 ⟨[(13, ⟨[], [], [], 0⟩), (26, ⟨[ki64], [(0, (.lz [ku32] (.v 0))), (1, (.fn 131 [])), (7, (.dat ki64 (.v 1))), (8, (.dat ki64 (.v 2)))], [], 0⟩), (422, ⟨[], [(0, (.lz [ku32] (.v 0))), (1, (.fn 131 [])), (7, (.dat ki64 (.v 1))), (8, (.dat ki64 (.v 2)))], [], 0⟩)], []⟩,
 [(4, (.dat ki64 (.v 1)))], some t75, fun _ => none⟩
/-- slices.ContainsFunc[[]uint32,uint32] -/
def t76 : Tr :=
(.nd (.call 75 [(.v 0)] [(.sl [ku32])] [ki64])
(.nd (.pr (.cmp .geq .i64) [(.v 1), (.k (.i 0))])
(.out 1 [(.v 2)])))
def e76 : Fe := ⟨⟨107, [(.sl [ku32])], [(.lz [ku32] (.v 0)), (.fn 131 [])], [], [kb], [(.dat kb (.v 1))], [], 0⟩,
 ⟨[], []⟩,
 [(4, (.dat kb (.v 1)))], some t76, fun _ => none⟩
/-- loop.example/g00709/impl.isHeap -/
def t77 : Tr :=
(.seq [kb]
 (.nd (.pr (.len [ku32]) [(.v 0)])
 (.nd (.pr (.cmp .leq .i64) [(.v 1), (.k (.i 16))])
 (.ite (.v 2)
  (.nd (.call 76 [(.v 0)] [(.sl [ku32])] [kb])
  (.nd (.pr .not [(.v 3)])
  (.out 0 [(.v 4)])))
  (.out 0 [(.k (.b false))]))))
(.out 1 [(.v 1)]))
def e77 : Fe := ⟨⟨93, [(.sl [ku32])], [(.agg [(.lz [ku32] (.v 0))])], [], [kb], [(.dat kb (.v 1))], [], 0⟩,
 ⟨[(3, ⟨[kb], [(2, (.dat kb (.v 1)))], [], 0⟩)], []⟩,
 [(2, (.dat kb (.v 1)))], some t77, fun _ => none⟩
/-- loop.example/g00709/impl.BitList -/
def t78 : Tr :=
(.blk 2 [(.sl [ki64])]
 (.loop [ki64, (.sl [ki64])] [(.k (.i 0)), (.k (.l []))]
  (.nd (.pr (.len [ki64]) [(.v 2)])
  (.nd (.pr (.cmp .lss .i64) [(.v 1), (.k (.i 32))])
  (.ite (.v 4)
   (.blk 3 [(.sl [ki64])]
    (.nd (.pr (.sh .shr .u32 .i64) [(.v 0), (.v 1)])
    (.nd (.pr (.bin .and .u32) [(.v 5), (.k (.i 1))])
    (.nd (.pr (.cmp .eql .u32) [(.v 6), (.k (.i 1))])
    (.ite (.v 7)
     (.nd (.pr (.mk [ki64] 1) [(.v 1)])
     (.nd (.pr (.app [ki64] 8) [(.v 2), (.v 8)])
     (.nd (.pr (.len [ki64]) [(.v 9)])
     (.out 0 [(.v 9)]))))
     (.out 0 [(.v 2)])))))
   (.nd (.pr (.len [ki64]) [(.v 5)])
   (.nd (.pr (.bin .add .i64) [(.v 1), (.k (.i 1))])
   (.out 0 [(.v 7), (.v 5)]))))
   (.out 2 [(.v 2)])))))
(.nd (.pr (.len [ki64]) [(.v 1)])
(.out 1 [(.v 1)])))
def e78 : Fe := ⟨⟨137, [ku32], [(.dat ku32 (.v 0))], [], [(.sl [ki64])], [(.sl 0 (.k (.i 0)) (.v 2) 1)], [(0, (.arr [ki64] (.v 1) (.v 2)))], 1⟩,
 ⟨[(29, ⟨[(.sl [ki64])], [(3, (.sl 0 (.k (.i 0)) (.v 2) 1))], [(0, (.arr [ki64] (.v 1) (.v 2)))], 1⟩), (58, ⟨[ki64, (.sl [ki64])], [(0, (.dat ku32 (.v 0))), (3, (.sl 0 (.k (.i 0)) (.v 3) 1)), (5, (.dat ki64 (.v 1)))], [(0, (.arr [ki64] (.v 2) (.v 3)))], 1⟩), (934, ⟨[(.sl [ki64])], [(0, (.dat ku32 (.v 0))), (3, (.sl 0 (.k (.i 0)) (.v 6) 1)), (5, (.dat ki64 (.v 1)))], [(0, (.arr [ki64] (.v 5) (.v 6)))], 1⟩)], []⟩,
 [(2, (.sl 0 (.k (.i 0)) (.v 2) 1))], some t78, fun _ => none⟩
/-- loop.example/g00709/impl.ClassSize -/
def t79 : Tr :=
(.nd (.call 70 [(.v 0)] [ki64] [kb])
(.nd (.pr .not [(.v 1)])
(.ite (.v 2)
 (.out 1 [(.k (.i 0))])
 (.nd (.pr (.sh .shl .i64 .i64) [(.k (.i 1)), (.v 0)])
 (.out 1 [(.v 3)])))))
def e79 : Fe := ⟨⟨52, [ki64], [(.dat ki64 (.v 0))], [], [ki64], [(.dat ki64 (.v 1))], [], 0⟩,
 ⟨[], []⟩,
 [(2, (.dat ki64 (.v 1)))], some t79, fun _ => none⟩
/-- loop.example/g00709/impl.audit -/
def t80 : Tr :=
(.nd (.pr (.len [ku32]) [(.v 0)])
(.blk 2 [(.sl [ki64, ki64])]
 (.loop [ki64, (.sl [ki64, ki64])] [(.k (.i 0)), (.k (.l []))]
  (.nd (.pr (.len [ki64, ki64]) [(.v 3)])
  (.nd (.pr (.cmp .lss .i64) [(.v 2), (.v 1)])
  (.ite (.v 5)
   (.blk 3 [(.sl [ki64, ki64])]
    (.nd (.pr (.len [ku32]) [(.v 0)])
    (.nd (.pr (.ixc .i64) [(.v 2), (.v 6)])
    (.nd (.pr (.get [ku32] 0) [(.v 0), (.v 7)])
    (.nd (.call 73 [(.v 8)] [ku32] [kb, ki64, ki64, ku32, ki64])
    (.blk 4 [(.sl [ki64, ki64])]
     (.nd (.pr (.cmp .eql .i64) [(.v 10), (.k (.i 1))])
     (.ite (.v 14)
      (.nd (.call 78 [(.v 12)] [ku32] [(.sl [ki64])])
      (.nd (.pr (.len [ki64]) [(.v 15)])
      (.blk 5 [(.sl [ki64, ki64])]
       (.loop [ki64, (.sl [ki64, ki64])] [(.k (.i 0)), (.v 3)]
        (.nd (.pr (.len [ki64, ki64]) [(.v 18)])
        (.nd (.pr (.len [ki64]) [(.v 15)])
        (.nd (.pr (.cmp .lss .i64) [(.v 17), (.v 16)])
        (.ite (.v 21)
         (.blk 6 [(.sl [ki64, ki64])]
          (.nd (.pr (.ixc .i64) [(.v 17), (.v 20)])
          (.nd (.pr (.get [ki64] 0) [(.v 15), (.v 22)])
          (.nd (.pr (.bin .mul .i64) [(.v 2), (.k (.i 16))])
          (.nd (.pr (.sh .shl .i64 .i64) [(.v 23), (.v 11)])
          (.nd (.pr (.bin .add .i64) [(.v 24), (.v 25)])
          (.nd (.call 79 [(.v 11)] [ki64] [ki64])
          (.nd (.pr (.mk [ki64, ki64] 1) [(.v 26), (.v 27)])
          (.nd (.pr (.app [ki64, ki64] 16) [(.v 18), (.v 28)])
          (.nd (.pr (.len [ki64, ki64]) [(.v 29)])
          (.out 0 [(.v 29)]))))))))))
         (.nd (.pr (.len [ki64, ki64]) [(.v 22)])
         (.nd (.pr (.len [ki64]) [(.v 15)])
         (.nd (.pr (.bin .add .i64) [(.v 17), (.k (.i 1))])
         (.out 0 [(.v 25), (.v 22)])))))
         (.out 5 [(.v 18)]))))))
      (.nd (.pr (.len [ki64, ki64]) [(.v 17)])
      (.out 0 [(.v 17)])))))
      (.nd (.pr (.cmp .eql .i64) [(.v 10), (.k (.i 2))])
      (.ite (.v 15)
       (.nd (.pr (.bin .mul .i64) [(.v 2), (.k (.i 16))])
       (.nd (.pr (.bin .mul .i64) [(.v 13), (.k (.i 16))])
       (.nd (.pr (.mk [ki64, ki64] 1) [(.v 16), (.v 17)])
       (.nd (.pr (.app [ki64, ki64] 16) [(.v 3), (.v 18)])
       (.nd (.pr (.len [ki64, ki64]) [(.v 19)])
       (.out 0 [(.v 19)]))))))
       (.out 0 [(.v 3)])))))
    (.nd (.pr (.len [ki64, ki64]) [(.v 14)])
    (.out 0 [(.v 14)])))))))
   (.nd (.pr (.len [ki64, ki64]) [(.v 6)])
   (.nd (.pr (.bin .add .i64) [(.v 2), (.k (.i 1))])
   (.out 0 [(.v 8), (.v 6)]))))
   (.out 2 [(.v 3)])))))
(.nd (.pr (.len [ki64, ki64]) [(.v 2)])
(.out 1 [(.v 2)]))))
def e80 : Fe := ⟨⟨104, [(.sl [ku32])], [(.agg [(.lz [ku32] (.v 0))])], [], [(.sl [ki64, ki64])], [(.sl 0 (.k (.i 0)) (.v 2) 2)], [(0, (.arr [ki64, ki64] (.v 1) (.v 2)))], 1⟩,
 ⟨[(29, ⟨[(.sl [ki64, ki64])], [(3, (.sl 0 (.k (.i 0)) (.v 3) 2))], [(0, (.arr [ki64, ki64] (.v 2) (.v 3)))], 1⟩), (58, ⟨[ki64, (.sl [ki64, ki64])], [(3, (.sl 0 (.k (.i 0)) (.v 4) 2)), (11, (.lz [ku32] (.v 0))), (12, (.dat ki64 (.v 1))), (13, (.dat ki64 (.v 2)))], [(0, (.arr [ki64, ki64] (.v 3) (.v 4)))], 1⟩), (934, ⟨[(.sl [ki64, ki64])], [(3, (.sl 0 (.k (.i 0)) (.v 7) 2)), (11, (.lz [ku32] (.v 0))), (12, (.dat ki64 (.v 1))), (13, (.dat ki64 (.v 2)))], [(0, (.arr [ki64, ki64] (.v 6) (.v 7)))], 1⟩), (14951, ⟨[(.sl [ki64, ki64])], [(3, (.sl 0 (.k (.i 0)) (.v 15) 2)), (11, (.lz [ku32] (.v 0))), (12, (.dat ki64 (.v 1))), (13, (.dat ki64 (.v 2)))], [(0, (.arr [ki64, ki64] (.v 14) (.v 15)))], 1⟩), (239221, ⟨[(.sl [ki64, ki64])], [(3, (.sl 0 (.k (.i 0)) (.v 18) 2)), (11, (.lz [ku32] (.v 0))), (12, (.dat ki64 (.v 1))), (13, (.dat ki64 (.v 2)))], [(0, (.arr [ki64, ki64] (.v 17) (.v 18)))], 1⟩), (478442, ⟨[ki64, (.sl [ki64, ki64])], [(3, (.sl 0 (.k (.i 0)) (.v 19) 2)), (4, (.dat ki64 (.v 2))), (6, (.ptr 1 0)), (11, (.lz [ku32] (.v 0))), (12, (.dat ki64 (.v 1))), (13, (.dat ki64 (.v 2))), (29, (.sl 2 (.k (.i 0)) (.v 20) 1)), (30, (.dat ki64 (.v 16))), (31, (.dat ki64 (.v 17)))], [(0, (.arr [ki64, ki64] (.v 18) (.v 19))), (1, (.cells [(.dat ki64 (.v 10)), (.dat ki64 (.v 11)), (.dat ku32 (.v 12)), (.dat ki64 (.v 13))])), (2, (.arr [ki64] (.v 15) (.v 20)))], 3⟩), (7655078, ⟨[(.sl [ki64, ki64])], [(3, (.sl 0 (.k (.i 0)) (.v 23) 2)), (4, (.dat ki64 (.v 2))), (6, (.ptr 1 0)), (11, (.lz [ku32] (.v 0))), (12, (.dat ki64 (.v 1))), (13, (.dat ki64 (.v 2))), (29, (.sl 2 (.k (.i 0)) (.v 24) 1)), (30, (.dat ki64 (.v 16))), (31, (.dat ki64 (.v 17)))], [(0, (.arr [ki64, ki64] (.v 22) (.v 23))), (1, (.cells [(.dat ki64 (.v 10)), (.dat ki64 (.v 11)), (.dat ku32 (.v 12)), (.dat ki64 (.v 13))])), (2, (.arr [ki64] (.v 15) (.v 24)))], 3⟩)], [(30620313, [0])]⟩,
 [(2, (.sl 0 (.k (.i 0)) (.v 2) 2))], some t80, fun _ => none⟩
/-- loop.example/g00709/impl.Audit -/
def t81 : Tr :=
(.nd (.call 77 [(.v 0)] [(.sl [ku32])] [kb])
(.nd (.pr .not [(.v 1)])
(.ite (.v 2)
 (.out 1 [(.k (.b false)), (.k (.l []))])
 (.nd (.call 80 [(.v 0)] [(.sl [ku32])] [(.sl [ki64, ki64])])
 (.nd (.pr (.len [ki64, ki64]) [(.v 3)])
 (.out 1 [(.k (.b true)), (.v 3)]))))))
def e81 : Fe := ⟨⟨55, [(.sl [ku32])], [(.agg [(.lz [ku32] (.v 0))])], [], [kb, (.sl [ki64, ki64])], [(.sl 0 (.k (.i 0)) (.v 3) 2), (.dat kb (.v 1))], [(0, (.arr [ki64, ki64] (.v 2) (.v 3)))], 1⟩,
 ⟨[], []⟩,
 [(2, (.sl 0 (.k (.i 0)) (.v 3) 2)), (3, (.dat kb (.v 1)))], some t81, fun _ => none⟩
/-- loop.example/g00709/spec.Audit -/
def t82 : Tr :=
(.nd (.call 35 [(.v 0)] [(.sl [ku32])] [kb])
(.nd (.pr .not [(.v 1)])
(.ite (.v 2)
 (.out 1 [(.k (.b false)), (.k (.l []))])
 (.blk 2 [(.sl [ki64, ki64])]
  (.loop [ki64, (.sl [ki64, ki64])] [(.k (.i 0)), (.k (.l []))]
   (.nd (.pr (.len [ki64, ki64]) [(.v 4)])
   (.nd (.pr (.len [ku32]) [(.v 0)])
   (.nd (.pr (.cmp .lss .i64) [(.v 3), (.v 6)])
   (.ite (.v 7)
    (.blk 3 [(.sl [ki64, ki64])]
     (.nd (.pr (.len [ku32]) [(.v 0)])
     (.nd (.pr (.ixc .i64) [(.v 3), (.v 8)])
     (.nd (.pr (.get [ku32] 0) [(.v 0), (.v 9)])
     (.nd (.call 23 [(.v 10)] [ku32] [kb, ki64, ki64, ku32, ki64])
     (.nd (.call 11 [(.v 14)] [ku32] [(.sl [ki64])])
     (.nd (.pr (.len [ki64]) [(.v 16)])
     (.blk 4 [(.sl [ki64, ki64])]
      (.loop [ki64, (.sl [ki64, ki64])] [(.k (.i 0)), (.v 4)]
       (.nd (.pr (.len [ki64, ki64]) [(.v 19)])
       (.nd (.pr (.len [ki64]) [(.v 16)])
       (.nd (.pr (.cmp .lss .i64) [(.v 18), (.v 21)])
       (.ite (.v 22)
        (.blk 5 [(.sl [ki64, ki64])]
         (.nd (.pr (.bin .mul .i64) [(.k (.i 16)), (.v 3)])
         (.nd (.pr (.ixc .i64) [(.v 18), (.v 21)])
         (.nd (.pr (.get [ki64] 0) [(.v 16), (.v 24)])
         (.nd (.call 26 [(.v 13)] [ki64] [ki64])
         (.nd (.pr (.bin .mul .i64) [(.v 25), (.v 26)])
         (.nd (.pr (.bin .add .i64) [(.v 23), (.v 27)])
         (.nd (.call 26 [(.v 13)] [ki64] [ki64])
         (.nd (.pr (.mk [ki64, ki64] 1) [(.v 28), (.v 29)])
         (.nd (.pr (.app [ki64, ki64] 16) [(.v 19), (.v 30)])
         (.nd (.pr (.len [ki64, ki64]) [(.v 31)])
         (.out 0 [(.v 31)])))))))))))
        (.nd (.pr (.len [ki64, ki64]) [(.v 23)])
        (.nd (.pr (.len [ki64]) [(.v 16)])
        (.nd (.pr (.bin .add .i64) [(.v 18), (.k (.i 1))])
        (.out 0 [(.v 26), (.v 23)])))))
        (.out 4 [(.v 19)]))))))
     (.nd (.pr (.len [ki64, ki64]) [(.v 18)])
     (.nd (.pr (.cmp .eql .i64) [(.v 12), (.k (.i 2))])
     (.ite (.v 20)
      (.nd (.pr (.bin .mul .i64) [(.k (.i 16)), (.v 3)])
      (.nd (.pr (.bin .mul .i64) [(.k (.i 16)), (.v 15)])
      (.nd (.pr (.mk [ki64, ki64] 1) [(.v 21), (.v 22)])
      (.nd (.pr (.app [ki64, ki64] 16) [(.v 18), (.v 23)])
      (.nd (.pr (.len [ki64, ki64]) [(.v 24)])
      (.out 0 [(.v 24)]))))))
      (.out 0 [(.v 18)])))))))))))
    (.nd (.pr (.len [ki64, ki64]) [(.v 8)])
    (.nd (.pr (.bin .add .i64) [(.v 3), (.k (.i 1))])
    (.out 0 [(.v 10), (.v 8)]))))
    (.out 2 [(.v 4)]))))))
 (.nd (.pr (.len [ki64, ki64]) [(.v 3)])
 (.out 1 [(.k (.b true)), (.v 3)]))))))
def e82 : Fe := ⟨⟨63, [(.sl [ku32])], [(.agg [(.lz [ku32] (.v 0))])], [], [kb, (.sl [ki64, ki64])], [(.sl 0 (.k (.i 0)) (.v 3) 2), (.dat kb (.v 1))], [(0, (.arr [ki64, ki64] (.v 2) (.v 3)))], 1⟩,
 ⟨[(61, ⟨[(.sl [ki64, ki64])], [(4, (.sl 0 (.k (.i 0)) (.v 4) 2))], [(0, (.arr [ki64, ki64] (.v 3) (.v 4)))], 1⟩), (122, ⟨[ki64, (.sl [ki64, ki64])], [(1, (.ptr 0 0)), (4, (.sl 1 (.k (.i 0)) (.v 5) 2)), (5, (.dat ki64 (.v 3)))], [(0, (.cells [(.lz [ku32] (.v 0))])), (1, (.arr [ki64, ki64] (.v 4) (.v 5)))], 2⟩), (978, ⟨[(.sl [ki64, ki64])], [(1, (.ptr 0 0)), (4, (.sl 1 (.k (.i 0)) (.v 9) 2)), (5, (.dat ki64 (.v 3)))], [(0, (.cells [(.lz [ku32] (.v 0))])), (1, (.arr [ki64, ki64] (.v 8) (.v 9)))], 2⟩), (31309, ⟨[(.sl [ki64, ki64])], [(1, (.ptr 0 0)), (4, (.sl 1 (.k (.i 0)) (.v 19) 2)), (5, (.dat ki64 (.v 3))), (6, (.ptr 2 0))], [(0, (.cells [(.lz [ku32] (.v 0))])), (1, (.arr [ki64, ki64] (.v 18) (.v 19))), (2, (.cells [(.dat ki64 (.v 12)), (.dat ki64 (.v 13)), (.dat ku32 (.v 14)), (.dat ki64 (.v 15))]))], 3⟩), (62618, ⟨[ki64, (.sl [ki64, ki64])], [(1, (.ptr 0 0)), (4, (.sl 1 (.k (.i 0)) (.v 20) 2)), (5, (.dat ki64 (.v 3))), (6, (.ptr 2 0)), (8, (.sl 3 (.k (.i 0)) (.v 21) 1)), (9, (.dat ki64 (.v 18)))], [(0, (.cells [(.lz [ku32] (.v 0))])), (1, (.arr [ki64, ki64] (.v 19) (.v 20))), (2, (.cells [(.dat ki64 (.v 12)), (.dat ki64 (.v 13)), (.dat ku32 (.v 14)), (.dat ki64 (.v 15))])), (3, (.arr [ki64] (.v 16) (.v 21)))], 4⟩), (500946, ⟨[(.sl [ki64, ki64])], [(1, (.ptr 0 0)), (4, (.sl 1 (.k (.i 0)) (.v 24) 2)), (5, (.dat ki64 (.v 3))), (6, (.ptr 2 0)), (8, (.sl 3 (.k (.i 0)) (.v 25) 1)), (9, (.dat ki64 (.v 18)))], [(0, (.cells [(.lz [ku32] (.v 0))])), (1, (.arr [ki64, ki64] (.v 23) (.v 24))), (2, (.cells [(.dat ki64 (.v 12)), (.dat ki64 (.v 13)), (.dat ku32 (.v 14)), (.dat ki64 (.v 15))])), (3, (.arr [ki64] (.v 16) (.v 25)))], 4⟩)], [(1001892, [1])]⟩,
 [(2, (.sl 0 (.k (.i 0)) (.v 3) 2)), (3, (.dat kb (.v 1)))], some t82, fun _ => none⟩
/-- loop.example/g00709/laws.sameLive -/
def t83 : Tr :=
(.nd (.pr (.len [ki64, ki64]) [(.v 0)])
(.nd (.pr (.len [ki64, ki64]) [(.v 1)])
(.nd (.pr (.cmp .neq .i64) [(.v 2), (.v 3)])
(.ite (.v 4)
 (.out 1 [(.k (.b false))])
 (.blk 2 []
  (.loop [ki64] [(.k (.i 0))]
   (.nd (.pr (.len [ki64, ki64]) [(.v 0)])
   (.nd (.pr (.cmp .lss .i64) [(.v 5), (.v 6)])
   (.ite (.v 7)
    (.blk 3 []
     (.nd (.pr (.len [ki64, ki64]) [(.v 0)])
     (.nd (.pr (.ixc .i64) [(.v 5), (.v 8)])
     (.nd (.pr (.get [ki64, ki64] 0) [(.v 0), (.v 9)])
     (.nd (.pr (.get [ki64, ki64] 1) [(.v 0), (.v 9)])
     (.nd (.pr (.len [ki64, ki64]) [(.v 1)])
     (.nd (.pr (.ixc .i64) [(.v 5), (.v 12)])
     (.nd (.pr (.get [ki64, ki64] 0) [(.v 1), (.v 13)])
     (.nd (.pr (.get [ki64, ki64] 1) [(.v 1), (.v 13)])
     (.nd (.pr (.cmp .eql .i64) [(.v 10), (.v 14)])
     (.nd (.pr .and [(.k (.b true)), (.v 16)])
     (.nd (.pr (.cmp .eql .i64) [(.v 11), (.v 15)])
     (.nd (.pr .and [(.v 17), (.v 18)])
     (.nd (.pr .not [(.v 19)])
     (.ite (.v 20)
      (.out 1 [(.k (.b false))])
      (.out 0 [])))))))))))))))
    (.nd (.pr (.bin .add .i64) [(.v 5), (.k (.i 1))])
    (.out 0 [(.v 8)])))
    (.out 2 [])))))
 (.out 1 [(.k (.b true))]))))))
def e83 : Fe := ⟨⟨64, [(.sl [ki64, ki64]), (.sl [ki64, ki64])], [(.lz [ki64, ki64] (.v 0)), (.lz [ki64, ki64] (.v 1))], [], [kb], [(.dat kb (.v 2))], [], 0⟩,
 ⟨[(29, ⟨[], [], [], 0⟩), (58, ⟨[ki64], [(0, (.lz [ki64, ki64] (.v 0))), (1, (.lz [ki64, ki64] (.v 1))), (5, (.dat ki64 (.v 5)))], [], 0⟩), (466, ⟨[], [(0, (.lz [ki64, ki64] (.v 0))), (1, (.lz [ki64, ki64] (.v 1))), (5, (.dat ki64 (.v 5)))], [], 0⟩)], []⟩,
 [(4, (.dat kb (.v 2)))], some t83, fun _ => none⟩
/-- loop.example/g00709/spec.l08Owners -/
def t84 : Tr :=
(.nd (.pr (.len [ku32]) [(.v 0)])
(.blk 2 [(.sl [ki64])]
 (.loop [ki64, (.sl [ki64])] [(.k (.i 0)), (.k (.l []))]
  (.nd (.pr (.len [ki64]) [(.v 4)])
  (.nd (.pr (.cmp .lss .i64) [(.v 3), (.v 2)])
  (.ite (.v 6)
   (.blk 3 [(.sl [ki64])]
    (.nd (.pr (.mk [ki64] 1) [(.k (.i (-1)))])
    (.nd (.pr (.app [ki64] 8) [(.v 4), (.v 7)])
    (.nd (.pr (.len [ki64]) [(.v 8)])
    (.out 0 [(.v 8)]))))
   (.nd (.pr (.len [ki64]) [(.v 7)])
   (.nd (.pr (.bin .add .i64) [(.v 3), (.k (.i 1))])
   (.out 0 [(.v 9), (.v 7)]))))
   (.out 2 [(.v 4)])))))
(.nd (.pr (.len [ki64]) [(.v 3)])
(.blk 4 [(.sl [ki64])]
 (.loop [ki64, (.sl [ki64])] [(.k (.i 0)), (.v 3)]
  (.nd (.pr (.len [ki64]) [(.v 6)])
  (.nd (.pr (.cmp .lss .i64) [(.v 5), (.v 2)])
  (.ite (.v 8)
   (.blk 5 [(.sl [ki64])]
    (.nd (.pr (.len [ku32]) [(.v 0)])
    (.nd (.pr (.ixc .i64) [(.v 5), (.v 9)])
    (.nd (.pr (.get [ku32] 0) [(.v 0), (.v 10)])
    (.nd (.call 23 [(.v 11)] [ku32] [kb, ki64, ki64, ku32, ki64])
    (.blk 6 [(.sl [ki64])]
     (.loop [ki64, (.sl [ki64])] [(.k (.i 0)), (.v 6)]
      (.nd (.pr (.len [ki64]) [(.v 18)])
      (.nd (.pr (.cmp .lss .i64) [(.v 17), (.v 16)])
      (.ite (.v 20)
       (.blk 7 [(.sl [ki64])]
        (.seq [kb]
         (.nd (.pr (.bin .add .i64) [(.v 5), (.v 17)])
         (.nd (.pr (.cmp .geq .i64) [(.v 21), (.v 2)])
         (.ite (.v 22)
          (.out 0 [(.k (.b true))])
          (.nd (.pr (.bin .add .i64) [(.v 5), (.v 17)])
          (.nd (.pr (.ixc .i64) [(.v 23), (.v 19)])
          (.nd (.pr (.get [ki64] 0) [(.v 18), (.v 24)])
          (.nd (.pr (.cmp .neq .i64) [(.v 25), (.k (.i (-1)))])
          (.out 0 [(.v 26)]))))))))
        (.nd (.pr (.len [ki64]) [(.v 18)])
        (.ite (.v 21)
         (.out 1 [(.k (.b false)), (.k (.l []))])
         (.nd (.pr (.bin .add .i64) [(.v 5), (.v 17)])
         (.nd (.pr (.ixc .i64) [(.v 23), (.v 22)])
         (.nd (.pr (.set [ki64] 0) [(.v 18), (.v 24), (.k (.i (-2)))])
         (.out 0 [(.v 25)])))))))
       (.nd (.pr (.len [ki64]) [(.v 21)])
       (.nd (.pr (.bin .add .i64) [(.v 17), (.k (.i 1))])
       (.out 0 [(.v 23), (.v 21)]))))
       (.out 6 [(.v 18)])))))
    (.nd (.pr (.len [ki64]) [(.v 17)])
    (.out 0 [(.v 17)])))))))
   (.nd (.pr (.len [ki64]) [(.v 9)])
   (.nd (.pr (.bin .add .i64) [(.v 5), (.k (.i 1))])
   (.out 0 [(.v 11), (.v 9)]))))
   (.out 4 [(.v 6)])))))
(.nd (.pr (.len [ki64]) [(.v 5)])
(.blk 8 [(.sl [ki64])]
 (.loop [ki64, (.sl [ki64])] [(.k (.i 0)), (.v 5)]
  (.nd (.pr (.len [ki64]) [(.v 8)])
  (.nd (.pr (.len [ki64, (.sl [ki64]), (.sl [ki64]), ku32, ki64, ki64, ki64, ku32]) [(.v 1)])
  (.nd (.pr (.cmp .lss .i64) [(.v 7), (.v 10)])
  (.ite (.v 11)
   (.blk 9 [(.sl [ki64])]
    (.blk 10 [(.sl [ki64])]
     (.loop [ki64, (.sl [ki64])] [(.k (.i 0)), (.v 8)]
      (.nd (.pr (.len [ki64]) [(.v 13)])
      (.nd (.pr (.len [ki64, (.sl [ki64]), (.sl [ki64]), ku32, ki64, ki64, ki64, ku32]) [(.v 1)])
      (.nd (.pr (.ixc .i64) [(.v 7), (.v 15)])
      (.nd (.pr (.get [ki64, (.sl [ki64]), (.sl [ki64]), ku32, ki64, ki64, ki64, ku32] 6) [(.v 1), (.v 16)])
      (.nd (.pr (.cmp .lss .i64) [(.v 12), (.v 17)])
      (.ite (.v 18)
       (.blk 11 [(.sl [ki64])]
        (.nd (.pr (.len [ki64, (.sl [ki64]), (.sl [ki64]), ku32, ki64, ki64, ki64, ku32]) [(.v 1)])
        (.nd (.pr (.ixc .i64) [(.v 7), (.v 19)])
        (.nd (.pr (.get [ki64, (.sl [ki64]), (.sl [ki64]), ku32, ki64, ki64, ki64, ku32] 5) [(.v 1), (.v 20)])
        (.nd (.pr (.bin .add .i64) [(.v 21), (.v 12)])
        (.seq [kb]
         (.nd (.pr (.cmp .geq .i64) [(.v 22), (.v 2)])
         (.ite (.v 23)
          (.out 0 [(.k (.b true))])
          (.nd (.pr (.ixc .i64) [(.v 22), (.v 14)])
          (.nd (.pr (.get [ki64] 0) [(.v 13), (.v 24)])
          (.nd (.pr (.cmp .neq .i64) [(.v 25), (.k (.i (-1)))])
          (.out 0 [(.v 26)]))))))
        (.nd (.pr (.len [ki64]) [(.v 13)])
        (.ite (.v 23)
         (.out 1 [(.k (.b false)), (.k (.l []))])
         (.nd (.pr (.ixc .i64) [(.v 22), (.v 24)])
         (.nd (.pr (.set [ki64] 0) [(.v 13), (.v 25), (.v 7)])
         (.out 0 [(.v 26)]))))))))))
       (.nd (.pr (.len [ki64]) [(.v 19)])
       (.nd (.pr (.bin .add .i64) [(.v 12), (.k (.i 1))])
       (.out 0 [(.v 21), (.v 19)]))))
       (.out 10 [(.v 13)]))))))))
    (.nd (.pr (.len [ki64]) [(.v 12)])
    (.out 0 [(.v 12)])))
   (.nd (.pr (.len [ki64]) [(.v 12)])
   (.nd (.pr (.bin .add .i64) [(.v 7), (.k (.i 1))])
   (.out 0 [(.v 14), (.v 12)]))))
   (.out 8 [(.v 8)]))))))
(.nd (.pr (.len [ki64]) [(.v 7)])
(.blk 12 []
 (.loop [ki64] [(.k (.i 0))]
  (.nd (.pr (.len [ki64]) [(.v 7)])
  (.nd (.pr (.cmp .lss .i64) [(.v 9), (.v 2)])
  (.ite (.v 11)
   (.blk 13 []
    (.nd (.pr (.len [ku32]) [(.v 0)])
    (.nd (.pr (.ixc .i64) [(.v 9), (.v 12)])
    (.nd (.pr (.get [ku32] 0) [(.v 0), (.v 13)])
    (.nd (.call 23 [(.v 14)] [ku32] [kb, ki64, ki64, ku32, ki64])
    (.nd (.pr (.cmp .eql .i64) [(.v 16), (.k (.i 3))])
    (.nd (.pr (.cmp .eql .i64) [(.v 16), (.k (.i 2))])
    (.seq [kb]
     (.nd (.pr (.ixc .i64) [(.v 9), (.v 10)])
     (.nd (.pr (.get [ki64] 0) [(.v 7), (.v 22)])
     (.nd (.pr (.cmp .eql .i64) [(.v 23), (.k (.i (-1)))])
     (.ite (.v 24)
      (.ite (.v 20)
       (.out 0 [(.k (.b true))])
       (.ite (.v 21)
        (.out 0 [(.k (.b true))])
        (.nd (.pr (.ixc .i64) [(.v 9), (.v 10)])
        (.nd (.pr (.get [ki64] 0) [(.v 7), (.v 25)])
        (.nd (.pr (.cmp .geq .i64) [(.v 26), (.k (.i 0))])
        (.ite (.v 27)
         (.nd (.pr .not [(.v 20)])
         (.ite (.v 28)
          (.out 0 [(.k (.b true))])
          (.nd (.pr (.ixc .i64) [(.v 9), (.v 10)])
          (.nd (.pr (.get [ki64] 0) [(.v 7), (.v 29)])
          (.nd (.pr (.cmp .eql .i64) [(.v 30), (.k (.i (-2)))])
          (.ite (.v 31)
           (.nd (.pr .not [(.v 20)])
           (.ite (.v 32)
            (.nd (.pr .not [(.v 21)])
            (.out 0 [(.v 33)]))
            (.out 0 [(.k (.b false))])))
           (.out 0 [(.k (.b false))])))))))
         (.nd (.pr (.ixc .i64) [(.v 9), (.v 10)])
         (.nd (.pr (.get [ki64] 0) [(.v 7), (.v 28)])
         (.nd (.pr (.cmp .eql .i64) [(.v 29), (.k (.i (-2)))])
         (.ite (.v 30)
          (.nd (.pr .not [(.v 20)])
          (.ite (.v 31)
           (.nd (.pr .not [(.v 21)])
           (.out 0 [(.v 32)]))
           (.out 0 [(.k (.b false))])))
          (.out 0 [(.k (.b false))])))))))))))
      (.nd (.pr (.ixc .i64) [(.v 9), (.v 10)])
      (.nd (.pr (.get [ki64] 0) [(.v 7), (.v 25)])
      (.nd (.pr (.cmp .geq .i64) [(.v 26), (.k (.i 0))])
      (.ite (.v 27)
       (.nd (.pr .not [(.v 20)])
       (.ite (.v 28)
        (.out 0 [(.k (.b true))])
        (.nd (.pr (.ixc .i64) [(.v 9), (.v 10)])
        (.nd (.pr (.get [ki64] 0) [(.v 7), (.v 29)])
        (.nd (.pr (.cmp .eql .i64) [(.v 30), (.k (.i (-2)))])
        (.ite (.v 31)
         (.nd (.pr .not [(.v 20)])
         (.ite (.v 32)
          (.nd (.pr .not [(.v 21)])
          (.out 0 [(.v 33)]))
          (.out 0 [(.k (.b false))])))
         (.out 0 [(.k (.b false))])))))))
       (.nd (.pr (.ixc .i64) [(.v 9), (.v 10)])
       (.nd (.pr (.get [ki64] 0) [(.v 7), (.v 28)])
       (.nd (.pr (.cmp .eql .i64) [(.v 29), (.k (.i (-2)))])
       (.ite (.v 30)
        (.nd (.pr .not [(.v 20)])
        (.ite (.v 31)
         (.nd (.pr .not [(.v 21)])
         (.out 0 [(.v 32)]))
         (.out 0 [(.k (.b false))])))
        (.out 0 [(.k (.b false))])))))))))))))
    (.nd (.pr (.len [ki64]) [(.v 7)])
    (.ite (.v 22)
     (.out 1 [(.k (.b false)), (.k (.l []))])
     (.out 0 []))))))))))
   (.nd (.pr (.len [ki64]) [(.v 7)])
   (.nd (.pr (.bin .add .i64) [(.v 9), (.k (.i 1))])
   (.out 0 [(.v 13)]))))
   (.out 12 [])))))
(.nd (.pr (.len [ki64]) [(.v 7)])
(.out 1 [(.k (.b true)), (.v 7)]))))))))))
def e84 : Fe := ⟨⟨115, [(.sl [ku32]), (.sl [ki64, (.sl [ki64]), (.sl [ki64]), ku32, ki64, ki64, ki64, ku32])], [(.agg [(.lz [ku32] (.v 0)), (.lz [ki64, (.sl [ki64]), (.sl [ki64]), ku32, ki64, ki64, ki64, ku32] (.v 1))])], [], [kb, (.sl [ki64])], [(.sl 0 (.k (.i 0)) (.v 4) 1), (.dat kb (.v 2))], [(0, (.arr [ki64] (.v 3) (.v 4)))], 1⟩,
 ⟨[(509, ⟨[], [(5, (.sl 0 (.k (.i 0)) (.v 9) 1))], [(0, (.arr [ki64] (.v 7) (.v 9)))], 1⟩), (1018, ⟨[ki64], [(1, (.ptr 0 0)), (4, (.dat ki64 (.v 2))), (5, (.sl 1 (.k (.i 0)) (.v 10) 1)), (14, (.dat ki64 (.v 9)))], [(0, (.cells [(.lz [ku32] (.v 0)), (.lz [ki64, (.sl [ki64]), (.sl [ki64]), ku32, ki64, ki64, ki64, ku32] (.v 1))])), (1, (.arr [ki64] (.v 7) (.v 10)))], 2⟩), (8146, ⟨[], [(1, (.ptr 0 0)), (4, (.dat ki64 (.v 2))), (5, (.sl 1 (.k (.i 0)) (.v 12) 1)), (14, (.dat ki64 (.v 9)))], [(0, (.cells [(.lz [ku32] (.v 0)), (.lz [ki64, (.sl [ki64]), (.sl [ki64]), ku32, ki64, ki64, ki64, ku32] (.v 1))])), (1, (.arr [ki64] (.v 7) (.v 12)))], 2⟩), (130343, ⟨[kb], [(1, (.ptr 0 0)), (4, (.dat ki64 (.v 2))), (5, (.sl 1 (.k (.i 0)) (.v 23) 1)), (14, (.dat ki64 (.v 9))), (168, (.dat kb (.v 22)))], [(0, (.cells [(.lz [ku32] (.v 0)), (.lz [ki64, (.sl [ki64]), (.sl [ki64]), ku32, ki64, ki64, ki64, ku32] (.v 1))])), (1, (.arr [ki64] (.v 7) (.v 23)))], 2⟩), (253, ⟨[(.sl [ki64])], [(1, (.ptr 0 0)), (4, (.dat ki64 (.v 2))), (5, (.sl 1 (.k (.i 0)) (.v 8) 1))], [(0, (.cells [(.lz [ku32] (.v 0)), (.lz [ki64, (.sl [ki64]), (.sl [ki64]), ku32, ki64, ki64, ki64, ku32] (.v 1))])), (1, (.arr [ki64] (.v 7) (.v 8)))], 2⟩), (506, ⟨[ki64, (.sl [ki64])], [(1, (.ptr 0 0)), (4, (.dat ki64 (.v 2))), (5, (.sl 1 (.k (.i 0)) (.v 9) 1)), (11, (.dat ki64 (.v 7)))], [(0, (.cells [(.lz [ku32] (.v 0)), (.lz [ki64, (.sl [ki64]), (.sl [ki64]), ku32, ki64, ki64, ki64, ku32] (.v 1))])), (1, (.arr [ki64] (.v 8) (.v 9)))], 2⟩), (4050, ⟨[(.sl [ki64])], [(1, (.ptr 0 0)), (4, (.dat ki64 (.v 2))), (5, (.sl 1 (.k (.i 0)) (.v 13) 1)), (11, (.dat ki64 (.v 7)))], [(0, (.cells [(.lz [ku32] (.v 0)), (.lz [ki64, (.sl [ki64]), (.sl [ki64]), ku32, ki64, ki64, ki64, ku32] (.v 1))])), (1, (.arr [ki64] (.v 12) (.v 13)))], 2⟩), (16201, ⟨[(.sl [ki64])], [(1, (.ptr 0 0)), (4, (.dat ki64 (.v 2))), (5, (.sl 1 (.k (.i 0)) (.v 13) 1)), (11, (.dat ki64 (.v 7)))], [(0, (.cells [(.lz [ku32] (.v 0)), (.lz [ki64, (.sl [ki64]), (.sl [ki64]), ku32, ki64, ki64, ki64, ku32] (.v 1))])), (1, (.arr [ki64] (.v 12) (.v 13)))], 2⟩), (32402, ⟨[ki64, (.sl [ki64])], [(1, (.ptr 0 0)), (4, (.dat ki64 (.v 2))), (5, (.sl 1 (.k (.i 0)) (.v 14) 1)), (11, (.dat ki64 (.v 7))), (12, (.dat ki64 (.v 12)))], [(0, (.cells [(.lz [ku32] (.v 0)), (.lz [ki64, (.sl [ki64]), (.sl [ki64]), ku32, ki64, ki64, ki64, ku32] (.v 1))])), (1, (.arr [ki64] (.v 13) (.v 14)))], 2⟩), (259218, ⟨[(.sl [ki64])], [(1, (.ptr 0 0)), (4, (.dat ki64 (.v 2))), (5, (.sl 1 (.k (.i 0)) (.v 20) 1)), (11, (.dat ki64 (.v 7))), (12, (.dat ki64 (.v 12)))], [(0, (.cells [(.lz [ku32] (.v 0)), (.lz [ki64, (.sl [ki64]), (.sl [ki64]), ku32, ki64, ki64, ki64, ku32] (.v 1))])), (1, (.arr [ki64] (.v 19) (.v 20)))], 2⟩), (2073746, ⟨[kb], [(1, (.ptr 0 0)), (4, (.dat ki64 (.v 2))), (5, (.sl 1 (.k (.i 0)) (.v 24) 1)), (11, (.dat ki64 (.v 7))), (12, (.dat ki64 (.v 12))), (13, (.dat ki64 (.v 22))), (106, (.dat kb (.v 23)))], [(0, (.cells [(.lz [ku32] (.v 0)), (.lz [ki64, (.sl [ki64]), (.sl [ki64]), ku32, ki64, ki64, ki64, ku32] (.v 1))])), (1, (.arr [ki64] (.v 13) (.v 24)))], 2⟩), (125, ⟨[(.sl [ki64])], [(1, (.ptr 0 0)), (4, (.dat ki64 (.v 2))), (5, (.sl 1 (.k (.i 0)) (.v 6) 1))], [(0, (.cells [(.lz [ku32] (.v 0)), (.lz [ki64, (.sl [ki64]), (.sl [ki64]), ku32, ki64, ki64, ki64, ku32] (.v 1))])), (1, (.arr [ki64] (.v 5) (.v 6)))], 2⟩), (250, ⟨[ki64, (.sl [ki64])], [(1, (.ptr 0 0)), (4, (.dat ki64 (.v 2))), (5, (.sl 1 (.k (.i 0)) (.v 7) 1)), (7, (.dat ki64 (.v 5)))], [(0, (.cells [(.lz [ku32] (.v 0)), (.lz [ki64, (.sl [ki64]), (.sl [ki64]), ku32, ki64, ki64, ki64, ku32] (.v 1))])), (1, (.arr [ki64] (.v 6) (.v 7)))], 2⟩), (2002, ⟨[(.sl [ki64])], [(1, (.ptr 0 0)), (4, (.dat ki64 (.v 2))), (5, (.sl 1 (.k (.i 0)) (.v 10) 1)), (7, (.dat ki64 (.v 5)))], [(0, (.cells [(.lz [ku32] (.v 0)), (.lz [ki64, (.sl [ki64]), (.sl [ki64]), ku32, ki64, ki64, ki64, ku32] (.v 1))])), (1, (.arr [ki64] (.v 9) (.v 10)))], 2⟩), (16019, ⟨[(.sl [ki64])], [(1, (.ptr 0 0)), (4, (.dat ki64 (.v 2))), (5, (.sl 1 (.k (.i 0)) (.v 18) 1)), (7, (.dat ki64 (.v 5)))], [(0, (.cells [(.lz [ku32] (.v 0)), (.lz [ki64, (.sl [ki64]), (.sl [ki64]), ku32, ki64, ki64, ki64, ku32] (.v 1))])), (1, (.arr [ki64] (.v 17) (.v 18)))], 2⟩), (32038, ⟨[ki64, (.sl [ki64])], [(1, (.ptr 0 0)), (4, (.dat ki64 (.v 2))), (5, (.sl 1 (.k (.i 0)) (.v 19) 1)), (7, (.dat ki64 (.v 5))), (8, (.ptr 2 0)), (10, (.dat ki64 (.v 17)))], [(0, (.cells [(.lz [ku32] (.v 0)), (.lz [ki64, (.sl [ki64]), (.sl [ki64]), ku32, ki64, ki64, ki64, ku32] (.v 1))])), (1, (.arr [ki64] (.v 18) (.v 19))), (2, (.cells [(.dat ki64 (.v 13)), (.dat ki64 (.v 14)), (.dat ku32 (.v 15)), (.dat ki64 (.v 16))]))], 3⟩), (256306, ⟨[(.sl [ki64])], [(1, (.ptr 0 0)), (4, (.dat ki64 (.v 2))), (5, (.sl 1 (.k (.i 0)) (.v 22) 1)), (7, (.dat ki64 (.v 5))), (8, (.ptr 2 0)), (10, (.dat ki64 (.v 17)))], [(0, (.cells [(.lz [ku32] (.v 0)), (.lz [ki64, (.sl [ki64]), (.sl [ki64]), ku32, ki64, ki64, ki64, ku32] (.v 1))])), (1, (.arr [ki64] (.v 21) (.v 22))), (2, (.cells [(.dat ki64 (.v 13)), (.dat ki64 (.v 14)), (.dat ku32 (.v 15)), (.dat ki64 (.v 16))]))], 3⟩), (1025224, ⟨[kb], [(1, (.ptr 0 0)), (4, (.dat ki64 (.v 2))), (5, (.sl 1 (.k (.i 0)) (.v 22) 1)), (7, (.dat ki64 (.v 5))), (8, (.ptr 2 0)), (10, (.dat ki64 (.v 17))), (66, (.dat kb (.v 21)))], [(0, (.cells [(.lz [ku32] (.v 0)), (.lz [ki64, (.sl [ki64]), (.sl [ki64]), ku32, ki64, ki64, ki64, ku32] (.v 1))])), (1, (.arr [ki64] (.v 18) (.v 22))), (2, (.cells [(.dat ki64 (.v 13)), (.dat ki64 (.v 14)), (.dat ku32 (.v 15)), (.dat ki64 (.v 16))]))], 3⟩), (61, ⟨[(.sl [ki64])], [(1, (.ptr 0 0)), (4, (.dat ki64 (.v 2))), (5, (.sl 1 (.k (.i 0)) (.v 4) 1))], [(0, (.cells [(.lz [ku32] (.v 0)), (.lz [ki64, (.sl [ki64]), (.sl [ki64]), ku32, ki64, ki64, ki64, ku32] (.v 1))])), (1, (.arr [ki64] (.v 3) (.v 4)))], 2⟩), (122, ⟨[ki64, (.sl [ki64])], [(1, (.ptr 0 0)), (4, (.dat ki64 (.v 2))), (5, (.sl 1 (.k (.i 0)) (.v 5) 1)), (6, (.dat ki64 (.v 3)))], [(0, (.cells [(.lz [ku32] (.v 0)), (.lz [ki64, (.sl [ki64]), (.sl [ki64]), ku32, ki64, ki64, ki64, ku32] (.v 1))])), (1, (.arr [ki64] (.v 4) (.v 5)))], 2⟩), (978, ⟨[(.sl [ki64])], [(1, (.ptr 0 0)), (4, (.dat ki64 (.v 2))), (5, (.sl 1 (.k (.i 0)) (.v 8) 1)), (6, (.dat ki64 (.v 3)))], [(0, (.cells [(.lz [ku32] (.v 0)), (.lz [ki64, (.sl [ki64]), (.sl [ki64]), ku32, ki64, ki64, ki64, ku32] (.v 1))])), (1, (.arr [ki64] (.v 7) (.v 8)))], 2⟩)], []⟩,
 [(2, (.sl 0 (.k (.i 0)) (.v 4) 1)), (3, (.dat kb (.v 2)))], some t84, fun _ => none⟩
/-- loop.example/g00709/spec.MachOk -/
def t85 : Tr :=
(.seq [kb]
 (.nd (.call 35 [(.v 0)] [(.sl [ku32])] [kb])
 (.nd (.pr .not [(.v 2)])
 (.ite (.v 3)
  (.out 0 [(.k (.b true))])
  (.nd (.pr (.len [ki64, (.sl [ki64]), (.sl [ki64]), ku32, ki64, ki64, ki64, ku32]) [(.v 1)])
  (.nd (.pr (.cmp .lss .i64) [(.v 4), (.k (.i 1))])
  (.ite (.v 5)
   (.out 0 [(.k (.b true))])
   (.nd (.pr (.len [ki64, (.sl [ki64]), (.sl [ki64]), ku32, ki64, ki64, ki64, ku32]) [(.v 1)])
   (.nd (.pr (.cmp .gtr .i64) [(.v 6), (.k (.i 4))])
   (.out 0 [(.v 7)])))))))))
(.ite (.v 2)
 (.out 1 [(.k (.b false))])
 (.blk 2 []
  (.loop [ki64] [(.k (.i 0))]
   (.nd (.pr (.len [ki64, (.sl [ki64]), (.sl [ki64]), ku32, ki64, ki64, ki64, ku32]) [(.v 1)])
   (.nd (.pr (.cmp .lss .i64) [(.v 3), (.v 4)])
   (.ite (.v 5)
    (.blk 3 []
     (.nd (.pr (.len [ki64, (.sl [ki64]), (.sl [ki64]), ku32, ki64, ki64, ki64, ku32]) [(.v 1)])
     (.nd (.pr (.ixc .i64) [(.v 3), (.v 6)])
     (.nd (.pr (.get [ki64, (.sl [ki64]), (.sl [ki64]), ku32, ki64, ki64, ki64, ku32] 0) [(.v 1), (.v 7)])
     (.nd (.pr (.get [ki64, (.sl [ki64]), (.sl [ki64]), ku32, ki64, ki64, ki64, ku32] 1) [(.v 1), (.v 7)])
     (.nd (.pr (.get [ki64, (.sl [ki64]), (.sl [ki64]), ku32, ki64, ki64, ki64, ku32] 2) [(.v 1), (.v 7)])
     (.nd (.pr (.get [ki64, (.sl [ki64]), (.sl [ki64]), ku32, ki64, ki64, ki64, ku32] 3) [(.v 1), (.v 7)])
     (.nd (.pr (.get [ki64, (.sl [ki64]), (.sl [ki64]), ku32, ki64, ki64, ki64, ku32] 4) [(.v 1), (.v 7)])
     (.nd (.pr (.get [ki64, (.sl [ki64]), (.sl [ki64]), ku32, ki64, ki64, ki64, ku32] 5) [(.v 1), (.v 7)])
     (.nd (.pr (.get [ki64, (.sl [ki64]), (.sl [ki64]), ku32, ki64, ki64, ki64, ku32] 6) [(.v 1), (.v 7)])
     (.nd (.pr (.get [ki64, (.sl [ki64]), (.sl [ki64]), ku32, ki64, ki64, ki64, ku32] 7) [(.v 1), (.v 7)])
     (.nd (.pr (.len [ku32]) [(.v 0)])
     (.nd (.call 33 [(.v 8), (.v 9), (.v 10), (.v 11), (.v 12), (.v 13), (.v 14), (.v 15), (.v 16)] [ki64, (.sl [ki64]), (.sl [ki64]), ku32, ki64, ki64, ki64, ku32, ki64] [kb])
     (.nd (.pr .not [(.v 17)])
     (.ite (.v 18)
      (.out 1 [(.k (.b false))])
      (.out 0 [])))))))))))))))
    (.nd (.pr (.bin .add .i64) [(.v 3), (.k (.i 1))])
    (.out 0 [(.v 6)])))
    (.out 2 [])))))
 (.nd (.call 84 [(.v 0), (.v 1)] [(.sl [ku32]), (.sl [ki64, (.sl [ki64]), (.sl [ki64]), ku32, ki64, ki64, ki64, ku32])] [kb, (.sl [ki64])])
 (.nd (.pr (.len [ki64]) [(.v 4)])
 (.out 1 [(.v 3)]))))))
def e85 : Fe := ⟨⟨65, [(.sl [ku32]), (.sl [ki64, (.sl [ki64]), (.sl [ki64]), ku32, ki64, ki64, ki64, ku32])], [(.agg [(.lz [ku32] (.v 0)), (.lz [ki64, (.sl [ki64]), (.sl [ki64]), ku32, ki64, ki64, ki64, ku32] (.v 1))])], [], [kb], [(.dat kb (.v 2))], [], 0⟩,
 ⟨[(29, ⟨[], [(1, (.ptr 0 0))], [(0, (.cells [(.lz [ku32] (.v 0)), (.lz [ki64, (.sl [ki64]), (.sl [ki64]), ku32, ki64, ki64, ki64, ku32] (.v 1))]))], 1⟩), (58, ⟨[ki64], [(1, (.ptr 0 0)), (3, (.dat ki64 (.v 3)))], [(0, (.cells [(.lz [ku32] (.v 0)), (.lz [ki64, (.sl [ki64]), (.sl [ki64]), ku32, ki64, ki64, ki64, ku32] (.v 1))]))], 1⟩), (466, ⟨[], [(1, (.ptr 0 0)), (3, (.dat ki64 (.v 3)))], [(0, (.cells [(.lz [ku32] (.v 0)), (.lz [ki64, (.sl [ki64]), (.sl [ki64]), ku32, ki64, ki64, ki64, ku32] (.v 1))]))], 1⟩), (6, ⟨[kb], [(1, (.ptr 0 0)), (21, (.dat kb (.v 2)))], [(0, (.cells [(.lz [ku32] (.v 0)), (.lz [ki64, (.sl [ki64]), (.sl [ki64]), ku32, ki64, ki64, ki64, ku32] (.v 1))]))], 1⟩)], []⟩,
 [(2, (.dat kb (.v 2)))], some t85, fun _ => none⟩
/-- loop.example/g00709/laws.pick -/
def t86 : Tr :=
(.seq [kb]
 (.nd (.pr (.len [ku8]) [(.v 0)])
 (.nd (.pr (.cmp .eql .i64) [(.v 3), (.k (.i 0))])
 (.ite (.v 4)
  (.out 0 [(.k (.b true))])
  (.nd (.pr (.cmp .lss .i64) [(.v 2), (.k (.i 2))])
  (.out 0 [(.v 5)])))))
(.ite (.v 3)
 (.out 1 [(.k (.i 0))])
 (.blk 2 [ki64]
  (.loop [ki64, ki64] [(.k (.i 0)), (.k (.i 0))]
   (.nd (.pr (.cmp .lss .i64) [(.v 5), (.k (.i 3))])
   (.ite (.v 6)
    (.blk 3 [ki64]
     (.nd (.pr (.bin .mul .i64) [(.k (.i 31)), (.v 4)])
     (.nd (.pr (.bin .add .i64) [(.v 1), (.v 5)])
     (.nd (.pr (.len [ku8]) [(.v 0)])
     (.nd (.pr (.bin .rem .i64) [(.v 8), (.v 9)])
     (.nd (.pr (.len [ku8]) [(.v 0)])
     (.nd (.pr (.ixc .i64) [(.v 10), (.v 11)])
     (.nd (.pr (.get [ku8] 0) [(.v 0), (.v 12)])
     (.nd (.pr (.conv .u8 .i64) [(.v 13)])
     (.nd (.pr (.bin .add .i64) [(.v 7), (.v 14)])
     (.out 0 [(.v 15)]))))))))))
    (.nd (.pr (.bin .add .i64) [(.v 5), (.k (.i 1))])
    (.out 0 [(.v 7), (.v 8)])))
    (.out 2 [(.v 4)]))))
 (.nd (.pr (.bin .add .i64) [(.v 4), (.v 1)])
 (.nd (.pr (.bin .rem .i64) [(.v 5), (.v 2)])
 (.out 1 [(.v 6)]))))))
def e86 : Fe := ⟨⟨14, [(.sl [ku8]), ki64, ki64], [(.dat (.sl [ku8]) (.v 0)), (.dat ki64 (.v 1)), (.dat ki64 (.v 2))], [], [ki64], [(.dat ki64 (.v 3))], [], 0⟩,
 ⟨[(61, ⟨[ki64], [(1, (.dat ki64 (.v 1))), (2, (.dat ki64 (.v 2))), (7, (.dat ki64 (.v 4)))], [], 0⟩), (122, ⟨[ki64, ki64], [(0, (.dat (.sl [ku8]) (.v 0))), (1, (.dat ki64 (.v 1))), (2, (.dat ki64 (.v 2))), (7, (.dat ki64 (.v 4))), (8, (.dat ki64 (.v 5)))], [], 0⟩), (978, ⟨[ki64], [(0, (.dat (.sl [ku8]) (.v 0))), (1, (.dat ki64 (.v 1))), (2, (.dat ki64 (.v 2))), (7, (.dat ki64 (.v 7))), (8, (.dat ki64 (.v 5)))], [], 0⟩), (6, ⟨[kb], [(0, (.dat (.sl [ku8]) (.v 0))), (1, (.dat ki64 (.v 1))), (2, (.dat ki64 (.v 2))), (15, (.dat kb (.v 3)))], [], 0⟩)], []⟩,
 [(6, (.dat ki64 (.v 3)))], some t86, fun _ => none⟩
/-- loop.example/g00709/impl.WhoHas -/
def t87 : Tr :=
(.seq [kb]
 (.nd (.call 77 [(.v 0)] [(.sl [ku32])] [kb])
 (.nd (.pr .not [(.v 2)])
 (.ite (.v 3)
  (.out 0 [(.k (.b true))])
  (.nd (.pr (.cmp .lss .i64) [(.v 1), (.k (.i 0))])
  (.out 0 [(.v 4)])))))
(.ite (.v 2)
 (.out 1 [(.k (.b false)), (.k (.i 0)), (.k (.i 0))])
 (.nd (.call 80 [(.v 0)] [(.sl [ku32])] [(.sl [ki64, ki64])])
 (.nd (.pr (.len [ki64, ki64]) [(.v 3)])
 (.blk 2 []
  (.loop [ki64] [(.k (.i 0))]
   (.nd (.pr (.len [ki64, ki64]) [(.v 3)])
   (.nd (.pr (.cmp .lss .i64) [(.v 5), (.v 4)])
   (.ite (.v 7)
    (.blk 3 []
     (.nd (.pr (.ixc .i64) [(.v 5), (.v 6)])
     (.nd (.pr (.get [ki64, ki64] 0) [(.v 3), (.v 8)])
     (.nd (.pr (.get [ki64, ki64] 1) [(.v 3), (.v 8)])
     (.seq [kb]
      (.nd (.pr (.cmp .geq .i64) [(.v 1), (.v 9)])
      (.ite (.v 11)
       (.nd (.pr (.bin .add .i64) [(.v 9), (.v 10)])
       (.nd (.pr (.cmp .lss .i64) [(.v 1), (.v 12)])
       (.out 0 [(.v 13)])))
       (.out 0 [(.k (.b false))])))
     (.nd (.pr (.len [ki64, ki64]) [(.v 3)])
     (.ite (.v 11)
      (.out 1 [(.k (.b true)), (.v 9), (.v 10)])
      (.out 0 [])))))))
    (.nd (.pr (.len [ki64, ki64]) [(.v 3)])
    (.nd (.pr (.bin .add .i64) [(.v 5), (.k (.i 1))])
    (.out 0 [(.v 9)]))))
    (.out 2 [])))))
 (.out 1 [(.k (.b false)), (.k (.i 0)), (.k (.i 0))]))))))
def e87 : Fe := ⟨⟨66, [(.sl [ku32]), ki64], [(.agg [(.lz [ku32] (.v 0))]), (.dat ki64 (.v 1))], [], [kb, ki64, ki64], [(.agg [(.dat ki64 (.v 3)), (.dat ki64 (.v 4))]), (.dat kb (.v 2))], [(0, (.cells [(.dat ki64 (.v 3)), (.dat ki64 (.v 4))]))], 1⟩,
 ⟨[(29, ⟨[], [(4, (.ptr 0 0))], [(0, (.cells [(.dat ki64 (.k (.i 0))), (.dat ki64 (.k (.i 0)))]))], 1⟩), (58, ⟨[ki64], [(1, (.dat ki64 (.v 1))), (4, (.ptr 0 0)), (17, (.sl 1 (.k (.i 0)) (.v 6) 2)), (18, (.dat ki64 (.v 4))), (19, (.dat ki64 (.v 5)))], [(0, (.cells [(.dat ki64 (.k (.i 0))), (.dat ki64 (.k (.i 0)))])), (1, (.arr [ki64, ki64] (.v 3) (.v 6)))], 2⟩), (934, ⟨[], [(1, (.dat ki64 (.v 1))), (4, (.ptr 0 0)), (17, (.sl 1 (.k (.i 0)) (.v 8) 2)), (18, (.dat ki64 (.v 4))), (19, (.dat ki64 (.v 5)))], [(0, (.cells [(.dat ki64 (.k (.i 0))), (.dat ki64 (.k (.i 0)))])), (1, (.arr [ki64, ki64] (.v 3) (.v 8)))], 2⟩), (3737, ⟨[kb], [(1, (.dat ki64 (.v 1))), (4, (.ptr 0 0)), (7, (.ptr 1 0)), (17, (.sl 2 (.k (.i 0)) (.v 12) 2)), (18, (.dat ki64 (.v 4))), (19, (.dat ki64 (.v 5))), (35, (.dat kb (.v 11)))], [(0, (.cells [(.dat ki64 (.k (.i 0))), (.dat ki64 (.k (.i 0)))])), (1, (.cells [(.dat ki64 (.v 9)), (.dat ki64 (.v 10))])), (2, (.arr [ki64, ki64] (.v 3) (.v 12)))], 3⟩), (6, ⟨[kb], [(1, (.dat ki64 (.v 1))), (2, (.ptr 0 0)), (4, (.ptr 1 0)), (14, (.dat kb (.v 2)))], [(0, (.cells [(.lz [ku32] (.v 0))])), (1, (.cells [(.dat ki64 (.k (.i 0))), (.dat ki64 (.k (.i 0)))]))], 2⟩)], []⟩,
 [(4, (.ptr 0 0)), (5, (.dat kb (.v 2)))], some t87, fun _ => none⟩
/-- loop.example/g00709/impl.areLive -/
def t88 : Tr :=
(.seq [kb]
 (.nd (.call 69 [(.v 1), (.k (.i 0)), (.k (.i 256))] [ki64, ki64, ki64] [kb])
 (.nd (.pr .not [(.v 2)])
 (.ite (.v 3)
  (.out 0 [(.k (.b true))])
  (.nd (.pr (.len [ki64, ki64]) [(.v 0)])
  (.nd (.pr (.cmp .gtr .i64) [(.v 4), (.k (.i 300))])
  (.out 0 [(.v 5)]))))))
(.ite (.v 2)
 (.out 1 [(.k (.b false))])
 (.nd (.pr (.len [ki64, ki64]) [(.v 0)])
 (.blk 2 []
  (.loop [ki64, ki64] [(.k (.i 0)), (.k (.i 0))]
   (.nd (.pr (.cmp .lss .i64) [(.v 5), (.v 3)])
   (.ite (.v 6)
    (.blk 3 [ki64]
     (.nd (.pr (.len [ki64, ki64]) [(.v 0)])
     (.nd (.pr (.ixc .i64) [(.v 5), (.v 7)])
     (.nd (.pr (.get [ki64, ki64] 0) [(.v 0), (.v 8)])
     (.nd (.pr (.get [ki64, ki64] 1) [(.v 0), (.v 8)])
     (.seq [kb]
      (.nd (.call 69 [(.v 10), (.k (.i 1)), (.v 1)] [ki64, ki64, ki64] [kb])
      (.nd (.pr .not [(.v 11)])
      (.ite (.v 12)
       (.out 0 [(.k (.b true))])
       (.nd (.pr (.bin .sub .i64) [(.v 1), (.v 10)])
       (.nd (.call 69 [(.v 9), (.v 4), (.v 13)] [ki64, ki64, ki64] [kb])
       (.nd (.pr .not [(.v 14)])
       (.out 0 [(.v 15)])))))))
     (.ite (.v 11)
      (.out 1 [(.k (.b false))])
      (.nd (.pr (.bin .add .i64) [(.v 9), (.v 10)])
      (.out 0 [(.v 12)]))))))))
    (.nd (.pr (.bin .add .i64) [(.v 5), (.k (.i 1))])
    (.out 0 [(.v 7), (.v 8)])))
    (.out 2 []))))
 (.out 1 [(.k (.b true))])))))
def e88 : Fe := ⟨⟨116, [(.sl [ki64, ki64]), ki64], [(.lz [ki64, ki64] (.v 0)), (.dat ki64 (.v 1))], [], [kb], [(.dat kb (.v 2))], [], 0⟩,
 ⟨[(61, ⟨[], [], [], 0⟩), (122, ⟨[ki64, ki64], [(1, (.dat ki64 (.v 1))), (5, (.dat ki64 (.v 4))), (16, (.lz [ki64, ki64] (.v 0))), (17, (.dat ki64 (.v 3))), (18, (.dat ki64 (.v 5)))], [], 0⟩), (1958, ⟨[ki64], [(1, (.dat ki64 (.v 1))), (5, (.dat ki64 (.v 7))), (16, (.lz [ki64, ki64] (.v 0))), (17, (.dat ki64 (.v 3))), (18, (.dat ki64 (.v 5)))], [], 0⟩), (15666, ⟨[kb], [(1, (.dat ki64 (.v 1))), (7, (.ptr 0 0)), (16, (.lz [ki64, ki64] (.v 0))), (17, (.dat ki64 (.v 3))), (18, (.dat ki64 (.v 5))), (37, (.dat kb (.v 11)))], [(0, (.cells [(.dat ki64 (.v 9)), (.dat ki64 (.v 10))]))], 1⟩), (6, ⟨[kb], [(0, (.lz [ki64, ki64] (.v 0))), (1, (.dat ki64 (.v 1))), (15, (.dat kb (.v 2)))], [], 0⟩)], []⟩,
 [(4, (.dat kb (.v 2)))], some t88, fun _ => none⟩
/-- loop.example/g00709/impl.LiveOk -/
def t89 : Tr :=
(.nd (.call 88 [(.v 0), (.v 1)] [(.sl [ki64, ki64]), ki64] [kb])
(.out 1 [(.v 2)]))
def e89 : Fe := ⟨⟨67, [(.sl [ki64, ki64]), ki64], [(.lz [ki64, ki64] (.v 0)), (.dat ki64 (.v 1))], [], [kb], [(.dat kb (.v 2))], [], 0⟩,
 ⟨[], []⟩,
 [(4, (.dat kb (.v 2)))], some t89, fun _ => none⟩
/-- loop.example/g00709/impl.LiveSum -/
def t90 : Tr :=
(.nd (.call 88 [(.v 0), (.v 1)] [(.sl [ki64, ki64]), ki64] [kb])
(.nd (.pr .not [(.v 2)])
(.ite (.v 3)
 (.out 1 [(.k (.i (-1)))])
 (.nd (.pr (.len [ki64, ki64]) [(.v 0)])
 (.blk 2 [ki64]
  (.loop [ki64, ki64] [(.k (.i 0)), (.k (.i 0))]
   (.nd (.pr (.cmp .lss .i64) [(.v 6), (.v 4)])
   (.ite (.v 7)
    (.blk 3 [ki64]
     (.nd (.pr (.len [ki64, ki64]) [(.v 0)])
     (.nd (.pr (.ixc .i64) [(.v 6), (.v 8)])
     (.nd (.pr (.get [ki64, ki64] 0) [(.v 0), (.v 9)])
     (.nd (.pr (.get [ki64, ki64] 1) [(.v 0), (.v 9)])
     (.nd (.pr (.bin .add .i64) [(.v 5), (.v 11)])
     (.out 0 [(.v 12)]))))))
    (.nd (.pr (.bin .add .i64) [(.v 6), (.k (.i 1))])
    (.out 0 [(.v 8), (.v 9)])))
    (.out 2 [(.v 5)]))))
 (.out 1 [(.v 5)]))))))
def e90 : Fe := ⟨⟨68, [(.sl [ki64, ki64]), ki64], [(.lz [ki64, ki64] (.v 0)), (.dat ki64 (.v 1))], [], [ki64], [(.dat ki64 (.v 2))], [], 0⟩,
 ⟨[(61, ⟨[ki64], [(5, (.dat ki64 (.v 5)))], [], 0⟩), (122, ⟨[ki64, ki64], [(5, (.dat ki64 (.v 5))), (12, (.lz [ki64, ki64] (.v 0))), (13, (.dat ki64 (.v 4))), (14, (.dat ki64 (.v 6)))], [], 0⟩), (1958, ⟨[ki64], [(5, (.dat ki64 (.v 8))), (12, (.lz [ki64, ki64] (.v 0))), (13, (.dat ki64 (.v 4))), (14, (.dat ki64 (.v 6)))], [], 0⟩)], []⟩,
 [(4, (.dat ki64 (.v 2)))], some t90, fun _ => none⟩
/-- loop.example/g00709/laws.FnAudit -/
def t91 : Tr :=
(.nd (.call 0 [(.v 0)] [(.sl [ku8])] [kb])
(.ite (.v 1)
 (.out 1 [(.k (.b true))])
 (.nd (.call 68 [(.v 0)] [(.sl [ku8])] [(.sl [ku32]), (.sl [ki64, (.sl [ki64]), (.sl [ki64]), ku32, ki64, ki64, ki64, ku32])])
 (.nd (.pr (.len [ku32]) [(.v 2)])
 (.nd (.pr (.len [ki64, (.sl [ki64]), (.sl [ki64]), ku32, ki64, ki64, ki64, ku32]) [(.v 3)])
 (.nd (.call 81 [(.v 2)] [(.sl [ku32])] [kb, (.sl [ki64, ki64])])
 (.nd (.pr (.len [ki64, ki64]) [(.v 7)])
 (.nd (.call 82 [(.v 2)] [(.sl [ku32])] [kb, (.sl [ki64, ki64])])
 (.nd (.pr (.len [ki64, ki64]) [(.v 10)])
 (.seq [kb]
  (.nd (.pr .eqb [(.v 6), (.v 9)])
  (.nd (.pr .not [(.v 12)])
  (.ite (.v 13)
   (.out 0 [(.k (.b true))])
   (.nd (.call 83 [(.v 7), (.v 10)] [(.sl [ki64, ki64]), (.sl [ki64, ki64])] [kb])
   (.nd (.pr .not [(.v 14)])
   (.ite (.v 15)
    (.out 0 [(.k (.b true))])
    (.nd (.call 85 [(.v 2), (.v 3)] [(.sl [ku32]), (.sl [ki64, (.sl [ki64]), (.sl [ki64]), ku32, ki64, ki64, ki64, ku32])] [kb])
    (.nd (.pr .not [(.v 16)])
    (.out 0 [(.v 17)])))))))))
 (.nd (.pr (.len [ki64, ki64]) [(.v 7)])
 (.nd (.pr (.len [ki64, ki64]) [(.v 10)])
 (.nd (.pr (.len [ku32]) [(.v 2)])
 (.nd (.pr (.len [ki64, (.sl [ki64]), (.sl [ki64]), ku32, ki64, ki64, ki64, ku32]) [(.v 3)])
 (.ite (.v 12)
  (.seq [kb]
   (.nd (.pr .eqb [(.v 6), (.v 9)])
   (.ite (.v 17)
    (.nd (.call 83 [(.v 7), (.v 10)] [(.sl [ki64, ki64]), (.sl [ki64, ki64])] [kb])
    (.out 0 [(.v 18)]))
    (.out 0 [(.k (.b false))])))
  (.out 1 [(.v 17)]))
  (.nd (.pr (.bin .mul .i64) [(.k (.i 16)), (.v 15)])
  (.blk 2 [ki64]
   (.loop [ki64, ki64] [(.k (.i 0)), (.k (.i 0))]
    (.nd (.pr (.len [ki64, ki64]) [(.v 7)])
    (.nd (.pr (.len [ku32]) [(.v 2)])
    (.nd (.pr (.len [ki64, (.sl [ki64]), (.sl [ki64]), ku32, ki64, ki64, ki64, ku32]) [(.v 3)])
    (.nd (.pr (.cmp .lss .i64) [(.v 19), (.v 20)])
    (.ite (.v 23)
     (.blk 3 [ki64]
      (.nd (.pr (.ixc .i64) [(.v 19), (.v 20)])
      (.nd (.pr (.get [ki64, ki64] 1) [(.v 7), (.v 24)])
      (.nd (.pr (.bin .add .i64) [(.v 18), (.v 25)])
      (.nd (.pr (.ixc .i64) [(.v 19), (.v 20)])
      (.nd (.pr (.get [ki64, ki64] 0) [(.v 7), (.v 27)])
      (.nd (.pr (.ixc .i64) [(.v 19), (.v 20)])
      (.nd (.pr (.get [ki64, ki64] 1) [(.v 7), (.v 29)])
      (.nd (.call 86 [(.v 0), (.v 19), (.v 30)] [(.sl [ku8]), ki64, ki64] [ki64])
      (.nd (.pr (.bin .add .i64) [(.v 28), (.v 31)])
      (.nd (.call 87 [(.v 2), (.v 32)] [(.sl [ku32]), ki64] [kb, ki64, ki64])
      (.seq [kb]
       (.nd (.pr .not [(.v 33)])
       (.ite (.v 36)
        (.out 0 [(.k (.b true))])
        (.nd (.pr (.ixc .i64) [(.v 19), (.v 20)])
        (.nd (.pr (.get [ki64, ki64] 0) [(.v 7), (.v 37)])
        (.nd (.pr (.get [ki64, ki64] 1) [(.v 7), (.v 37)])
        (.nd (.pr (.cmp .eql .i64) [(.v 34), (.v 38)])
        (.nd (.pr .and [(.k (.b true)), (.v 40)])
        (.nd (.pr (.cmp .eql .i64) [(.v 35), (.v 39)])
        (.nd (.pr .and [(.v 41), (.v 42)])
        (.nd (.pr .not [(.v 43)])
        (.out 0 [(.v 44)])))))))))))
      (.nd (.pr (.len [ki64, ki64]) [(.v 7)])
      (.nd (.pr (.len [ku32]) [(.v 2)])
      (.nd (.pr (.len [ki64, (.sl [ki64]), (.sl [ki64]), ku32, ki64, ki64, ki64, ku32]) [(.v 3)])
      (.ite (.v 36)
       (.out 1 [(.k (.b false))])
       (.out 0 [(.v 26)]))))))))))))))))
     (.nd (.pr (.len [ki64, ki64]) [(.v 7)])
     (.nd (.pr (.len [ku32]) [(.v 2)])
     (.nd (.pr (.len [ki64, (.sl [ki64]), (.sl [ki64]), ku32, ki64, ki64, ki64, ku32]) [(.v 3)])
     (.nd (.pr (.bin .add .i64) [(.v 19), (.k (.i 1))])
     (.out 0 [(.v 24), (.v 28)]))))))
     (.out 2 [(.v 18)])))))))
  (.nd (.pr (.len [ki64, ki64]) [(.v 7)])
  (.seq [kb]
   (.nd (.call 89 [(.v 7), (.v 17)] [(.sl [ki64, ki64]), ki64] [kb])
   (.ite (.v 20)
    (.nd (.call 90 [(.v 7), (.v 17)] [(.sl [ki64, ki64]), ki64] [ki64])
    (.nd (.pr (.cmp .eql .i64) [(.v 21), (.v 18)])
    (.out 0 [(.v 22)])))
    (.out 0 [(.k (.b false))])))
  (.out 1 [(.v 20)]))))))))))))))))))))
def e91 : Fe := ⟨⟨12, [(.sl [ku8])], [(.dat (.sl [ku8]) (.v 0))], [], [kb], [(.dat kb (.v 1))], [], 0⟩,
 ⟨[(1023, ⟨[kb], [(2, (.dat kb (.v 20)))], [], 0⟩), (2045, ⟨[ki64], [(4, (.sl 0 (.k (.i 0)) (.v 19) 2)), (8, (.dat ki64 (.v 17))), (9, (.dat ki64 (.v 18)))], [(0, (.arr [ki64, ki64] (.v 7) (.v 19)))], 1⟩), (4090, ⟨[ki64, ki64], [(0, (.dat (.sl [ku8]) (.v 0))), (3, (.ptr 0 0)), (4, (.sl 1 (.k (.i 0)) (.v 20) 2)), (8, (.dat ki64 (.v 17))), (9, (.dat ki64 (.v 18))), (10, (.dat ki64 (.v 19)))], [(0, (.cells [(.sl 2 (.k (.i 0)) (.v 21) 1), (.sl 3 (.k (.i 0)) (.v 22) 8)])), (1, (.arr [ki64, ki64] (.v 7) (.v 20))), (2, (.arr [ku32] (.v 2) (.v 21))), (3, (.arr [ki64, (.sl [ki64]), (.sl [ki64]), ku32, ki64, ki64, ki64, ku32] (.v 3) (.v 22)))], 4⟩), (32722, ⟨[ki64], [(0, (.dat (.sl [ku8]) (.v 0))), (3, (.ptr 0 0)), (4, (.sl 1 (.k (.i 0)) (.v 25) 2)), (8, (.dat ki64 (.v 17))), (9, (.dat ki64 (.v 24))), (10, (.dat ki64 (.v 19)))], [(0, (.cells [(.sl 2 (.k (.i 0)) (.v 26) 1), (.sl 3 (.k (.i 0)) (.v 27) 8)])), (1, (.arr [ki64, ki64] (.v 7) (.v 25))), (2, (.arr [ku32] (.v 2) (.v 26))), (3, (.arr [ki64, (.sl [ki64]), (.sl [ki64]), ku32, ki64, ki64, ki64, ku32] (.v 3) (.v 27)))], 4⟩), (261779, ⟨[kb], [(0, (.dat (.sl [ku8]) (.v 0))), (3, (.ptr 0 0)), (4, (.sl 1 (.k (.i 0)) (.v 37) 2)), (8, (.dat ki64 (.v 17))), (9, (.dat ki64 (.v 26))), (10, (.dat ki64 (.v 19))), (98, (.dat kb (.v 36)))], [(0, (.cells [(.sl 2 (.k (.i 0)) (.v 38) 1), (.sl 3 (.k (.i 0)) (.v 39) 8)])), (1, (.arr [ki64, ki64] (.v 7) (.v 37))), (2, (.arr [ku32] (.v 2) (.v 38))), (3, (.arr [ki64, (.sl [ki64]), (.sl [ki64]), ku32, ki64, ki64, ki64, ku32] (.v 3) (.v 39)))], 4⟩), (506, ⟨[kb], [(2, (.dat kb (.v 17)))], [], 0⟩), (126, ⟨[kb], [(0, (.dat (.sl [ku8]) (.v 0))), (3, (.ptr 0 0)), (4, (.sl 1 (.k (.i 0)) (.v 13) 2)), (5, (.dat kb (.v 6))), (6, (.sl 2 (.k (.i 0)) (.v 14) 2)), (7, (.dat kb (.v 9))), (42, (.dat kb (.v 12)))], [(0, (.cells [(.sl 3 (.k (.i 0)) (.v 15) 1), (.sl 4 (.k (.i 0)) (.v 16) 8)])), (1, (.arr [ki64, ki64] (.v 7) (.v 13))), (2, (.arr [ki64, ki64] (.v 10) (.v 14))), (3, (.arr [ku32] (.v 2) (.v 15))), (4, (.arr [ki64, (.sl [ki64]), (.sl [ki64]), ku32, ki64, ki64, ki64, ku32] (.v 3) (.v 16)))], 5⟩)], []⟩,
 [(2, (.dat kb (.v 1)))], some t91, fun _ => none⟩
def fes : List Fe := [e0, e1, e2, e3, e4, e5, e6, e7, e8, e9, e10, e11, e12, e13, e14, e15, e16, e17, e18, e19, e20, e21, e22, e23, e24, e25, e26, e27, e28, e29, e30, e31, e32, e33, e34, e35, e36, e37, e38, e39, e40, e41, e42, e43, e44, e45, e46, e47, e48, e49, e50, e51, e52, e53, e54, e55, e56, e57, e58, e59, e60, e61, e62, e63, e64, e65, e66, e67, e68, e69, e70, e71, e72, e73, e74, e75, e76, e77, e78, e79, e80, e81, e82, e83, e84, e85, e86, e87, e88, e89, e90, e91]
theorem tabOk : TabOk Try.prog tab := tabB_ok (by kernel_rfl)
theorem ok0 : e0.ok Try.prog tab (sigsOf fes) (kindsOf fes) = true := by kernel_rfl
theorem ok1 : e1.ok Try.prog tab (sigsOf fes) (kindsOf fes) = true := by kernel_rfl
theorem ok2 : e2.ok Try.prog tab (sigsOf fes) (kindsOf fes) = true := by kernel_rfl
theorem ok3 : e3.ok Try.prog tab (sigsOf fes) (kindsOf fes) = true := by kernel_rfl
theorem ok4 : e4.ok Try.prog tab (sigsOf fes) (kindsOf fes) = true := by kernel_rfl
theorem ok5 : e5.ok Try.prog tab (sigsOf fes) (kindsOf fes) = true := by kernel_rfl
theorem ok6 : e6.ok Try.prog tab (sigsOf fes) (kindsOf fes) = true := by kernel_rfl
theorem ok7 : e7.ok Try.prog tab (sigsOf fes) (kindsOf fes) = true := by kernel_rfl
theorem ok8 : e8.ok Try.prog tab (sigsOf fes) (kindsOf fes) = true := by kernel_rfl
theorem ok9 : e9.ok Try.prog tab (sigsOf fes) (kindsOf fes) = true := by kernel_rfl
theorem ok10 : e10.ok Try.prog tab (sigsOf fes) (kindsOf fes) = true := by kernel_rfl
theorem ok11 : e11.ok Try.prog tab (sigsOf fes) (kindsOf fes) = true := by kernel_rfl
theorem ok12 : e12.ok Try.prog tab (sigsOf fes) (kindsOf fes) = true := by kernel_rfl
theorem ok13 : e13.ok Try.prog tab (sigsOf fes) (kindsOf fes) = true := by kernel_rfl
theorem ok14 : e14.ok Try.prog tab (sigsOf fes) (kindsOf fes) = true := by kernel_rfl
theorem ok15 : e15.ok Try.prog tab (sigsOf fes) (kindsOf fes) = true := by kernel_rfl
theorem ok16 : e16.ok Try.prog tab (sigsOf fes) (kindsOf fes) = true := by kernel_rfl
theorem ok17 : e17.ok Try.prog tab (sigsOf fes) (kindsOf fes) = true := by kernel_rfl
theorem ok18 : e18.ok Try.prog tab (sigsOf fes) (kindsOf fes) = true := by kernel_rfl
theorem ok19 : e19.ok Try.prog tab (sigsOf fes) (kindsOf fes) = true := by kernel_rfl
theorem ok20 : e20.ok Try.prog tab (sigsOf fes) (kindsOf fes) = true := by kernel_rfl
theorem ok21 : e21.ok Try.prog tab (sigsOf fes) (kindsOf fes) = true := by kernel_rfl
theorem ok22 : e22.ok Try.prog tab (sigsOf fes) (kindsOf fes) = true := by kernel_rfl
theorem ok23 : e23.ok Try.prog tab (sigsOf fes) (kindsOf fes) = true := by kernel_rfl
theorem ok24 : e24.ok Try.prog tab (sigsOf fes) (kindsOf fes) = true := by kernel_rfl
theorem ok25 : e25.ok Try.prog tab (sigsOf fes) (kindsOf fes) = true := by kernel_rfl
theorem ok26 : e26.ok Try.prog tab (sigsOf fes) (kindsOf fes) = true := by kernel_rfl
theorem ok27 : e27.ok Try.prog tab (sigsOf fes) (kindsOf fes) = true := by kernel_rfl
theorem ok28 : e28.ok Try.prog tab (sigsOf fes) (kindsOf fes) = true := by kernel_rfl
theorem ok29 : e29.ok Try.prog tab (sigsOf fes) (kindsOf fes) = true := by kernel_rfl
theorem ok30 : e30.ok Try.prog tab (sigsOf fes) (kindsOf fes) = true := by kernel_rfl
theorem ok31 : e31.ok Try.prog tab (sigsOf fes) (kindsOf fes) = true := by kernel_rfl
theorem ok32 : e32.ok Try.prog tab (sigsOf fes) (kindsOf fes) = true := by kernel_rfl
theorem ok33 : e33.ok Try.prog tab (sigsOf fes) (kindsOf fes) = true := by kernel_rfl
theorem ok34 : e34.ok Try.prog tab (sigsOf fes) (kindsOf fes) = true := by kernel_rfl
theorem ok35 : e35.ok Try.prog tab (sigsOf fes) (kindsOf fes) = true := by kernel_rfl
theorem ok36 : e36.ok Try.prog tab (sigsOf fes) (kindsOf fes) = true := by kernel_rfl
theorem ok37 : e37.ok Try.prog tab (sigsOf fes) (kindsOf fes) = true := by kernel_rfl
theorem ok38 : e38.ok Try.prog tab (sigsOf fes) (kindsOf fes) = true := by kernel_rfl
theorem ok39 : e39.ok Try.prog tab (sigsOf fes) (kindsOf fes) = true := by kernel_rfl
theorem ok40 : e40.ok Try.prog tab (sigsOf fes) (kindsOf fes) = true := by kernel_rfl
theorem ok41 : e41.ok Try.prog tab (sigsOf fes) (kindsOf fes) = true := by kernel_rfl
theorem ok42 : e42.ok Try.prog tab (sigsOf fes) (kindsOf fes) = true := by kernel_rfl
theorem ok43 : e43.ok Try.prog tab (sigsOf fes) (kindsOf fes) = true := by kernel_rfl
theorem ok44 : e44.ok Try.prog tab (sigsOf fes) (kindsOf fes) = true := by kernel_rfl
theorem ok45 : e45.ok Try.prog tab (sigsOf fes) (kindsOf fes) = true := by kernel_rfl
theorem ok46 : e46.ok Try.prog tab (sigsOf fes) (kindsOf fes) = true := by kernel_rfl
theorem ok47 : e47.ok Try.prog tab (sigsOf fes) (kindsOf fes) = true := by kernel_rfl
theorem ok48 : e48.ok Try.prog tab (sigsOf fes) (kindsOf fes) = true := by kernel_rfl
theorem ok49 : e49.ok Try.prog tab (sigsOf fes) (kindsOf fes) = true := by kernel_rfl
theorem ok50 : e50.ok Try.prog tab (sigsOf fes) (kindsOf fes) = true := by kernel_rfl
theorem ok51 : e51.ok Try.prog tab (sigsOf fes) (kindsOf fes) = true := by kernel_rfl
theorem ok52 : e52.ok Try.prog tab (sigsOf fes) (kindsOf fes) = true := by kernel_rfl
theorem ok53 : e53.ok Try.prog tab (sigsOf fes) (kindsOf fes) = true := by kernel_rfl
theorem ok54 : e54.ok Try.prog tab (sigsOf fes) (kindsOf fes) = true := by kernel_rfl
theorem ok55 : e55.ok Try.prog tab (sigsOf fes) (kindsOf fes) = true := by kernel_rfl
theorem ok56 : e56.ok Try.prog tab (sigsOf fes) (kindsOf fes) = true := by kernel_rfl
theorem ok57 : e57.ok Try.prog tab (sigsOf fes) (kindsOf fes) = true := by kernel_rfl
theorem ok58 : e58.ok Try.prog tab (sigsOf fes) (kindsOf fes) = true := by kernel_rfl
theorem ok59 : e59.ok Try.prog tab (sigsOf fes) (kindsOf fes) = true := by kernel_rfl
theorem ok60 : e60.ok Try.prog tab (sigsOf fes) (kindsOf fes) = true := by kernel_rfl
theorem ok61 : e61.ok Try.prog tab (sigsOf fes) (kindsOf fes) = true := by kernel_rfl
theorem ok62 : e62.ok Try.prog tab (sigsOf fes) (kindsOf fes) = true := by kernel_rfl
theorem ok63 : e63.ok Try.prog tab (sigsOf fes) (kindsOf fes) = true := by kernel_rfl
theorem ok64 : e64.ok Try.prog tab (sigsOf fes) (kindsOf fes) = true := by kernel_rfl
theorem ok65 : e65.ok Try.prog tab (sigsOf fes) (kindsOf fes) = true := by kernel_rfl
theorem ok66 : e66.ok Try.prog tab (sigsOf fes) (kindsOf fes) = true := by kernel_rfl
theorem ok67 : e67.ok Try.prog tab (sigsOf fes) (kindsOf fes) = true := by kernel_rfl
theorem ok68 : e68.ok Try.prog tab (sigsOf fes) (kindsOf fes) = true := by kernel_rfl
theorem ok69 : e69.ok Try.prog tab (sigsOf fes) (kindsOf fes) = true := by kernel_rfl
theorem ok70 : e70.ok Try.prog tab (sigsOf fes) (kindsOf fes) = true := by kernel_rfl
theorem ok71 : e71.ok Try.prog tab (sigsOf fes) (kindsOf fes) = true := by kernel_rfl
theorem ok72 : e72.ok Try.prog tab (sigsOf fes) (kindsOf fes) = true := by kernel_rfl
theorem ok73 : e73.ok Try.prog tab (sigsOf fes) (kindsOf fes) = true := by kernel_rfl
theorem ok74 : e74.ok Try.prog tab (sigsOf fes) (kindsOf fes) = true := by kernel_rfl
theorem ok75 : e75.ok Try.prog tab (sigsOf fes) (kindsOf fes) = true := by kernel_rfl
theorem ok76 : e76.ok Try.prog tab (sigsOf fes) (kindsOf fes) = true := by kernel_rfl
theorem ok77 : e77.ok Try.prog tab (sigsOf fes) (kindsOf fes) = true := by kernel_rfl
theorem ok78 : e78.ok Try.prog tab (sigsOf fes) (kindsOf fes) = true := by kernel_rfl
theorem ok79 : e79.ok Try.prog tab (sigsOf fes) (kindsOf fes) = true := by kernel_rfl
theorem ok80 : e80.ok Try.prog tab (sigsOf fes) (kindsOf fes) = true := by kernel_rfl
theorem ok81 : e81.ok Try.prog tab (sigsOf fes) (kindsOf fes) = true := by kernel_rfl
theorem ok82 : e82.ok Try.prog tab (sigsOf fes) (kindsOf fes) = true := by kernel_rfl
theorem ok83 : e83.ok Try.prog tab (sigsOf fes) (kindsOf fes) = true := by kernel_rfl
theorem ok84 : e84.ok Try.prog tab (sigsOf fes) (kindsOf fes) = true := by kernel_rfl
theorem ok85 : e85.ok Try.prog tab (sigsOf fes) (kindsOf fes) = true := by kernel_rfl
theorem ok86 : e86.ok Try.prog tab (sigsOf fes) (kindsOf fes) = true := by kernel_rfl
theorem ok87 : e87.ok Try.prog tab (sigsOf fes) (kindsOf fes) = true := by kernel_rfl
theorem ok88 : e88.ok Try.prog tab (sigsOf fes) (kindsOf fes) = true := by kernel_rfl
theorem ok89 : e89.ok Try.prog tab (sigsOf fes) (kindsOf fes) = true := by kernel_rfl
theorem ok90 : e90.ok Try.prog tab (sigsOf fes) (kindsOf fes) = true := by kernel_rfl
theorem ok91 : e91.ok Try.prog tab (sigsOf fes) (kindsOf fes) = true := by kernel_rfl
theorem fesOk : FeL Try.prog tab fes 0 fes := ⟨ok0, ok1, ok2, ok3, ok4, ok5, ok6, ok7, ok8, ok9, ok10, ok11, ok12, ok13, ok14, ok15, ok16, ok17, ok18, ok19, ok20, ok21, ok22, ok23, ok24, ok25, ok26, ok27, ok28, ok29, ok30, ok31, ok32, ok33, ok34, ok35, ok36, ok37, ok38, ok39, ok40, ok41, ok42, ok43, ok44, ok45, ok46, ok47, ok48, ok49, ok50, ok51, ok52, ok53, ok54, ok55, ok56, ok57, ok58, ok59, ok60, ok61, ok62, ok63, ok64, ok65, ok66, ok67, ok68, ok69, ok70, ok71, ok72, ok73, ok74, ok75, ok76, ok77, ok78, ok79, ok80, ok81, ok82, ok83, ok84, ok85, ok86, ok87, ok88, ok89, ok90, ok91, trivial⟩
end Go.Proofs.Ytbacblphkppigaa.Audit
