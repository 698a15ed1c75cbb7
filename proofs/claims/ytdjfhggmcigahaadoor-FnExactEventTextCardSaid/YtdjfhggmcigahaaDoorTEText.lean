/- What the functions behind FnExactEventText compute, as trees; that they do is checked by the kernel. Printed by bench/Bench.lean. -/
import Derived.Test.YtdjfhggmcigahaaDoorB33
import Derived.Test.YtdjfhggmcigahaaDoorPR
import Derived.Test.YtdjfhggmcigahaaDoorProg
set_option maxRecDepth 100000
set_option linter.unusedVariables false
namespace Go.Proofs.YtdjfhggmcigahaaDoor.EText
open Go.BH
def tab : TyTab := [(3, ⟨1, 8, false, (.int .i64), [(.int .i64 (0))], [ki64], false⟩),
 (4, ⟨1, 1, false, .bool, [(.bool false)], [kb], false⟩),
 (5, ⟨1, 1, false, (.int .u8), [(.int .u8 (0))], [ku8], false⟩),
 (9, ⟨1, 16, false, .str, [(.string ⟨#[]⟩)], [ks], false⟩),
 (28, ⟨1, 24, false, (.slice 3), [(.slice none 0 0)], [(.sl [ki64])], false⟩),
 (30, ⟨2, 32, true, (.struct [(3, 0), (28, 1)]), [(.int .i64 (0)), (.slice none 0 0)], [ki64, (.sl [ki64])], false⟩),
 (32, ⟨5, 56, true, (.struct [(3, 0), (3, 1), (3, 2), (30, 3)]), [(.int .i64 (0)), (.int .i64 (0)), (.int .i64 (0)), (.int .i64 (0)), (.slice none 0 0)], [ki64, ki64, ki64, ki64, (.sl [ki64])], false⟩),
 (35, ⟨2, 32, true, (.struct [(3, 0), (28, 1)]), [(.int .i64 (0)), (.slice none 0 0)], [ki64, (.sl [ki64])], false⟩),
 (37, ⟨5, 56, true, (.struct [(3, 0), (3, 1), (3, 2), (35, 3)]), [(.int .i64 (0)), (.int .i64 (0)), (.int .i64 (0)), (.int .i64 (0)), (.slice none 0 0)], [ki64, ki64, ki64, ki64, (.sl [ki64])], false⟩),
 (45, ⟨1, 24, false, (.slice 5), [(.slice none 0 0)], [(.sl [ku8])], false⟩),
 (52, ⟨1, 24, false, (.slice 9), [(.slice none 0 0)], [(.sl [ks])], false⟩),
 (68, ⟨1, 8, false, .other, [(.pointer none)], [], false⟩),
 (70, ⟨2, 32, true, (.struct [(68, 0), (45, 1)]), [(.pointer none), (.slice none 0 0)], [], false⟩),
 (90, ⟨1, 8, false, .other, [.nilFunc], [], false⟩)]
/-- loop.example/g00709/laws.szIntS -/
def t0 : Tr :=
(.nd (.pr (.len [ki64]) [(.v 0)])
(.nd (.pr (.bin .sub .i64) [(.v 1), (.v 2)])
(.nd (.pr (.cmp .lss .i64) [(.v 3), (.k (.i 0))])
(.ite (.v 4)
 (.out 1 [(.k (.i (-1)))])
 (.out 1 [(.v 3)])))))
def e0 : Fe := ⟨⟨48, [(.sl [ki64]), ki64], [(.lz [ki64] (.v 0)), (.dat ki64 (.v 1))], [], [ki64], [(.dat ki64 (.v 2))], [], 0⟩,
 ⟨[], []⟩,
 [(4, (.dat ki64 (.v 2)))], some t0, fun _ => none⟩
/-- loop.example/g00709/laws.szReq -/
def t1 : Tr :=
(.nd (.call 0 [(.v 1), (.v 2)] [(.sl [ki64]), ki64] [ki64])
(.nd (.pr (.cmp .lss .i64) [(.v 3), (.k (.i 0))])
(.ite (.v 4)
 (.out 1 [(.k (.i (-1)))])
 (.out 1 [(.v 3)]))))
def e1 : Fe := ⟨⟨29, [ki64, (.sl [ki64]), ki64], [(.agg [(.dat ki64 (.v 0)), (.lz [ki64] (.v 1))]), (.dat ki64 (.v 2))], [], [ki64], [(.dat ki64 (.v 3))], [], 0⟩,
 ⟨[], []⟩,
 [(4, (.dat ki64 (.v 3)))], some t1, fun _ => none⟩
/-- loop.example/g00709/laws.szEvent -/
def t2 : Tr :=
(.nd (.call 1 [(.v 3), (.v 4), (.v 5)] [ki64, (.sl [ki64]), ki64] [ki64])
(.nd (.pr (.cmp .lss .i64) [(.v 6), (.k (.i 0))])
(.ite (.v 7)
 (.out 1 [(.k (.i (-1)))])
 (.out 1 [(.v 6)]))))
def e2 : Fe := ⟨⟨10, [ki64, ki64, ki64, ki64, (.sl [ki64]), ki64], [(.agg [(.dat ki64 (.v 0)), (.dat ki64 (.v 1)), (.dat ki64 (.v 2)), (.dat ki64 (.v 3)), (.lz [ki64] (.v 4))]), (.dat ki64 (.v 5))], [], [ki64], [(.dat ki64 (.v 6))], [], 0⟩,
 ⟨[], []⟩,
 [(4, (.dat ki64 (.v 6)))], some t2, fun _ => none⟩
/-- loop.example/g00709/laws.toIntS -/
def t3 : Tr :=
(.nd (.pr (.len [ki64]) [(.v 0)])
(.nd (.pr (.mkz [ki64] .i64 8 [(.i 0)]) [(.v 1)])
(.nd (.pr (.len [ki64]) [(.v 2)])
(.blk 2 [(.sl [ki64])]
 (.loop [ki64, (.sl [ki64])] [(.k (.i 0)), (.v 2)]
  (.nd (.pr (.len [ki64]) [(.v 5)])
  (.nd (.pr (.len [ki64]) [(.v 0)])
  (.nd (.pr (.cmp .lss .i64) [(.v 4), (.v 7)])
  (.ite (.v 8)
   (.blk 3 [(.sl [ki64])]
    (.nd (.pr (.len [ki64]) [(.v 0)])
    (.nd (.pr (.ixc .i64) [(.v 4), (.v 9)])
    (.nd (.pr (.get [ki64] 0) [(.v 0), (.v 10)])
    (.nd (.pr (.ixc .i64) [(.v 4), (.v 6)])
    (.nd (.pr (.set [ki64] 0) [(.v 5), (.v 12), (.v 11)])
    (.out 0 [(.v 13)]))))))
   (.nd (.pr (.len [ki64]) [(.v 9)])
   (.nd (.pr (.bin .add .i64) [(.v 4), (.k (.i 1))])
   (.out 0 [(.v 11), (.v 9)]))))
   (.out 2 [(.v 5)]))))))
(.nd (.pr (.len [ki64]) [(.v 4)])
(.out 1 [(.v 4)]))))))
def e3 : Fe := ⟨⟨49, [(.sl [ki64])], [(.lz [ki64] (.v 0))], [], [(.sl [ki64])], [(.sl 0 (.k (.i 0)) (.v 2) 1)], [(0, (.arr [ki64] (.v 1) (.v 2)))], 1⟩,
 ⟨[(29, ⟨[(.sl [ki64])], [(3, (.sl 0 (.k (.i 0)) (.v 5) 1))], [(0, (.arr [ki64] (.v 4) (.v 5)))], 1⟩), (58, ⟨[ki64, (.sl [ki64])], [(0, (.lz [ki64] (.v 0))), (3, (.sl 0 (.k (.i 0)) (.v 6) 1)), (4, (.dat ki64 (.v 4)))], [(0, (.arr [ki64] (.v 5) (.v 6)))], 1⟩), (466, ⟨[(.sl [ki64])], [(0, (.lz [ki64] (.v 0))), (3, (.sl 0 (.k (.i 0)) (.v 10) 1)), (4, (.dat ki64 (.v 4)))], [(0, (.arr [ki64] (.v 9) (.v 10)))], 1⟩)], []⟩,
 [(2, (.sl 0 (.k (.i 0)) (.v 2) 1))], some t3, fun _ => none⟩
/-- loop.example/g00709/laws.toReq -/
def t4 : Tr :=
(.nd (.call 3 [(.v 1)] [(.sl [ki64])] [(.sl [ki64])])
(.nd (.pr (.len [ki64]) [(.v 2)])
(.out 1 [(.v 2)])))
def e4 : Fe := ⟨⟨30, [ki64, (.sl [ki64])], [(.agg [(.dat ki64 (.v 0)), (.lz [ki64] (.v 1))])], [], [(.sl [ki64])], [(.agg [(.dat ki64 (.v 0)), (.sl 1 (.k (.i 0)) (.v 3) 1)])], [(0, (.cells [(.dat ki64 (.v 0)), (.sl 1 (.k (.i 0)) (.v 3) 1)])), (1, (.arr [ki64] (.v 2) (.v 3)))], 2⟩,
 ⟨[], []⟩,
 [(2, (.ptr 0 0))], some t4, fun _ => none⟩
/-- loop.example/g00709/laws.toEvent -/
def t5 : Tr :=
(.nd (.call 4 [(.v 3), (.v 4)] [ki64, (.sl [ki64])] [(.sl [ki64])])
(.nd (.pr (.len [ki64]) [(.v 5)])
(.out 1 [(.v 5)])))
def e5 : Fe := ⟨⟨12, [ki64, ki64, ki64, ki64, (.sl [ki64])], [(.agg [(.dat ki64 (.v 0)), (.dat ki64 (.v 1)), (.dat ki64 (.v 2)), (.dat ki64 (.v 3)), (.lz [ki64] (.v 4))])], [], [(.sl [ki64])], [(.agg [(.dat ki64 (.v 0)), (.dat ki64 (.v 1)), (.dat ki64 (.v 2)), (.dat ki64 (.v 3)), (.sl 1 (.k (.i 0)) (.v 6) 1)])], [(0, (.cells [(.dat ki64 (.v 0)), (.dat ki64 (.v 1)), (.dat ki64 (.v 2)), (.dat ki64 (.v 3)), (.sl 1 (.k (.i 0)) (.v 6) 1)])), (1, (.arr [ki64] (.v 5) (.v 6)))], 2⟩,
 ⟨[], []⟩,
 [(2, (.ptr 0 0))], some t5, fun _ => none⟩
/-- loop.example/g00709/spec.ReqOk -/
def t6 : Tr :=
(.seq [kb]
 (.nd (.pr (.len [ki64]) [(.v 1)])
 (.nd (.pr (.cmp .neq .i64) [(.v 2), (.k (.i 8))])
 (.ite (.v 3)
  (.out 0 [(.k (.b true))])
  (.nd (.pr (.cmp .neq .i64) [(.v 0), (.k (.i 1))])
  (.ite (.v 4)
   (.nd (.pr (.cmp .neq .i64) [(.v 0), (.k (.i 2))])
   (.out 0 [(.v 5)]))
   (.out 0 [(.k (.b false))]))))))
(.ite (.v 2)
 (.out 1 [(.k (.b false))])
 (.blk 2 []
  (.loop [ki64] [(.k (.i 0))]
   (.nd (.pr (.len [ki64]) [(.v 1)])
   (.nd (.pr (.cmp .lss .i64) [(.v 3), (.v 4)])
   (.ite (.v 5)
    (.blk 3 []
     (.nd (.pr (.len [ki64]) [(.v 1)])
     (.nd (.pr (.ixc .i64) [(.v 3), (.v 6)])
     (.nd (.pr (.get [ki64] 0) [(.v 1), (.v 7)])
     (.seq [kb]
      (.nd (.pr (.cmp .eql .i64) [(.v 0), (.k (.i 1))])
      (.ite (.v 9)
       (.nd (.pr (.cmp .lss .i64) [(.v 8), (.k (.i 0))])
       (.ite (.v 10)
        (.out 0 [(.k (.b true))])
        (.nd (.pr (.cmp .gtr .i64) [(.v 8), (.k (.i 256))])
        (.ite (.v 11)
         (.out 0 [(.k (.b true))])
         (.nd (.pr (.cmp .eql .i64) [(.v 0), (.k (.i 2))])
         (.ite (.v 12)
          (.nd (.pr (.cmp .lss .i64) [(.v 8), (.k (.i (-1)))])
          (.ite (.v 13)
           (.out 0 [(.k (.b true))])
           (.nd (.pr (.cmp .gtr .i64) [(.v 8), (.k (.i 4095))])
           (.out 0 [(.v 14)]))))
          (.out 0 [(.k (.b false))])))))))
       (.nd (.pr (.cmp .eql .i64) [(.v 0), (.k (.i 2))])
       (.ite (.v 10)
        (.nd (.pr (.cmp .lss .i64) [(.v 8), (.k (.i (-1)))])
        (.ite (.v 11)
         (.out 0 [(.k (.b true))])
         (.nd (.pr (.cmp .gtr .i64) [(.v 8), (.k (.i 4095))])
         (.out 0 [(.v 12)]))))
        (.out 0 [(.k (.b false))])))))
     (.ite (.v 9)
      (.out 1 [(.k (.b false))])
      (.out 0 []))))))
    (.nd (.pr (.bin .add .i64) [(.v 3), (.k (.i 1))])
    (.out 0 [(.v 6)])))
    (.out 2 [])))))
 (.out 1 [(.k (.b true))]))))
def e6 : Fe := ⟨⟨42, [ki64, (.sl [ki64])], [(.agg [(.dat ki64 (.v 0)), (.lz [ki64] (.v 1))])], [], [kb], [(.dat kb (.v 2))], [], 0⟩,
 ⟨[(29, ⟨[], [], [], 0⟩), (58, ⟨[ki64], [(1, (.ptr 0 0)), (3, (.dat ki64 (.v 3)))], [(0, (.cells [(.dat ki64 (.v 0)), (.lz [ki64] (.v 1))]))], 1⟩), (466, ⟨[], [(1, (.ptr 0 0)), (3, (.dat ki64 (.v 3)))], [(0, (.cells [(.dat ki64 (.v 0)), (.lz [ki64] (.v 1))]))], 1⟩), (1865, ⟨[kb], [(1, (.ptr 0 0)), (3, (.dat ki64 (.v 3))), (54, (.dat kb (.v 9)))], [(0, (.cells [(.dat ki64 (.v 0)), (.lz [ki64] (.v 1))]))], 1⟩), (6, ⟨[kb], [(1, (.ptr 0 0)), (18, (.dat kb (.v 2)))], [(0, (.cells [(.dat ki64 (.v 0)), (.lz [ki64] (.v 1))]))], 1⟩)], []⟩,
 [(2, (.dat kb (.v 2)))], some t6, fun _ => none⟩
/-- loop.example/g00709/spec.EventOk -/
def t7 : Tr :=
(.seq [kb]
 (.nd (.pr (.cmp .eql .i64) [(.v 3), (.k (.i 0))])
 (.ite (.v 5)
  (.nd (.pr (.len [ki64]) [(.v 4)])
  (.nd (.pr (.cmp .eql .i64) [(.v 6), (.k (.i 0))])
  (.out 0 [(.v 7)])))
  (.out 0 [(.k (.b false))])))
(.seq [kb]
 (.nd (.pr (.cmp .geq .i64) [(.v 1), (.k (.i 0))])
 (.ite (.v 6)
  (.nd (.pr (.cmp .lss .i64) [(.v 1), (.k (.i 4))])
  (.out 0 [(.v 7)]))
  (.out 0 [(.k (.b false))])))
(.blk 2 []
 (.nd (.pr (.cmp .eql .i64) [(.v 0), (.k (.i 1))])
 (.ite (.v 7)
  (.seq [kb]
   (.ite (.v 6)
    (.nd (.pr (.cmp .eql .i64) [(.v 2), (.k (.i 0))])
    (.ite (.v 8)
     (.nd (.call 6 [(.v 3), (.v 4)] [ki64, (.sl [ki64])] [kb])
     (.out 0 [(.v 9)]))
     (.out 0 [(.k (.b false))])))
    (.out 0 [(.k (.b false))]))
  (.out 1 [(.v 8)]))
  (.nd (.pr (.cmp .eql .i64) [(.v 0), (.k (.i 2))])
  (.ite (.v 8)
   (.seq [kb]
    (.ite (.v 6)
     (.nd (.pr (.cmp .eql .i64) [(.v 2), (.k (.i 0))])
     (.ite (.v 9)
      (.out 0 [(.v 5)])
      (.out 0 [(.k (.b false))])))
     (.out 0 [(.k (.b false))]))
   (.out 1 [(.v 9)]))
   (.nd (.pr (.cmp .eql .i64) [(.v 0), (.k (.i 3))])
   (.ite (.v 9)
    (.seq [kb]
     (.nd (.pr (.cmp .eql .i64) [(.v 1), (.k (.i 0))])
     (.ite (.v 10)
      (.nd (.pr (.cmp .geq .i64) [(.v 2), (.k (.i 1))])
      (.ite (.v 11)
       (.nd (.pr (.cmp .leq .i64) [(.v 2), (.k (.i 16))])
       (.ite (.v 12)
        (.out 0 [(.v 5)])
        (.out 0 [(.k (.b false))])))
       (.out 0 [(.k (.b false))])))
      (.out 0 [(.k (.b false))])))
    (.out 1 [(.v 10)]))
    (.out 0 [])))))))
(.out 1 [(.k (.b false))]))))
def e7 : Fe := ⟨⟨22, [ki64, ki64, ki64, ki64, (.sl [ki64])], [(.agg [(.dat ki64 (.v 0)), (.dat ki64 (.v 1)), (.dat ki64 (.v 2)), (.dat ki64 (.v 3)), (.lz [ki64] (.v 4))])], [], [kb], [(.dat kb (.v 5))], [], 0⟩,
 ⟨[(61, ⟨[], [], [], 0⟩), (7870, ⟨[kb], [(2, (.dat kb (.v 10)))], [], 0⟩), (1966, ⟨[kb], [(2, (.dat kb (.v 9)))], [], 0⟩), (490, ⟨[kb], [(2, (.dat kb (.v 8)))], [], 0⟩), (7, ⟨[kb], [(1, (.ptr 0 0)), (3, (.dat kb (.v 5))), (4, (.dat kb (.v 6)))], [(0, (.cells [(.dat ki64 (.v 0)), (.dat ki64 (.v 1)), (.dat ki64 (.v 2)), (.dat ki64 (.v 3)), (.lz [ki64] (.v 4))]))], 1⟩), (3, ⟨[kb], [(1, (.ptr 0 0)), (3, (.dat kb (.v 5)))], [(0, (.cells [(.dat ki64 (.v 0)), (.dat ki64 (.v 1)), (.dat ki64 (.v 2)), (.dat ki64 (.v 3)), (.lz [ki64] (.v 4))]))], 1⟩)], []⟩,
 [(2, (.dat kb (.v 5)))], some t7, fun _ => none⟩
/-- loop.example/g00709/spec.l15Num -/
def t8 : Tr :=
(.nd (.pr (.cmp .eql .i64) [(.v 0), (.k (.i 0))])
(.ite (.v 1)
 (.out 1 [(.k (.s ⟨#[48]⟩))])
 (.blk 2 [(.sl [ku8])]
  (.loop [ki64, (.sl [ku8])] [(.v 0), (.k (.l []))]
   (.nd (.pr (.len [ku8]) [(.v 3)])
   (.nd (.pr (.cmp .neq .i64) [(.v 2), (.k (.i 0))])
   (.ite (.v 5)
    (.blk 3 [(.sl [ku8])]
     (.nd (.pr (.bin .rem .i64) [(.v 2), (.k (.i 10))])
     (.seq [ki64]
      (.nd (.pr (.cmp .lss .i64) [(.v 6), (.k (.i 0))])
      (.ite (.v 7)
       (.nd (.pr (.neg .i64) [(.v 6)])
       (.out 0 [(.v 8)]))
       (.out 0 [(.v 6)])))
     (.nd (.pr (.len [ku8]) [(.v 3)])
     (.nd (.pr (.bin .add .i64) [(.k (.i 48)), (.v 7)])
     (.nd (.pr (.conv .i64 .u8) [(.v 9)])
     (.nd (.pr (.mk [ku8] 1) [(.v 10)])
     (.nd (.pr (.app [ku8] 1) [(.v 11), (.v 3)])
     (.nd (.pr (.len [ku8]) [(.v 12)])
     (.out 0 [(.v 12)])))))))))
    (.nd (.pr (.len [ku8]) [(.v 6)])
    (.nd (.pr (.bin .quo .i64) [(.v 2), (.k (.i 10))])
    (.out 0 [(.v 8), (.v 6)]))))
    (.out 2 [(.v 3)])))))
 (.nd (.pr (.len [ku8]) [(.v 2)])
 (.seq [(.sl [ku8])]
  (.nd (.pr (.cmp .lss .i64) [(.v 0), (.k (.i 0))])
  (.ite (.v 4)
   (.nd (.pr (.mk [ku8] 1) [(.k (.i 45))])
   (.nd (.pr (.app [ku8] 1) [(.v 5), (.v 2)])
   (.nd (.pr (.len [ku8]) [(.v 6)])
   (.out 0 [(.v 6)]))))
   (.out 0 [(.v 2)])))
 (.nd (.pr (.len [ku8]) [(.v 4)])
 (.nd (.pr .bstr [(.v 4)])
 (.out 1 [(.v 6)]))))))))
def e8 : Fe := ⟨⟨26, [ki64], [(.dat ki64 (.v 0))], [], [ks], [(.dat ks (.v 1))], [], 0⟩,
 ⟨[(31, ⟨[(.sl [ku8])], [(3, (.sl 0 (.k (.i 0)) (.v 5) 1))], [(0, (.arr [ku8] (.v 4) (.v 5)))], 1⟩), (61, ⟨[(.sl [ku8])], [(0, (.dat ki64 (.v 0))), (3, (.sl 0 (.k (.i 0)) (.v 3) 1))], [(0, (.arr [ku8] (.v 2) (.v 3)))], 1⟩), (122, ⟨[ki64, (.sl [ku8])], [(0, (.dat ki64 (.v 0))), (3, (.sl 0 (.k (.i 0)) (.v 4) 1)), (4, (.dat ki64 (.v 2)))], [(0, (.arr [ku8] (.v 3) (.v 4)))], 1⟩), (978, ⟨[(.sl [ku8])], [(0, (.dat ki64 (.v 0))), (3, (.sl 0 (.k (.i 0)) (.v 7) 1)), (4, (.dat ki64 (.v 2)))], [(0, (.arr [ku8] (.v 6) (.v 7)))], 1⟩), (3913, ⟨[ki64], [(0, (.dat ki64 (.v 0))), (3, (.sl 0 (.k (.i 0)) (.v 8) 1)), (4, (.dat ki64 (.v 2))), (5, (.dat ki64 (.v 7)))], [(0, (.arr [ku8] (.v 3) (.v 8)))], 1⟩)], []⟩,
 [(2, (.dat ks (.v 1)))], some t8, fun _ => none⟩
/-- loop.example/g00709/spec.EventText -/
def t9 : Tr :=
(.nd (.call 7 [(.v 0), (.v 1), (.v 2), (.v 3), (.v 4)] [ki64, ki64, ki64, ki64, (.sl [ki64])] [kb])
(.nd (.pr .not [(.v 5)])
(.ite (.v 6)
 (.out 1 [(.k (.s ⟨#[]⟩))])
 (.blk 2 []
  (.nd (.pr (.cmp .eql .i64) [(.v 0), (.k (.i 3))])
  (.ite (.v 7)
   (.nd (.call 8 [(.v 2)] [ki64] [ks])
   (.nd (.pr .cat [(.k (.s ⟨#[103, 114, 111, 119, 32]⟩)), (.v 8)])
   (.out 1 [(.v 9)])))
   (.nd (.pr (.cmp .eql .i64) [(.v 0), (.k (.i 2))])
   (.ite (.v 8)
    (.nd (.call 8 [(.v 1)] [ki64] [ks])
    (.nd (.pr .cat [(.k (.s ⟨#[112, 105, 99, 107, 32]⟩)), (.v 9)])
    (.out 1 [(.v 10)])))
    (.out 0 [])))))
 (.nd (.pr (.bin .sub .i64) [(.v 3), (.k (.i 1))])
 (.nd (.pr (.mk [ks] 2) [(.k (.s ⟨#[116, 97, 107, 101, 32]⟩)), (.k (.s ⟨#[103, 105, 118, 101, 32]⟩))])
 (.nd (.pr (.ixc .i64) [(.v 7), (.k (.i 2))])
 (.nd (.pr (.get [ks] 0) [(.v 8), (.v 9)])
 (.nd (.call 8 [(.v 1)] [ki64] [ks])
 (.nd (.pr .cat [(.v 10), (.v 11)])
 (.blk 3 [ks]
  (.loop [ks, ki64] [(.v 12), (.k (.i 0))]
   (.nd (.pr (.len [ki64]) [(.v 4)])
   (.nd (.pr (.cmp .lss .i64) [(.v 14), (.v 15)])
   (.ite (.v 16)
    (.blk 4 [ks]
     (.nd (.pr .cat [(.v 13), (.k (.s ⟨#[32]⟩))])
     (.nd (.pr (.len [ki64]) [(.v 4)])
     (.nd (.pr (.ixc .i64) [(.v 14), (.v 18)])
     (.nd (.pr (.get [ki64] 0) [(.v 4), (.v 19)])
     (.nd (.call 8 [(.v 20)] [ki64] [ks])
     (.nd (.pr .cat [(.v 17), (.v 21)])
     (.out 0 [(.v 22)])))))))
    (.nd (.pr (.bin .add .i64) [(.v 14), (.k (.i 1))])
    (.out 0 [(.v 17), (.v 18)])))
    (.out 3 [(.v 13)])))))
 (.out 1 [(.v 13)]))))))))))))
def e9 : Fe := ⟨⟨11, [ki64, ki64, ki64, ki64, (.sl [ki64])], [(.agg [(.dat ki64 (.v 0)), (.dat ki64 (.v 1)), (.dat ki64 (.v 2)), (.dat ki64 (.v 3)), (.lz [ki64] (.v 4))])], [], [ks], [(.dat ks (.v 5))], [], 0⟩,
 ⟨[(125, ⟨[ks], [(3, (.dat ks (.v 13)))], [], 0⟩), (250, ⟨[ks, ki64], [(1, (.ptr 0 0)), (3, (.dat ks (.v 13))), (4, (.dat ki64 (.v 14)))], [(0, (.cells [(.dat ki64 (.v 0)), (.dat ki64 (.v 1)), (.dat ki64 (.v 2)), (.dat ki64 (.v 3)), (.lz [ki64] (.v 4))]))], 1⟩), (2002, ⟨[ks], [(1, (.ptr 0 0)), (3, (.dat ks (.v 17))), (4, (.dat ki64 (.v 14)))], [(0, (.cells [(.dat ki64 (.v 0)), (.dat ki64 (.v 1)), (.dat ki64 (.v 2)), (.dat ki64 (.v 3)), (.lz [ki64] (.v 4))]))], 1⟩), (29, ⟨[], [(1, (.ptr 0 0))], [(0, (.cells [(.dat ki64 (.v 0)), (.dat ki64 (.v 1)), (.dat ki64 (.v 2)), (.dat ki64 (.v 3)), (.lz [ki64] (.v 4))]))], 1⟩)], []⟩,
 [(2, (.dat ks (.v 5)))], some t9, fun _ => none⟩
/-- loop.example/g00709/impl.within -/
def t10 : Tr :=
(.seq [kb]
 (.nd (.pr (.cmp .geq .i64) [(.v 0), (.v 1)])
 (.ite (.v 3)
  (.nd (.pr (.cmp .leq .i64) [(.v 0), (.v 2)])
  (.out 0 [(.v 4)]))
  (.out 0 [(.k (.b false))])))
(.out 1 [(.v 3)]))
def e10 : Fe := ⟨⟨27, [ki64, ki64, ki64], [(.dat ki64 (.v 0)), (.dat ki64 (.v 1)), (.dat ki64 (.v 2))], [], [kb], [(.dat kb (.v 3))], [], 0⟩,
 ⟨[(3, ⟨[kb], [(6, (.dat kb (.v 3)))], [], 0⟩)], []⟩,
 [(6, (.dat kb (.v 3)))], some t10, fun _ => none⟩
/-- loop.example/g00709/impl.isReq$1 -/
def t11 : Tr :=
(.nd (.call 10 [(.v 0), (.k (.i 0)), (.k (.i 256))] [ki64, ki64, ki64] [kb])
(.nd (.pr .not [(.v 1)])
(.out 1 [(.v 2)])))
def e11 : Fe := ⟨⟨66, [ki64], [(.dat ki64 (.v 0))], [], [kb], [(.dat kb (.v 1))], [], 0⟩,
 ⟨[], []⟩,
 [(2, (.dat kb (.v 1)))], some t11, fun _ => none⟩
/-- loop.example/g00709/impl.isReq$2 -/
def t12 : Tr :=
(.nd (.call 10 [(.v 0), (.k (.i (-1))), (.k (.i 4095))] [ki64, ki64, ki64] [kb])
(.nd (.pr .not [(.v 1)])
(.out 1 [(.v 2)])))
def e12 : Fe := ⟨⟨67, [ki64], [(.dat ki64 (.v 0))], [], [kb], [(.dat kb (.v 1))], [], 0⟩,
 ⟨[], []⟩,
 [(2, (.dat kb (.v 1)))], some t12, fun _ => none⟩
/-- slices.IndexFunc[[]int,int] -/
def t13 : Tr :=
(.nd (.pr (.len [ki64]) [(.v 0)])
(.blk 2 []
 (.loop [ki64] [(.k (.i 0))]
  (.nd (.pr (.cmp .lss .i64) [(.v 2), (.v 1)])
  (.ite (.v 3)
   (.blk 3 []
    (.nd (.pr (.len [ki64]) [(.v 0)])
    (.nd (.pr (.ixc .i64) [(.v 2), (.v 4)])
    (.nd (.pr (.get [ki64] 0) [(.v 0), (.v 5)])
    (.nd (.call 11 [(.v 6)] [ki64] [kb])
    (.ite (.v 7)
     (.out 1 [(.v 2)])
     (.out 0 []))))))
   (.nd (.pr (.bin .add .i64) [(.v 2), (.k (.i 1))])
   (.out 0 [(.v 4)])))
   (.out 2 []))))
(.out 1 [(.k (.i (-1)))])))
def e13 : Fe := ⟨⟨75, [(.sl [ki64])], [(.lz [ki64] (.v 0)), (.fn 66 [])], [], [ki64], [(.dat ki64 (.v 1))], [], 0⟩,
 ⟨[(13, ⟨[], [], [], 0⟩), (26, ⟨[ki64], [(0, (.lz [ki64] (.v 0))), (1, (.fn 66 [])), (7, (.dat ki64 (.v 1))), (8, (.dat ki64 (.v 2)))], [], 0⟩), (422, ⟨[], [(0, (.lz [ki64] (.v 0))), (1, (.fn 66 [])), (7, (.dat ki64 (.v 1))), (8, (.dat ki64 (.v 2)))], [], 0⟩)], []⟩,
 [(4, (.dat ki64 (.v 1)))], some t13, fun _ => none⟩
/-- slices.IndexFunc[[]int,int] -/
def t14 : Tr :=
(.nd (.pr (.len [ki64]) [(.v 0)])
(.blk 2 []
 (.loop [ki64] [(.k (.i 0))]
  (.nd (.pr (.cmp .lss .i64) [(.v 2), (.v 1)])
  (.ite (.v 3)
   (.blk 3 []
    (.nd (.pr (.len [ki64]) [(.v 0)])
    (.nd (.pr (.ixc .i64) [(.v 2), (.v 4)])
    (.nd (.pr (.get [ki64] 0) [(.v 0), (.v 5)])
    (.nd (.call 12 [(.v 6)] [ki64] [kb])
    (.ite (.v 7)
     (.out 1 [(.v 2)])
     (.out 0 []))))))
   (.nd (.pr (.bin .add .i64) [(.v 2), (.k (.i 1))])
   (.out 0 [(.v 4)])))
   (.out 2 []))))
(.out 1 [(.k (.i (-1)))])))
def e14 : Fe := ⟨⟨75, [(.sl [ki64])], [(.lz [ki64] (.v 0)), (.fn 67 [])], [], [ki64], [(.dat ki64 (.v 1))], [], 0⟩,
 ⟨[(13, ⟨[], [], [], 0⟩), (26, ⟨[ki64], [(0, (.lz [ki64] (.v 0))), (1, (.fn 67 [])), (7, (.dat ki64 (.v 1))), (8, (.dat ki64 (.v 2)))], [], 0⟩), (422, ⟨[], [(0, (.lz [ki64] (.v 0))), (1, (.fn 67 [])), (7, (.dat ki64 (.v 1))), (8, (.dat ki64 (.v 2)))], [], 0⟩)], []⟩,
 [(4, (.dat ki64 (.v 1)))], some t14, fun _ => none⟩
/-- slices.ContainsFunc[[]int,int] -/
def t15 : Tr :=
(.nd (.call 13 [(.v 0)] [(.sl [ki64])] [ki64])
(.nd (.pr (.cmp .geq .i64) [(.v 1), (.k (.i 0))])
(.out 1 [(.v 2)])))
def e15 : Fe := ⟨⟨65, [(.sl [ki64])], [(.lz [ki64] (.v 0)), (.fn 66 [])], [], [kb], [(.dat kb (.v 1))], [], 0⟩,
 ⟨[], []⟩,
 [(4, (.dat kb (.v 1)))], some t15, fun _ => none⟩
/-- slices.ContainsFunc[[]int,int] -/
def t16 : Tr :=
(.nd (.call 14 [(.v 0)] [(.sl [ki64])] [ki64])
(.nd (.pr (.cmp .geq .i64) [(.v 1), (.k (.i 0))])
(.out 1 [(.v 2)])))
def e16 : Fe := ⟨⟨65, [(.sl [ki64])], [(.lz [ki64] (.v 0)), (.fn 67 [])], [], [kb], [(.dat kb (.v 1))], [], 0⟩,
 ⟨[], []⟩,
 [(4, (.dat kb (.v 1)))], some t16, fun _ => none⟩
/-- loop.example/g00709/impl.isReq -/
def t17 : Tr :=
(.nd (.pr (.len [ki64]) [(.v 1)])
(.nd (.pr (.cmp .neq .i64) [(.v 2), (.k (.i 8))])
(.ite (.v 3)
 (.out 1 [(.k (.b false))])
 (.blk 2 []
  (.nd (.pr (.cmp .eql .i64) [(.v 0), (.k (.i 1))])
  (.ite (.v 4)
   (.nd (.call 15 [(.v 1)] [(.sl [ki64])] [kb])
   (.nd (.pr .not [(.v 5)])
   (.out 1 [(.v 6)])))
   (.nd (.pr (.cmp .eql .i64) [(.v 0), (.k (.i 2))])
   (.ite (.v 5)
    (.nd (.call 16 [(.v 1)] [(.sl [ki64])] [kb])
    (.nd (.pr .not [(.v 6)])
    (.out 1 [(.v 7)])))
    (.out 0 [])))))
 (.out 1 [(.k (.b false))])))))
def e17 : Fe := ⟨⟨50, [ki64, (.sl [ki64])], [(.agg [(.dat ki64 (.v 0)), (.lz [ki64] (.v 1))])], [], [kb], [(.dat kb (.v 2))], [], 0⟩,
 ⟨[(29, ⟨[], [], [], 0⟩)], []⟩,
 [(2, (.dat kb (.v 2)))], some t17, fun _ => none⟩
/-- loop.example/g00709/impl.isEvent -/
def t18 : Tr :=
(.seq [kb]
 (.nd (.pr (.cmp .eql .i64) [(.v 3), (.k (.i 0))])
 (.ite (.v 5)
  (.nd (.pr (.len [ki64]) [(.v 4)])
  (.nd (.pr (.cmp .eql .i64) [(.v 6), (.k (.i 0))])
  (.out 0 [(.v 7)])))
  (.out 0 [(.k (.b false))])))
(.blk 2 []
 (.nd (.pr (.cmp .eql .i64) [(.v 0), (.k (.i 1))])
 (.ite (.v 6)
  (.seq [kb]
   (.nd (.call 10 [(.v 1), (.k (.i 0)), (.k (.i 3))] [ki64, ki64, ki64] [kb])
   (.ite (.v 7)
    (.nd (.pr (.cmp .eql .i64) [(.v 2), (.k (.i 0))])
    (.ite (.v 8)
     (.nd (.call 17 [(.v 3), (.v 4)] [ki64, (.sl [ki64])] [kb])
     (.out 0 [(.v 9)]))
     (.out 0 [(.k (.b false))])))
    (.out 0 [(.k (.b false))])))
  (.out 1 [(.v 7)]))
  (.nd (.pr (.cmp .eql .i64) [(.v 0), (.k (.i 2))])
  (.ite (.v 7)
   (.seq [kb]
    (.nd (.call 10 [(.v 1), (.k (.i 0)), (.k (.i 3))] [ki64, ki64, ki64] [kb])
    (.ite (.v 8)
     (.nd (.pr (.cmp .eql .i64) [(.v 2), (.k (.i 0))])
     (.ite (.v 9)
      (.out 0 [(.v 5)])
      (.out 0 [(.k (.b false))])))
     (.out 0 [(.k (.b false))])))
   (.out 1 [(.v 8)]))
   (.nd (.pr (.cmp .eql .i64) [(.v 0), (.k (.i 3))])
   (.ite (.v 8)
    (.seq [kb]
     (.nd (.pr (.cmp .eql .i64) [(.v 1), (.k (.i 0))])
     (.ite (.v 9)
      (.nd (.call 10 [(.v 2), (.k (.i 1)), (.k (.i 16))] [ki64, ki64, ki64] [kb])
      (.ite (.v 10)
       (.out 0 [(.v 5)])
       (.out 0 [(.k (.b false))])))
      (.out 0 [(.k (.b false))])))
    (.out 1 [(.v 9)]))
    (.out 0 [])))))))
(.out 1 [(.k (.b false))])))
def e18 : Fe := ⟨⟨31, [ki64, ki64, ki64, ki64, (.sl [ki64])], [(.agg [(.dat ki64 (.v 0)), (.dat ki64 (.v 1)), (.dat ki64 (.v 2)), (.dat ki64 (.v 3)), (.lz [ki64] (.v 4))])], [], [kb], [(.dat kb (.v 5))], [], 0⟩,
 ⟨[(29, ⟨[], [], [], 0⟩), (3774, ⟨[kb], [(2, (.dat kb (.v 9)))], [], 0⟩), (942, ⟨[kb], [(2, (.dat kb (.v 8)))], [], 0⟩), (234, ⟨[kb], [(2, (.dat kb (.v 7)))], [], 0⟩), (3, ⟨[kb], [(1, (.ptr 0 0)), (3, (.dat kb (.v 5)))], [(0, (.cells [(.dat ki64 (.v 0)), (.dat ki64 (.v 1)), (.dat ki64 (.v 2)), (.dat ki64 (.v 3)), (.lz [ki64] (.v 4))]))], 1⟩)], []⟩,
 [(2, (.dat kb (.v 5)))], some t18, fun _ => none⟩
/-- loop.example/g00709/impl.words -/
def t19 : Tr := .out 0 []
def e19 : Fe := ⟨⟨28, [ks, (.sl [ki64])], [(.dat ks (.v 0)), (.lz [ki64] (.v 1))], [], [ks], [(.dat ks (.v 2))], [], 0⟩,
 ⟨[], []⟩,
 [], none, prim28⟩
/-- loop.example/g00709/impl.eventText -/
def t20 : Tr :=
(.blk 2 []
 (.nd (.pr (.cmp .eql .i64) [(.v 0), (.k (.i 2))])
 (.ite (.v 5)
  (.nd (.pr (.mk [ki64] 1) [(.v 1)])
  (.nd (.call 19 [(.k (.s ⟨#[112, 105, 99, 107]⟩)), (.v 6)] [ks, (.sl [ki64])] [ks])
  (.out 1 [(.v 7)])))
  (.nd (.pr (.cmp .eql .i64) [(.v 0), (.k (.i 3))])
  (.ite (.v 6)
   (.nd (.pr (.mk [ki64] 1) [(.v 2)])
   (.nd (.call 19 [(.k (.s ⟨#[103, 114, 111, 119]⟩)), (.v 7)] [ks, (.sl [ki64])] [ks])
   (.out 1 [(.v 8)])))
   (.nd (.pr (.cmp .eql .i64) [(.v 3), (.k (.i 1))])
   (.ite (.v 7)
    (.nd (.pr (.mk [ki64] 1) [(.v 1)])
    (.nd (.call 19 [(.k (.s ⟨#[116, 97, 107, 101]⟩)), (.v 8)] [ks, (.sl [ki64])] [ks])
    (.nd (.call 19 [(.v 9), (.v 4)] [ks, (.sl [ki64])] [ks])
    (.out 1 [(.v 10)]))))
    (.out 0 [])))))))
(.nd (.pr (.mk [ki64] 1) [(.v 1)])
(.nd (.call 19 [(.k (.s ⟨#[103, 105, 118, 101]⟩)), (.v 5)] [ks, (.sl [ki64])] [ks])
(.nd (.call 19 [(.v 6), (.v 4)] [ks, (.sl [ki64])] [ks])
(.out 1 [(.v 7)])))))
def e20 : Fe := ⟨⟨32, [ki64, ki64, ki64, ki64, (.sl [ki64])], [(.agg [(.dat ki64 (.v 0)), (.dat ki64 (.v 1)), (.dat ki64 (.v 2)), (.dat ki64 (.v 3)), (.lz [ki64] (.v 4))])], [], [ks], [(.dat ks (.v 5))], [], 0⟩,
 ⟨[(6, ⟨[], [(1, (.ptr 0 0))], [(0, (.cells [(.dat ki64 (.v 0)), (.dat ki64 (.v 1)), (.dat ki64 (.v 2)), (.dat ki64 (.v 3)), (.lz [ki64] (.v 4))]))], 1⟩)], []⟩,
 [(2, (.dat ks (.v 5)))], some t20, fun _ => none⟩
/-- loop.example/g00709/impl.EventText -/
def t21 : Tr :=
(.nd (.call 18 [(.v 0), (.v 1), (.v 2), (.v 3), (.v 4)] [ki64, ki64, ki64, ki64, (.sl [ki64])] [kb])
(.nd (.pr .not [(.v 5)])
(.ite (.v 6)
 (.out 1 [(.k (.s ⟨#[]⟩))])
 (.nd (.call 20 [(.v 0), (.v 1), (.v 2), (.v 3), (.v 4)] [ki64, ki64, ki64, ki64, (.sl [ki64])] [ks])
 (.out 1 [(.v 7)])))))
def e21 : Fe := ⟨⟨13, [ki64, ki64, ki64, ki64, (.sl [ki64])], [(.agg [(.dat ki64 (.v 0)), (.dat ki64 (.v 1)), (.dat ki64 (.v 2)), (.dat ki64 (.v 3)), (.lz [ki64] (.v 4))])], [], [ks], [(.dat ks (.v 5))], [], 0⟩,
 ⟨[], []⟩,
 [(2, (.dat ks (.v 5)))], some t21, fun _ => none⟩
/-- loop.example/g00709/laws.eqIntS -/
def t22 : Tr :=
(.nd (.pr (.len [ki64]) [(.v 0)])
(.nd (.pr (.len [ki64]) [(.v 1)])
(.nd (.pr (.cmp .neq .i64) [(.v 2), (.v 3)])
(.ite (.v 4)
 (.out 1 [(.k (.b false))])
 (.blk 2 []
  (.loop [ki64] [(.k (.i 0))]
   (.nd (.pr (.len [ki64]) [(.v 0)])
   (.nd (.pr (.cmp .lss .i64) [(.v 5), (.v 6)])
   (.ite (.v 7)
    (.blk 3 []
     (.nd (.pr (.len [ki64]) [(.v 0)])
     (.nd (.pr (.ixc .i64) [(.v 5), (.v 8)])
     (.nd (.pr (.get [ki64] 0) [(.v 0), (.v 9)])
     (.nd (.pr (.len [ki64]) [(.v 1)])
     (.nd (.pr (.ixc .i64) [(.v 5), (.v 11)])
     (.nd (.pr (.get [ki64] 0) [(.v 1), (.v 12)])
     (.nd (.pr (.cmp .neq .i64) [(.v 10), (.v 13)])
     (.ite (.v 14)
      (.out 1 [(.k (.b false))])
      (.out 0 [])))))))))
    (.nd (.pr (.bin .add .i64) [(.v 5), (.k (.i 1))])
    (.out 0 [(.v 8)])))
    (.out 2 [])))))
 (.out 1 [(.k (.b true))]))))))
def e22 : Fe := ⟨⟨51, [(.sl [ki64]), (.sl [ki64])], [(.lz [ki64] (.v 0)), (.lz [ki64] (.v 1))], [], [kb], [(.dat kb (.v 2))], [], 0⟩,
 ⟨[(29, ⟨[], [], [], 0⟩), (58, ⟨[ki64], [(0, (.lz [ki64] (.v 0))), (1, (.lz [ki64] (.v 1))), (5, (.dat ki64 (.v 5)))], [], 0⟩), (466, ⟨[], [(0, (.lz [ki64] (.v 0))), (1, (.lz [ki64] (.v 1))), (5, (.dat ki64 (.v 5)))], [], 0⟩)], []⟩,
 [(4, (.dat kb (.v 2)))], some t22, fun _ => none⟩
/-- loop.example/g00709/laws.eqReq -/
def t23 : Tr :=
(.nd (.pr (.cmp .neq .i64) [(.v 0), (.v 2)])
(.ite (.v 4)
 (.out 1 [(.k (.b false))])
 (.nd (.call 22 [(.v 1), (.v 3)] [(.sl [ki64]), (.sl [ki64])] [kb])
 (.nd (.pr .not [(.v 5)])
 (.ite (.v 6)
  (.out 1 [(.k (.b false))])
  (.out 1 [(.k (.b true))]))))))
def e23 : Fe := ⟨⟨33, [ki64, (.sl [ki64]), ki64, (.sl [ki64])], [(.agg [(.dat ki64 (.v 0)), (.lz [ki64] (.v 1))]), (.agg [(.dat ki64 (.v 2)), (.lz [ki64] (.v 3))])], [], [kb], [(.dat kb (.v 4))], [], 0⟩,
 ⟨[], []⟩,
 [(4, (.dat kb (.v 4)))], some t23, fun _ => none⟩
/-- loop.example/g00709/laws.eqEvent -/
def t24 : Tr :=
(.nd (.pr (.cmp .neq .i64) [(.v 0), (.v 5)])
(.ite (.v 10)
 (.out 1 [(.k (.b false))])
 (.nd (.pr (.cmp .neq .i64) [(.v 1), (.v 6)])
 (.ite (.v 11)
  (.out 1 [(.k (.b false))])
  (.nd (.pr (.cmp .neq .i64) [(.v 2), (.v 7)])
  (.ite (.v 12)
   (.out 1 [(.k (.b false))])
   (.nd (.call 23 [(.v 3), (.v 4), (.v 8), (.v 9)] [ki64, (.sl [ki64]), ki64, (.sl [ki64])] [kb])
   (.nd (.pr .not [(.v 13)])
   (.ite (.v 14)
    (.out 1 [(.k (.b false))])
    (.out 1 [(.k (.b true))]))))))))))
def e24 : Fe := ⟨⟨14, [ki64, ki64, ki64, ki64, (.sl [ki64]), ki64, ki64, ki64, ki64, (.sl [ki64])], [(.agg [(.dat ki64 (.v 0)), (.dat ki64 (.v 1)), (.dat ki64 (.v 2)), (.dat ki64 (.v 3)), (.lz [ki64] (.v 4))]), (.agg [(.dat ki64 (.v 5)), (.dat ki64 (.v 6)), (.dat ki64 (.v 7)), (.dat ki64 (.v 8)), (.lz [ki64] (.v 9))])], [], [kb], [(.dat kb (.v 10))], [], 0⟩,
 ⟨[], []⟩,
 [(4, (.dat kb (.v 10)))], some t24, fun _ => none⟩
/-- loop.example/g00709/laws.FnExactEventText -/
def t25 : Tr :=
(.nd (.call 2 [(.v 0), (.v 1), (.v 2), (.v 3), (.v 4), (.k (.i 1048576))] [ki64, ki64, ki64, ki64, (.sl [ki64]), ki64] [ki64])
(.nd (.pr (.cmp .lss .i64) [(.v 5), (.k (.i 0))])
(.ite (.v 6)
 (.out 1 [(.k (.b true))])
 (.nd (.call 5 [(.v 0), (.v 1), (.v 2), (.v 3), (.v 4)] [ki64, ki64, ki64, ki64, (.sl [ki64])] [(.sl [ki64])])
 (.nd (.pr (.len [ki64]) [(.v 7)])
 (.nd (.call 9 [(.v 0), (.v 1), (.v 2), (.v 3), (.v 7)] [ki64, ki64, ki64, ki64, (.sl [ki64])] [ks])
 (.nd (.call 5 [(.v 0), (.v 1), (.v 2), (.v 3), (.v 4)] [ki64, ki64, ki64, ki64, (.sl [ki64])] [(.sl [ki64])])
 (.nd (.pr (.len [ki64]) [(.v 10)])
 (.nd (.call 21 [(.v 0), (.v 1), (.v 2), (.v 3), (.v 10)] [ki64, ki64, ki64, ki64, (.sl [ki64])] [ks])
 (.nd (.pr (.cmpS .neq) [(.v 12), (.v 9)])
 (.ite (.v 13)
  (.out 1 [(.k (.b false))])
  (.nd (.call 5 [(.v 0), (.v 1), (.v 2), (.v 3), (.v 4)] [ki64, ki64, ki64, ki64, (.sl [ki64])] [(.sl [ki64])])
  (.nd (.pr (.len [ki64]) [(.v 14)])
  (.nd (.call 24 [(.v 0), (.v 1), (.v 2), (.v 3), (.v 10), (.v 0), (.v 1), (.v 2), (.v 3), (.v 14)] [ki64, ki64, ki64, ki64, (.sl [ki64]), ki64, ki64, ki64, ki64, (.sl [ki64])] [kb])
  (.nd (.pr .not [(.v 16)])
  (.ite (.v 17)
   (.out 1 [(.k (.b false))])
   (.out 1 [(.k (.b true))])))))))))))))))))
def e25 : Fe := ⟨⟨4, [ki64, ki64, ki64, ki64, (.sl [ki64])], [(.agg [(.dat ki64 (.v 0)), (.dat ki64 (.v 1)), (.dat ki64 (.v 2)), (.dat ki64 (.v 3)), (.lz [ki64] (.v 4))])], [], [kb], [(.dat kb (.v 5))], [], 0⟩,
 ⟨[], []⟩,
 [(2, (.dat kb (.v 5)))], some t25, fun _ => none⟩
def fes : List Fe := [e0, e1, e2, e3, e4, e5, e6, e7, e8, e9, e10, e11, e12, e13, e14, e15, e16, e17, e18, e19, e20, e21, e22, e23, e24, e25]
theorem tabOk : TabOk Tryd.prog tab := tabB_ok (by kernel_rfl)
theorem ok0 : e0.ok Tryd.prog tab (sigsOf fes) (kindsOf fes) = true := by kernel_rfl
theorem ok1 : e1.ok Tryd.prog tab (sigsOf fes) (kindsOf fes) = true := by kernel_rfl
theorem ok2 : e2.ok Tryd.prog tab (sigsOf fes) (kindsOf fes) = true := by kernel_rfl
theorem ok3 : e3.ok Tryd.prog tab (sigsOf fes) (kindsOf fes) = true := by kernel_rfl
theorem ok4 : e4.ok Tryd.prog tab (sigsOf fes) (kindsOf fes) = true := by kernel_rfl
theorem ok5 : e5.ok Tryd.prog tab (sigsOf fes) (kindsOf fes) = true := by kernel_rfl
theorem ok6 : e6.ok Tryd.prog tab (sigsOf fes) (kindsOf fes) = true := by kernel_rfl
theorem ok7 : e7.ok Tryd.prog tab (sigsOf fes) (kindsOf fes) = true := by kernel_rfl
theorem ok8 : e8.ok Tryd.prog tab (sigsOf fes) (kindsOf fes) = true := by kernel_rfl
theorem ok9 : e9.ok Tryd.prog tab (sigsOf fes) (kindsOf fes) = true := by kernel_rfl
theorem ok10 : e10.ok Tryd.prog tab (sigsOf fes) (kindsOf fes) = true := by kernel_rfl
theorem ok11 : e11.ok Tryd.prog tab (sigsOf fes) (kindsOf fes) = true := by kernel_rfl
theorem ok12 : e12.ok Tryd.prog tab (sigsOf fes) (kindsOf fes) = true := by kernel_rfl
theorem ok13 : e13.ok Tryd.prog tab (sigsOf fes) (kindsOf fes) = true := by kernel_rfl
theorem ok14 : e14.ok Tryd.prog tab (sigsOf fes) (kindsOf fes) = true := by kernel_rfl
theorem ok15 : e15.ok Tryd.prog tab (sigsOf fes) (kindsOf fes) = true := by kernel_rfl
theorem ok16 : e16.ok Tryd.prog tab (sigsOf fes) (kindsOf fes) = true := by kernel_rfl
theorem ok17 : e17.ok Tryd.prog tab (sigsOf fes) (kindsOf fes) = true := by kernel_rfl
theorem ok18 : e18.ok Tryd.prog tab (sigsOf fes) (kindsOf fes) = true := by kernel_rfl
theorem ok19 : FeOk Tryd.prog tab fes 19 e19 := prim28_ok 19
theorem ok20 : e20.ok Tryd.prog tab (sigsOf fes) (kindsOf fes) = true := by kernel_rfl
theorem ok21 : e21.ok Tryd.prog tab (sigsOf fes) (kindsOf fes) = true := by kernel_rfl
theorem ok22 : e22.ok Tryd.prog tab (sigsOf fes) (kindsOf fes) = true := by kernel_rfl
theorem ok23 : e23.ok Tryd.prog tab (sigsOf fes) (kindsOf fes) = true := by kernel_rfl
theorem ok24 : e24.ok Tryd.prog tab (sigsOf fes) (kindsOf fes) = true := by kernel_rfl
theorem ok25 : e25.ok Tryd.prog tab (sigsOf fes) (kindsOf fes) = true := by kernel_rfl
theorem fesOk : FeL Tryd.prog tab fes 0 fes := ⟨ok0, ok1, ok2, ok3, ok4, ok5, ok6, ok7, ok8, ok9, ok10, ok11, ok12, ok13, ok14, ok15, ok16, ok17, ok18, ok19, ok20, ok21, ok22, ok23, ok24, ok25, trivial⟩
end Go.Proofs.YtdjfhggmcigahaaDoor.EText
