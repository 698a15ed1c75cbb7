/- What the functions behind FnExactEventTextRead compute, as trees; that they do is checked by the kernel. Printed by bench/Bench.lean. -/
import Derived.Test.YtdjfhggmcigahaaDoorB33
import Derived.Test.YtdjfhggmcigahaaDoorPR
import Derived.Test.YtdjfhggmcigahaaDoorProg
set_option maxRecDepth 100000
set_option linter.unusedVariables false
namespace Go.Proofs.YtdjfhggmcigahaaDoor.ERText
open Go.BH
def tab : TyTab := [(3, ⟨1, 8, false, (.int .i64), [(.int .i64 (0))], [ki64], false⟩),
 (4, ⟨1, 1, false, .bool, [(.bool false)], [kb], false⟩),
 (5, ⟨1, 1, false, (.int .u8), [(.int .u8 (0))], [ku8], false⟩),
 (9, ⟨1, 16, false, .str, [(.string ⟨#[]⟩)], [ks], false⟩),
 (28, ⟨1, 24, false, (.slice 3), [(.slice none 0 0)], [(.sl [ki64])], false⟩),
 (35, ⟨2, 32, true, (.struct [(3, 0), (28, 1)]), [(.int .i64 (0)), (.slice none 0 0)], [ki64, (.sl [ki64])], false⟩),
 (37, ⟨5, 56, true, (.struct [(3, 0), (3, 1), (3, 2), (35, 3)]), [(.int .i64 (0)), (.int .i64 (0)), (.int .i64 (0)), (.int .i64 (0)), (.slice none 0 0)], [ki64, ki64, ki64, ki64, (.sl [ki64])], false⟩),
 (45, ⟨1, 24, false, (.slice 5), [(.slice none 0 0)], [(.sl [ku8])], false⟩),
 (52, ⟨1, 24, false, (.slice 9), [(.slice none 0 0)], [(.sl [ks])], false⟩),
 (68, ⟨1, 8, false, .other, [(.pointer none)], [], false⟩),
 (70, ⟨2, 32, true, (.struct [(68, 0), (45, 1)]), [(.pointer none), (.slice none 0 0)], [], false⟩),
 (72, ⟨1, 16, false, .iface, [.nilIface], [], false⟩),
 (90, ⟨1, 8, false, .other, [.nilFunc], [], false⟩)]
/-- loop.example/g00709/spec.l15Cut -/
def t0 : Tr :=
(.blk 2 [ki64, (.sl [ks])]
 (.loop [ki64, ki64, (.sl [ks])] [(.k (.i 0)), (.k (.i 0)), (.k (.l []))]
  (.nd (.pr (.len [ks]) [(.v 4)])
  (.nd (.pr .lenS [(.v 0)])
  (.nd (.pr (.cmp .lss .i64) [(.v 3), (.v 6)])
  (.ite (.v 7)
   (.blk 3 [ki64, (.sl [ks])]
    (.nd (.pr (.idxS .i64) [(.v 0), (.v 3)])
    (.nd (.pr (.cmp .eql .u8) [(.v 8), (.v 1)])
    (.ite (.v 9)
     (.nd (.pr .lenS [(.v 0)])
     (.nd (.pr (.cutS .i64 .i64) [(.v 0), (.v 2), (.v 3)])
     (.nd (.pr (.mk [ks] 1) [(.v 11)])
     (.nd (.pr (.app [ks] 16) [(.v 4), (.v 12)])
     (.nd (.pr (.len [ks]) [(.v 13)])
     (.nd (.pr (.bin .add .i64) [(.v 3), (.k (.i 1))])
     (.out 0 [(.v 15), (.v 13)])))))))
     (.out 0 [(.v 2), (.v 4)]))))
   (.nd (.pr (.len [ks]) [(.v 9)])
   (.nd (.pr (.bin .add .i64) [(.v 3), (.k (.i 1))])
   (.out 0 [(.v 8), (.v 11), (.v 9)]))))
   (.out 2 [(.v 2), (.v 4)]))))))
(.nd (.pr (.len [ks]) [(.v 3)])
(.nd (.pr .lenS [(.v 0)])
(.nd (.pr (.cutS .i64 .i64) [(.v 0), (.v 2), (.v 5)])
(.nd (.pr (.mk [ks] 1) [(.v 6)])
(.nd (.pr (.app [ks] 16) [(.v 3), (.v 7)])
(.nd (.pr (.len [ks]) [(.v 8)])
(.out 1 [(.v 8)]))))))))
def e0 : Fe := ⟨⟨34, [ks, ku8], [(.dat ks (.v 0)), (.dat ku8 (.v 1))], [], [(.sl [ks])], [(.sl 0 (.k (.i 0)) (.v 3) 1)], [(0, (.arr [ks] (.v 2) (.v 3)))], 1⟩,
 ⟨[(61, ⟨[ki64, (.sl [ks])], [(0, (.dat ks (.v 0))), (5, (.sl 0 (.k (.i 0)) (.v 4) 1)), (6, (.dat ki64 (.v 2)))], [(0, (.arr [ks] (.v 3) (.v 4)))], 1⟩), (122, ⟨[ki64, ki64, (.sl [ks])], [(0, (.dat ks (.v 0))), (1, (.dat ku8 (.v 1))), (5, (.sl 0 (.k (.i 0)) (.v 5) 1)), (6, (.dat ki64 (.v 2))), (7, (.dat ki64 (.v 3)))], [(0, (.arr [ks] (.v 4) (.v 5)))], 1⟩), (978, ⟨[ki64, (.sl [ks])], [(0, (.dat ks (.v 0))), (1, (.dat ku8 (.v 1))), (5, (.sl 0 (.k (.i 0)) (.v 10) 1)), (6, (.dat ki64 (.v 8))), (7, (.dat ki64 (.v 3)))], [(0, (.arr [ks] (.v 9) (.v 10)))], 1⟩)], []⟩,
 [(4, (.sl 0 (.k (.i 0)) (.v 3) 1))], some t0, fun _ => none⟩
/-- loop.example/g00709/spec.l15Value -/
def t1 : Tr :=
(.blk 2 [ki64]
 (.loop [ki64, ki64] [(.k (.i 0)), (.k (.i 0))]
  (.seq [kb]
   (.nd (.pr .lenS [(.v 0)])
   (.nd (.pr (.cmp .lss .i64) [(.v 2), (.v 3)])
   (.ite (.v 4)
    (.nd (.pr (.cmp .lss .i64) [(.v 2), (.k (.i 6))])
    (.out 0 [(.v 5)]))
    (.out 0 [(.k (.b false))]))))
  (.ite (.v 3)
   (.blk 3 [ki64]
    (.seq [kb]
     (.nd (.pr (.idxS .i64) [(.v 0), (.v 2)])
     (.nd (.pr (.cmp .geq .u8) [(.v 4), (.k (.i 48))])
     (.ite (.v 5)
      (.nd (.pr (.idxS .i64) [(.v 0), (.v 2)])
      (.nd (.pr (.cmp .leq .u8) [(.v 6), (.k (.i 57))])
      (.out 0 [(.v 7)])))
      (.out 0 [(.k (.b false))]))))
    (.ite (.v 4)
     (.nd (.pr (.bin .mul .i64) [(.k (.i 10)), (.v 1)])
     (.nd (.pr (.idxS .i64) [(.v 0), (.v 2)])
     (.nd (.pr (.bin .sub .u8) [(.v 6), (.k (.i 48))])
     (.nd (.pr (.conv .u8 .i64) [(.v 7)])
     (.nd (.pr (.bin .add .i64) [(.v 5), (.v 8)])
     (.out 0 [(.v 9)]))))))
     (.out 0 [(.v 1)])))
   (.nd (.pr (.bin .add .i64) [(.v 2), (.k (.i 1))])
   (.out 0 [(.v 4), (.v 5)])))
   (.out 2 [(.v 1)]))))
(.seq [kb]
 (.nd (.pr .lenS [(.v 0)])
 (.nd (.pr (.cmp .gtr .i64) [(.v 2), (.k (.i 0))])
 (.ite (.v 3)
  (.nd (.pr (.idxS .i64) [(.v 0), (.k (.i 0))])
  (.nd (.pr (.cmp .eql .u8) [(.v 4), (.k (.i 45))])
  (.out 0 [(.v 5)])))
  (.out 0 [(.k (.b false))]))))
(.ite (.v 2)
 (.nd (.pr (.neg .i64) [(.v 1)])
 (.out 1 [(.v 3)]))
 (.out 1 [(.v 1)]))))
def e1 : Fe := ⟨⟨35, [ks], [(.dat ks (.v 0))], [], [ki64], [(.dat ki64 (.v 1))], [], 0⟩,
 ⟨[(30, ⟨[kb], [(3, (.dat ki64 (.v 1))), (40, (.dat kb (.v 2)))], [], 0⟩), (29, ⟨[ki64], [(0, (.dat ks (.v 0))), (3, (.dat ki64 (.v 1)))], [], 0⟩), (58, ⟨[ki64, ki64], [(0, (.dat ks (.v 0))), (3, (.dat ki64 (.v 1))), (4, (.dat ki64 (.v 2)))], [], 0⟩), (466, ⟨[ki64], [(0, (.dat ks (.v 0))), (3, (.dat ki64 (.v 4))), (4, (.dat ki64 (.v 2)))], [], 0⟩), (932, ⟨[kb], [(0, (.dat ks (.v 0))), (3, (.dat ki64 (.v 1))), (4, (.dat ki64 (.v 2))), (24, (.dat kb (.v 4)))], [], 0⟩), (232, ⟨[kb], [(0, (.dat ks (.v 0))), (3, (.dat ki64 (.v 1))), (4, (.dat ki64 (.v 2))), (12, (.dat kb (.v 3)))], [], 0⟩)], []⟩,
 [(2, (.dat ki64 (.v 1)))], some t1, fun _ => none⟩
/-- loop.example/g00709/spec.ReqOk -/
def t2 : Tr :=
(.seq [kb]
 (.nd (.pr (.len [ki64]) [(.v 1)])
 (.nd (.pr (.cmp .neq .i64) [(.v 2), (.k (.i 8))])
 (.ite (.v 3)
  (.out 0 [(.k (.b true))])
  (.nd (.pr (.cmp .neq .i64) [(.v 0), (.k (.i 1))])
  (.ite (.v 4)
   (.nd (.pr (.cmp .neq .i64) [(.v 0), (.k (.i 2))])
   (.out 0 [(.v 5)]))
   (.out 0 [(.k (.b false))]))))))
(.ite (.v 2)
 (.out 1 [(.k (.b false))])
 (.blk 2 []
  (.loop [ki64] [(.k (.i 0))]
   (.nd (.pr (.len [ki64]) [(.v 1)])
   (.nd (.pr (.cmp .lss .i64) [(.v 3), (.v 4)])
   (.ite (.v 5)
    (.blk 3 []
     (.nd (.pr (.len [ki64]) [(.v 1)])
     (.nd (.pr (.ixc .i64) [(.v 3), (.v 6)])
     (.nd (.pr (.get [ki64] 0) [(.v 1), (.v 7)])
     (.seq [kb]
      (.nd (.pr (.cmp .eql .i64) [(.v 0), (.k (.i 1))])
      (.ite (.v 9)
       (.nd (.pr (.cmp .lss .i64) [(.v 8), (.k (.i 0))])
       (.ite (.v 10)
        (.out 0 [(.k (.b true))])
        (.nd (.pr (.cmp .gtr .i64) [(.v 8), (.k (.i 256))])
        (.ite (.v 11)
         (.out 0 [(.k (.b true))])
         (.nd (.pr (.cmp .eql .i64) [(.v 0), (.k (.i 2))])
         (.ite (.v 12)
          (.nd (.pr (.cmp .lss .i64) [(.v 8), (.k (.i (-1)))])
          (.ite (.v 13)
           (.out 0 [(.k (.b true))])
           (.nd (.pr (.cmp .gtr .i64) [(.v 8), (.k (.i 4095))])
           (.out 0 [(.v 14)]))))
          (.out 0 [(.k (.b false))])))))))
       (.nd (.pr (.cmp .eql .i64) [(.v 0), (.k (.i 2))])
       (.ite (.v 10)
        (.nd (.pr (.cmp .lss .i64) [(.v 8), (.k (.i (-1)))])
        (.ite (.v 11)
         (.out 0 [(.k (.b true))])
         (.nd (.pr (.cmp .gtr .i64) [(.v 8), (.k (.i 4095))])
         (.out 0 [(.v 12)]))))
        (.out 0 [(.k (.b false))])))))
     (.ite (.v 9)
      (.out 1 [(.k (.b false))])
      (.out 0 []))))))
    (.nd (.pr (.bin .add .i64) [(.v 3), (.k (.i 1))])
    (.out 0 [(.v 6)])))
    (.out 2 [])))))
 (.out 1 [(.k (.b true))]))))
def e2 : Fe := ⟨⟨42, [ki64, (.sl [ki64])], [(.agg [(.dat ki64 (.v 0)), (.lz [ki64] (.v 1))])], [], [kb], [(.dat kb (.v 2))], [], 0⟩,
 ⟨[(29, ⟨[], [], [], 0⟩), (58, ⟨[ki64], [(1, (.ptr 0 0)), (3, (.dat ki64 (.v 3)))], [(0, (.cells [(.dat ki64 (.v 0)), (.lz [ki64] (.v 1))]))], 1⟩), (466, ⟨[], [(1, (.ptr 0 0)), (3, (.dat ki64 (.v 3)))], [(0, (.cells [(.dat ki64 (.v 0)), (.lz [ki64] (.v 1))]))], 1⟩), (1865, ⟨[kb], [(1, (.ptr 0 0)), (3, (.dat ki64 (.v 3))), (54, (.dat kb (.v 9)))], [(0, (.cells [(.dat ki64 (.v 0)), (.lz [ki64] (.v 1))]))], 1⟩), (6, ⟨[kb], [(1, (.ptr 0 0)), (18, (.dat kb (.v 2)))], [(0, (.cells [(.dat ki64 (.v 0)), (.lz [ki64] (.v 1))]))], 1⟩)], []⟩,
 [(2, (.dat kb (.v 2)))], some t2, fun _ => none⟩
/-- loop.example/g00709/spec.EventOk -/
def t3 : Tr :=
(.seq [kb]
 (.nd (.pr (.cmp .eql .i64) [(.v 3), (.k (.i 0))])
 (.ite (.v 5)
  (.nd (.pr (.len [ki64]) [(.v 4)])
  (.nd (.pr (.cmp .eql .i64) [(.v 6), (.k (.i 0))])
  (.out 0 [(.v 7)])))
  (.out 0 [(.k (.b false))])))
(.seq [kb]
 (.nd (.pr (.cmp .geq .i64) [(.v 1), (.k (.i 0))])
 (.ite (.v 6)
  (.nd (.pr (.cmp .lss .i64) [(.v 1), (.k (.i 4))])
  (.out 0 [(.v 7)]))
  (.out 0 [(.k (.b false))])))
(.blk 2 []
 (.nd (.pr (.cmp .eql .i64) [(.v 0), (.k (.i 1))])
 (.ite (.v 7)
  (.seq [kb]
   (.ite (.v 6)
    (.nd (.pr (.cmp .eql .i64) [(.v 2), (.k (.i 0))])
    (.ite (.v 8)
     (.nd (.call 2 [(.v 3), (.v 4)] [ki64, (.sl [ki64])] [kb])
     (.out 0 [(.v 9)]))
     (.out 0 [(.k (.b false))])))
    (.out 0 [(.k (.b false))]))
  (.out 1 [(.v 8)]))
  (.nd (.pr (.cmp .eql .i64) [(.v 0), (.k (.i 2))])
  (.ite (.v 8)
   (.seq [kb]
    (.ite (.v 6)
     (.nd (.pr (.cmp .eql .i64) [(.v 2), (.k (.i 0))])
     (.ite (.v 9)
      (.out 0 [(.v 5)])
      (.out 0 [(.k (.b false))])))
     (.out 0 [(.k (.b false))]))
   (.out 1 [(.v 9)]))
   (.nd (.pr (.cmp .eql .i64) [(.v 0), (.k (.i 3))])
   (.ite (.v 9)
    (.seq [kb]
     (.nd (.pr (.cmp .eql .i64) [(.v 1), (.k (.i 0))])
     (.ite (.v 10)
      (.nd (.pr (.cmp .geq .i64) [(.v 2), (.k (.i 1))])
      (.ite (.v 11)
       (.nd (.pr (.cmp .leq .i64) [(.v 2), (.k (.i 16))])
       (.ite (.v 12)
        (.out 0 [(.v 5)])
        (.out 0 [(.k (.b false))])))
       (.out 0 [(.k (.b false))])))
      (.out 0 [(.k (.b false))])))
    (.out 1 [(.v 10)]))
    (.out 0 [])))))))
(.out 1 [(.k (.b false))]))))
def e3 : Fe := ⟨⟨22, [ki64, ki64, ki64, ki64, (.sl [ki64])], [(.agg [(.dat ki64 (.v 0)), (.dat ki64 (.v 1)), (.dat ki64 (.v 2)), (.dat ki64 (.v 3)), (.lz [ki64] (.v 4))])], [], [kb], [(.dat kb (.v 5))], [], 0⟩,
 ⟨[(61, ⟨[], [], [], 0⟩), (7870, ⟨[kb], [(2, (.dat kb (.v 10)))], [], 0⟩), (1966, ⟨[kb], [(2, (.dat kb (.v 9)))], [], 0⟩), (490, ⟨[kb], [(2, (.dat kb (.v 8)))], [], 0⟩), (7, ⟨[kb], [(1, (.ptr 0 0)), (3, (.dat kb (.v 5))), (4, (.dat kb (.v 6)))], [(0, (.cells [(.dat ki64 (.v 0)), (.dat ki64 (.v 1)), (.dat ki64 (.v 2)), (.dat ki64 (.v 3)), (.lz [ki64] (.v 4))]))], 1⟩), (3, ⟨[kb], [(1, (.ptr 0 0)), (3, (.dat kb (.v 5)))], [(0, (.cells [(.dat ki64 (.v 0)), (.dat ki64 (.v 1)), (.dat ki64 (.v 2)), (.dat ki64 (.v 3)), (.lz [ki64] (.v 4))]))], 1⟩)], []⟩,
 [(2, (.dat kb (.v 5)))], some t3, fun _ => none⟩
/-- loop.example/g00709/spec.l15Num -/
def t4 : Tr :=
(.nd (.pr (.cmp .eql .i64) [(.v 0), (.k (.i 0))])
(.ite (.v 1)
 (.out 1 [(.k (.s ⟨#[48]⟩))])
 (.blk 2 [(.sl [ku8])]
  (.loop [ki64, (.sl [ku8])] [(.v 0), (.k (.l []))]
   (.nd (.pr (.len [ku8]) [(.v 3)])
   (.nd (.pr (.cmp .neq .i64) [(.v 2), (.k (.i 0))])
   (.ite (.v 5)
    (.blk 3 [(.sl [ku8])]
     (.nd (.pr (.bin .rem .i64) [(.v 2), (.k (.i 10))])
     (.seq [ki64]
      (.nd (.pr (.cmp .lss .i64) [(.v 6), (.k (.i 0))])
      (.ite (.v 7)
       (.nd (.pr (.neg .i64) [(.v 6)])
       (.out 0 [(.v 8)]))
       (.out 0 [(.v 6)])))
     (.nd (.pr (.len [ku8]) [(.v 3)])
     (.nd (.pr (.bin .add .i64) [(.k (.i 48)), (.v 7)])
     (.nd (.pr (.conv .i64 .u8) [(.v 9)])
     (.nd (.pr (.mk [ku8] 1) [(.v 10)])
     (.nd (.pr (.app [ku8] 1) [(.v 11), (.v 3)])
     (.nd (.pr (.len [ku8]) [(.v 12)])
     (.out 0 [(.v 12)])))))))))
    (.nd (.pr (.len [ku8]) [(.v 6)])
    (.nd (.pr (.bin .quo .i64) [(.v 2), (.k (.i 10))])
    (.out 0 [(.v 8), (.v 6)]))))
    (.out 2 [(.v 3)])))))
 (.nd (.pr (.len [ku8]) [(.v 2)])
 (.seq [(.sl [ku8])]
  (.nd (.pr (.cmp .lss .i64) [(.v 0), (.k (.i 0))])
  (.ite (.v 4)
   (.nd (.pr (.mk [ku8] 1) [(.k (.i 45))])
   (.nd (.pr (.app [ku8] 1) [(.v 5), (.v 2)])
   (.nd (.pr (.len [ku8]) [(.v 6)])
   (.out 0 [(.v 6)]))))
   (.out 0 [(.v 2)])))
 (.nd (.pr (.len [ku8]) [(.v 4)])
 (.nd (.pr .bstr [(.v 4)])
 (.out 1 [(.v 6)]))))))))
def e4 : Fe := ⟨⟨26, [ki64], [(.dat ki64 (.v 0))], [], [ks], [(.dat ks (.v 1))], [], 0⟩,
 ⟨[(31, ⟨[(.sl [ku8])], [(3, (.sl 0 (.k (.i 0)) (.v 5) 1))], [(0, (.arr [ku8] (.v 4) (.v 5)))], 1⟩), (61, ⟨[(.sl [ku8])], [(0, (.dat ki64 (.v 0))), (3, (.sl 0 (.k (.i 0)) (.v 3) 1))], [(0, (.arr [ku8] (.v 2) (.v 3)))], 1⟩), (122, ⟨[ki64, (.sl [ku8])], [(0, (.dat ki64 (.v 0))), (3, (.sl 0 (.k (.i 0)) (.v 4) 1)), (4, (.dat ki64 (.v 2)))], [(0, (.arr [ku8] (.v 3) (.v 4)))], 1⟩), (978, ⟨[(.sl [ku8])], [(0, (.dat ki64 (.v 0))), (3, (.sl 0 (.k (.i 0)) (.v 7) 1)), (4, (.dat ki64 (.v 2)))], [(0, (.arr [ku8] (.v 6) (.v 7)))], 1⟩), (3913, ⟨[ki64], [(0, (.dat ki64 (.v 0))), (3, (.sl 0 (.k (.i 0)) (.v 8) 1)), (4, (.dat ki64 (.v 2))), (5, (.dat ki64 (.v 7)))], [(0, (.arr [ku8] (.v 3) (.v 8)))], 1⟩)], []⟩,
 [(2, (.dat ks (.v 1)))], some t4, fun _ => none⟩
/-- loop.example/g00709/spec.EventText -/
def t5 : Tr :=
(.nd (.call 3 [(.v 0), (.v 1), (.v 2), (.v 3), (.v 4)] [ki64, ki64, ki64, ki64, (.sl [ki64])] [kb])
(.nd (.pr .not [(.v 5)])
(.ite (.v 6)
 (.out 1 [(.k (.s ⟨#[]⟩))])
 (.blk 2 []
  (.nd (.pr (.cmp .eql .i64) [(.v 0), (.k (.i 3))])
  (.ite (.v 7)
   (.nd (.call 4 [(.v 2)] [ki64] [ks])
   (.nd (.pr .cat [(.k (.s ⟨#[103, 114, 111, 119, 32]⟩)), (.v 8)])
   (.out 1 [(.v 9)])))
   (.nd (.pr (.cmp .eql .i64) [(.v 0), (.k (.i 2))])
   (.ite (.v 8)
    (.nd (.call 4 [(.v 1)] [ki64] [ks])
    (.nd (.pr .cat [(.k (.s ⟨#[112, 105, 99, 107, 32]⟩)), (.v 9)])
    (.out 1 [(.v 10)])))
    (.out 0 [])))))
 (.nd (.pr (.bin .sub .i64) [(.v 3), (.k (.i 1))])
 (.nd (.pr (.mk [ks] 2) [(.k (.s ⟨#[116, 97, 107, 101, 32]⟩)), (.k (.s ⟨#[103, 105, 118, 101, 32]⟩))])
 (.nd (.pr (.ixc .i64) [(.v 7), (.k (.i 2))])
 (.nd (.pr (.get [ks] 0) [(.v 8), (.v 9)])
 (.nd (.call 4 [(.v 1)] [ki64] [ks])
 (.nd (.pr .cat [(.v 10), (.v 11)])
 (.blk 3 [ks]
  (.loop [ks, ki64] [(.v 12), (.k (.i 0))]
   (.nd (.pr (.len [ki64]) [(.v 4)])
   (.nd (.pr (.cmp .lss .i64) [(.v 14), (.v 15)])
   (.ite (.v 16)
    (.blk 4 [ks]
     (.nd (.pr .cat [(.v 13), (.k (.s ⟨#[32]⟩))])
     (.nd (.pr (.len [ki64]) [(.v 4)])
     (.nd (.pr (.ixc .i64) [(.v 14), (.v 18)])
     (.nd (.pr (.get [ki64] 0) [(.v 4), (.v 19)])
     (.nd (.call 4 [(.v 20)] [ki64] [ks])
     (.nd (.pr .cat [(.v 17), (.v 21)])
     (.out 0 [(.v 22)])))))))
    (.nd (.pr (.bin .add .i64) [(.v 14), (.k (.i 1))])
    (.out 0 [(.v 17), (.v 18)])))
    (.out 3 [(.v 13)])))))
 (.out 1 [(.v 13)]))))))))))))
def e5 : Fe := ⟨⟨11, [ki64, ki64, ki64, ki64, (.sl [ki64])], [(.agg [(.dat ki64 (.v 0)), (.dat ki64 (.v 1)), (.dat ki64 (.v 2)), (.dat ki64 (.v 3)), (.lz [ki64] (.v 4))])], [], [ks], [(.dat ks (.v 5))], [], 0⟩,
 ⟨[(125, ⟨[ks], [(3, (.dat ks (.v 13)))], [], 0⟩), (250, ⟨[ks, ki64], [(1, (.ptr 0 0)), (3, (.dat ks (.v 13))), (4, (.dat ki64 (.v 14)))], [(0, (.cells [(.dat ki64 (.v 0)), (.dat ki64 (.v 1)), (.dat ki64 (.v 2)), (.dat ki64 (.v 3)), (.lz [ki64] (.v 4))]))], 1⟩), (2002, ⟨[ks], [(1, (.ptr 0 0)), (3, (.dat ks (.v 17))), (4, (.dat ki64 (.v 14)))], [(0, (.cells [(.dat ki64 (.v 0)), (.dat ki64 (.v 1)), (.dat ki64 (.v 2)), (.dat ki64 (.v 3)), (.lz [ki64] (.v 4))]))], 1⟩), (29, ⟨[], [(1, (.ptr 0 0))], [(0, (.cells [(.dat ki64 (.v 0)), (.dat ki64 (.v 1)), (.dat ki64 (.v 2)), (.dat ki64 (.v 3)), (.lz [ki64] (.v 4))]))], 1⟩)], []⟩,
 [(2, (.dat ks (.v 5)))], some t5, fun _ => none⟩
/-- loop.example/g00709/spec.EventTextRead -/
def t6 : Tr :=
(.nd (.call 0 [(.v 0), (.k (.i 32))] [ks, ku8] [(.sl [ks])])
(.nd (.pr (.len [ks]) [(.v 1)])
(.seq [kb]
 (.nd (.pr .lenS [(.v 0)])
 (.nd (.pr (.cmp .gtr .i64) [(.v 3), (.k (.i 100))])
 (.ite (.v 4)
  (.out 0 [(.k (.b true))])
  (.nd (.pr (.cmp .lss .i64) [(.v 2), (.k (.i 2))])
  (.out 0 [(.v 5)])))))
(.nd (.pr (.len [ks]) [(.v 1)])
(.ite (.v 3)
 (.out 1 [(.k (.b false)), (.k (.i 0)), (.k (.i 0)), (.k (.i 0)), (.k (.i 0)), (.k (.l []))])
 (.nd (.pr (.ixc .i64) [(.k (.i 1)), (.v 4)])
 (.nd (.pr (.get [ks] 0) [(.v 1), (.v 5)])
 (.nd (.call 1 [(.v 6)] [ks] [ki64])
 (.nd (.pr (.ixc .i64) [(.k (.i 0)), (.v 4)])
 (.nd (.pr (.get [ks] 0) [(.v 1), (.v 8)])
 (.blk 2 [ki64, ki64, ki64, ki64, (.sl [ki64])]
  (.nd (.pr (.cmpS .eql) [(.v 9), (.k (.s ⟨#[103, 114, 111, 119]⟩))])
  (.ite (.v 10)
   (.nd (.pr (.ixc .i64) [(.k (.i 1)), (.v 4)])
   (.nd (.pr (.get [ks] 0) [(.v 1), (.v 11)])
   (.nd (.call 1 [(.v 12)] [ks] [ki64])
   (.out 0 [(.k (.i 3)), (.k (.i 0)), (.v 13), (.k (.i 0)), (.k (.l []))]))))
   (.nd (.pr (.cmpS .eql) [(.v 9), (.k (.s ⟨#[112, 105, 99, 107]⟩))])
   (.ite (.v 11)
    (.out 0 [(.k (.i 2)), (.v 7), (.k (.i 0)), (.k (.i 0)), (.k (.l []))])
    (.seq [kb]
     (.nd (.pr (.cmpS .eql) [(.v 9), (.k (.s ⟨#[116, 97, 107, 101]⟩))])
     (.ite (.v 12)
      (.out 0 [(.k (.b true))])
      (.nd (.pr (.cmpS .eql) [(.v 9), (.k (.s ⟨#[103, 105, 118, 101]⟩))])
      (.out 0 [(.v 13)]))))
    (.nd (.pr (.len [ks]) [(.v 1)])
    (.ite (.v 12)
     (.seq [ki64]
      (.nd (.pr (.ixc .i64) [(.k (.i 0)), (.v 13)])
      (.nd (.pr (.get [ks] 0) [(.v 1), (.v 14)])
      (.nd (.pr (.cmpS .eql) [(.v 15), (.k (.s ⟨#[103, 105, 118, 101]⟩))])
      (.ite (.v 16)
       (.out 0 [(.k (.i 2))])
       (.out 0 [(.k (.i 1))])))))
     (.nd (.pr (.len [ks]) [(.v 1)])
     (.blk 3 [(.sl [ki64])]
      (.loop [ki64, (.sl [ki64])] [(.k (.i 2)), (.k (.l []))]
       (.nd (.pr (.len [ks]) [(.v 1)])
       (.nd (.pr (.len [ki64]) [(.v 17)])
       (.nd (.pr (.cmp .lss .i64) [(.v 16), (.v 18)])
       (.ite (.v 20)
        (.blk 4 [(.sl [ki64])]
         (.nd (.pr (.ixc .i64) [(.v 16), (.v 18)])
         (.nd (.pr (.get [ks] 0) [(.v 1), (.v 21)])
         (.nd (.call 1 [(.v 22)] [ks] [ki64])
         (.nd (.pr (.mk [ki64] 1) [(.v 23)])
         (.nd (.pr (.app [ki64] 8) [(.v 17), (.v 24)])
         (.nd (.pr (.len [ki64]) [(.v 25)])
         (.out 0 [(.v 25)])))))))
        (.nd (.pr (.len [ks]) [(.v 1)])
        (.nd (.pr (.len [ki64]) [(.v 21)])
        (.nd (.pr (.bin .add .i64) [(.v 16), (.k (.i 1))])
        (.out 0 [(.v 24), (.v 21)])))))
        (.out 3 [(.v 17)]))))))
     (.nd (.pr (.len [ki64]) [(.v 16)])
     (.out 0 [(.k (.i 1)), (.v 7), (.k (.i 0)), (.v 14), (.v 16)])))))
     (.out 0 [(.k (.i 0)), (.v 7), (.k (.i 0)), (.k (.i 0)), (.k (.l []))]))))))))
 (.nd (.pr (.len [ki64]) [(.v 14)])
 (.nd (.call 5 [(.v 10), (.v 11), (.v 12), (.v 13), (.v 14)] [ki64, ki64, ki64, ki64, (.sl [ki64])] [ks])
 (.seq [kb]
  (.nd (.pr (.cmpS .eql) [(.v 16), (.k (.s ⟨#[]⟩))])
  (.ite (.v 17)
   (.out 0 [(.k (.b true))])
   (.nd (.pr (.cmpS .neq) [(.v 16), (.v 0)])
   (.out 0 [(.v 18)]))))
 (.nd (.pr (.len [ki64]) [(.v 14)])
 (.ite (.v 17)
  (.out 1 [(.k (.b false)), (.k (.i 0)), (.k (.i 0)), (.k (.i 0)), (.k (.i 0)), (.k (.l []))])
  (.out 1 [(.k (.b true)), (.v 10), (.v 11), (.v 12), (.v 13), (.v 14)])))))))))))))))))
def e6 : Fe := ⟨⟨15, [ks], [(.dat ks (.v 0))], [], [kb, ki64, ki64, ki64, ki64, (.sl [ki64])], [(.agg [(.dat ki64 (.v 2)), (.dat ki64 (.v 3)), (.dat ki64 (.v 4)), (.dat ki64 (.v 5)), (.sl 1 (.k (.i 0)) (.v 7) 1)]), (.dat kb (.v 1))], [(0, (.cells [(.dat ki64 (.v 2)), (.dat ki64 (.v 3)), (.dat ki64 (.v 4)), (.dat ki64 (.v 5)), (.sl 1 (.k (.i 0)) (.v 7) 1)])), (1, (.arr [ki64] (.v 6) (.v 7)))], 2⟩,
 ⟨[(254, ⟨[kb], [(2, (.ptr 0 0)), (5, (.ptr 1 0)), (75, (.dat kb (.v 17)))], [(0, (.cells [(.dat ki64 (.k (.i 0))), (.dat ki64 (.k (.i 0))), (.dat ki64 (.k (.i 0))), (.dat ki64 (.k (.i 0))), .nilS])), (1, (.cells [(.dat ki64 (.v 10)), (.dat ki64 (.v 11)), (.dat ki64 (.v 12)), (.dat ki64 (.v 13)), (.sl 2 (.k (.i 0)) (.v 18) 1)])), (2, (.arr [ki64] (.v 14) (.v 18)))], 3⟩), (125, ⟨[ki64, ki64, ki64, ki64, (.sl [ki64])], [(0, (.dat ks (.v 0))), (2, (.ptr 0 0)), (5, (.ptr 1 0))], [(0, (.cells [(.dat ki64 (.k (.i 0))), (.dat ki64 (.k (.i 0))), (.dat ki64 (.k (.i 0))), (.dat ki64 (.k (.i 0))), .nilS])), (1, (.cells [(.dat ki64 (.v 10)), (.dat ki64 (.v 11)), (.dat ki64 (.v 12)), (.dat ki64 (.v 13)), (.sl 2 (.k (.i 0)) (.v 15) 1)])), (2, (.arr [ki64] (.v 14) (.v 15)))], 3⟩), (257007, ⟨[(.sl [ki64])], [(0, (.dat ks (.v 0))), (2, (.ptr 0 0)), (5, (.ptr 1 0))], [(0, (.cells [(.dat ki64 (.k (.i 0))), (.dat ki64 (.k (.i 0))), (.dat ki64 (.k (.i 0))), (.dat ki64 (.k (.i 0))), .nilS])), (1, (.cells [(.dat ki64 (.k (.i 1))), (.dat ki64 (.v 7)), (.dat ki64 (.k (.i 0))), (.dat ki64 (.v 14)), (.sl 2 (.k (.i 0)) (.v 17) 1)])), (2, (.arr [ki64] (.v 16) (.v 17)))], 3⟩), (514014, ⟨[ki64, (.sl [ki64])], [(0, (.dat ks (.v 0))), (2, (.ptr 0 0)), (4, (.sl 1 (.k (.i 0)) (.v 18) 1)), (5, (.ptr 2 0)), (6, (.dat ki64 (.v 16)))], [(0, (.cells [(.dat ki64 (.k (.i 0))), (.dat ki64 (.k (.i 0))), (.dat ki64 (.k (.i 0))), (.dat ki64 (.k (.i 0))), .nilS])), (1, (.arr [ks] (.v 1) (.v 18))), (2, (.cells [(.dat ki64 (.k (.i 1))), (.dat ki64 (.v 7)), (.dat ki64 (.k (.i 0))), (.dat ki64 (.v 14)), (.sl 3 (.k (.i 0)) (.v 19) 1)])), (3, (.arr [ki64] (.v 17) (.v 19)))], 4⟩), (4112114, ⟨[(.sl [ki64])], [(0, (.dat ks (.v 0))), (2, (.ptr 0 0)), (4, (.sl 1 (.k (.i 0)) (.v 22) 1)), (5, (.ptr 2 0)), (6, (.dat ki64 (.v 16)))], [(0, (.cells [(.dat ki64 (.k (.i 0))), (.dat ki64 (.k (.i 0))), (.dat ki64 (.k (.i 0))), (.dat ki64 (.k (.i 0))), .nilS])), (1, (.arr [ks] (.v 1) (.v 22))), (2, (.cells [(.dat ki64 (.k (.i 1))), (.dat ki64 (.v 7)), (.dat ki64 (.k (.i 0))), (.dat ki64 (.v 14)), (.sl 3 (.k (.i 0)) (.v 23) 1)])), (3, (.arr [ki64] (.v 21) (.v 23)))], 4⟩), (64251, ⟨[ki64], [(0, (.dat ks (.v 0))), (2, (.ptr 0 0)), (4, (.sl 1 (.k (.i 0)) (.v 15) 1)), (5, (.ptr 2 0))], [(0, (.cells [(.dat ki64 (.k (.i 0))), (.dat ki64 (.k (.i 0))), (.dat ki64 (.k (.i 0))), (.dat ki64 (.k (.i 0))), .nilS])), (1, (.arr [ks] (.v 1) (.v 15))), (2, (.cells [(.dat ki64 (.k (.i 1))), (.dat ki64 (.v 7)), (.dat ki64 (.k (.i 0))), (.dat ki64 (.v 14)), .nilS]))], 3⟩), (4015, ⟨[kb], [(0, (.dat ks (.v 0))), (2, (.ptr 0 0)), (4, (.sl 1 (.k (.i 0)) (.v 13) 1)), (5, (.ptr 2 0)), (37, (.dat kb (.v 12)))], [(0, (.cells [(.dat ki64 (.k (.i 0))), (.dat ki64 (.k (.i 0))), (.dat ki64 (.k (.i 0))), (.dat ki64 (.k (.i 0))), .nilS])), (1, (.arr [ks] (.v 1) (.v 13))), (2, (.cells [(.dat ki64 (.k (.i 0))), (.dat ki64 (.v 7)), (.dat ki64 (.k (.i 0))), (.dat ki64 (.k (.i 0))), .nilS]))], 3⟩), (14, ⟨[kb], [(0, (.dat ks (.v 0))), (2, (.ptr 0 0)), (4, (.sl 1 (.k (.i 0)) (.v 4) 1)), (17, (.dat kb (.v 3)))], [(0, (.cells [(.dat ki64 (.k (.i 0))), (.dat ki64 (.k (.i 0))), (.dat ki64 (.k (.i 0))), (.dat ki64 (.k (.i 0))), .nilS])), (1, (.arr [ks] (.v 1) (.v 4)))], 2⟩)], [(8224228, [2, 3])]⟩,
 [(2, (.ptr 0 0)), (3, (.dat kb (.v 1)))], some t6, fun _ => none⟩
/-- strings.Split -/
def t7 : Tr := .out 0 []
def e7 : Fe := ⟨⟨52, [ks, ks], [(.dat ks (.v 0)), (.dat ks (.v 1))], [], [(.sl [ks])], [(.dat (.sl [ks]) (.v 2))], [], 0⟩,
 ⟨[], []⟩,
 [], none, prim52⟩
/-- strconv.Atoi -/
def t8 : Tr := .out 0 []
def e8 : Fe := ⟨⟨53, [ks], [(.dat ks (.v 0))], [], [ki64, kb], [(.dat ki64 (.v 1)), (.ifc (.v 2))], [], 0⟩,
 ⟨[], []⟩,
 [], none, prim53⟩
/-- loop.example/g00709/impl.within -/
def t9 : Tr :=
(.seq [kb]
 (.nd (.pr (.cmp .geq .i64) [(.v 0), (.v 1)])
 (.ite (.v 3)
  (.nd (.pr (.cmp .leq .i64) [(.v 0), (.v 2)])
  (.out 0 [(.v 4)]))
  (.out 0 [(.k (.b false))])))
(.out 1 [(.v 3)]))
def e9 : Fe := ⟨⟨27, [ki64, ki64, ki64], [(.dat ki64 (.v 0)), (.dat ki64 (.v 1)), (.dat ki64 (.v 2))], [], [kb], [(.dat kb (.v 3))], [], 0⟩,
 ⟨[(3, ⟨[kb], [(6, (.dat kb (.v 3)))], [], 0⟩)], []⟩,
 [(6, (.dat kb (.v 3)))], some t9, fun _ => none⟩
/-- loop.example/g00709/impl.isReq$1 -/
def t10 : Tr :=
(.nd (.call 9 [(.v 0), (.k (.i 0)), (.k (.i 256))] [ki64, ki64, ki64] [kb])
(.nd (.pr .not [(.v 1)])
(.out 1 [(.v 2)])))
def e10 : Fe := ⟨⟨66, [ki64], [(.dat ki64 (.v 0))], [], [kb], [(.dat kb (.v 1))], [], 0⟩,
 ⟨[], []⟩,
 [(2, (.dat kb (.v 1)))], some t10, fun _ => none⟩
/-- loop.example/g00709/impl.isReq$2 -/
def t11 : Tr :=
(.nd (.call 9 [(.v 0), (.k (.i (-1))), (.k (.i 4095))] [ki64, ki64, ki64] [kb])
(.nd (.pr .not [(.v 1)])
(.out 1 [(.v 2)])))
def e11 : Fe := ⟨⟨67, [ki64], [(.dat ki64 (.v 0))], [], [kb], [(.dat kb (.v 1))], [], 0⟩,
 ⟨[], []⟩,
 [(2, (.dat kb (.v 1)))], some t11, fun _ => none⟩
/-- slices.IndexFunc[[]int,int] -/
def t12 : Tr :=
(.nd (.pr (.len [ki64]) [(.v 0)])
(.blk 2 []
 (.loop [ki64] [(.k (.i 0))]
  (.nd (.pr (.cmp .lss .i64) [(.v 2), (.v 1)])
  (.ite (.v 3)
   (.blk 3 []
    (.nd (.pr (.len [ki64]) [(.v 0)])
    (.nd (.pr (.ixc .i64) [(.v 2), (.v 4)])
    (.nd (.pr (.get [ki64] 0) [(.v 0), (.v 5)])
    (.nd (.call 10 [(.v 6)] [ki64] [kb])
    (.ite (.v 7)
     (.out 1 [(.v 2)])
     (.out 0 []))))))
   (.nd (.pr (.bin .add .i64) [(.v 2), (.k (.i 1))])
   (.out 0 [(.v 4)])))
   (.out 2 []))))
(.out 1 [(.k (.i (-1)))])))
def e12 : Fe := ⟨⟨75, [(.sl [ki64])], [(.lz [ki64] (.v 0)), (.fn 66 [])], [], [ki64], [(.dat ki64 (.v 1))], [], 0⟩,
 ⟨[(13, ⟨[], [], [], 0⟩), (26, ⟨[ki64], [(0, (.lz [ki64] (.v 0))), (1, (.fn 66 [])), (7, (.dat ki64 (.v 1))), (8, (.dat ki64 (.v 2)))], [], 0⟩), (422, ⟨[], [(0, (.lz [ki64] (.v 0))), (1, (.fn 66 [])), (7, (.dat ki64 (.v 1))), (8, (.dat ki64 (.v 2)))], [], 0⟩)], []⟩,
 [(4, (.dat ki64 (.v 1)))], some t12, fun _ => none⟩
/-- slices.IndexFunc[[]int,int] -/
def t13 : Tr :=
(.nd (.pr (.len [ki64]) [(.v 0)])
(.blk 2 []
 (.loop [ki64] [(.k (.i 0))]
  (.nd (.pr (.cmp .lss .i64) [(.v 2), (.v 1)])
  (.ite (.v 3)
   (.blk 3 []
    (.nd (.pr (.len [ki64]) [(.v 0)])
    (.nd (.pr (.ixc .i64) [(.v 2), (.v 4)])
    (.nd (.pr (.get [ki64] 0) [(.v 0), (.v 5)])
    (.nd (.call 11 [(.v 6)] [ki64] [kb])
    (.ite (.v 7)
     (.out 1 [(.v 2)])
     (.out 0 []))))))
   (.nd (.pr (.bin .add .i64) [(.v 2), (.k (.i 1))])
   (.out 0 [(.v 4)])))
   (.out 2 []))))
(.out 1 [(.k (.i (-1)))])))
def e13 : Fe := ⟨⟨75, [(.sl [ki64])], [(.lz [ki64] (.v 0)), (.fn 67 [])], [], [ki64], [(.dat ki64 (.v 1))], [], 0⟩,
 ⟨[(13, ⟨[], [], [], 0⟩), (26, ⟨[ki64], [(0, (.lz [ki64] (.v 0))), (1, (.fn 67 [])), (7, (.dat ki64 (.v 1))), (8, (.dat ki64 (.v 2)))], [], 0⟩), (422, ⟨[], [(0, (.lz [ki64] (.v 0))), (1, (.fn 67 [])), (7, (.dat ki64 (.v 1))), (8, (.dat ki64 (.v 2)))], [], 0⟩)], []⟩,
 [(4, (.dat ki64 (.v 1)))], some t13, fun _ => none⟩
/-- slices.ContainsFunc[[]int,int] -/
def t14 : Tr :=
(.nd (.call 12 [(.v 0)] [(.sl [ki64])] [ki64])
(.nd (.pr (.cmp .geq .i64) [(.v 1), (.k (.i 0))])
(.out 1 [(.v 2)])))
def e14 : Fe := ⟨⟨65, [(.sl [ki64])], [(.lz [ki64] (.v 0)), (.fn 66 [])], [], [kb], [(.dat kb (.v 1))], [], 0⟩,
 ⟨[], []⟩,
 [(4, (.dat kb (.v 1)))], some t14, fun _ => none⟩
/-- slices.ContainsFunc[[]int,int] -/
def t15 : Tr :=
(.nd (.call 13 [(.v 0)] [(.sl [ki64])] [ki64])
(.nd (.pr (.cmp .geq .i64) [(.v 1), (.k (.i 0))])
(.out 1 [(.v 2)])))
def e15 : Fe := ⟨⟨65, [(.sl [ki64])], [(.lz [ki64] (.v 0)), (.fn 67 [])], [], [kb], [(.dat kb (.v 1))], [], 0⟩,
 ⟨[], []⟩,
 [(4, (.dat kb (.v 1)))], some t15, fun _ => none⟩
/-- loop.example/g00709/impl.isReq -/
def t16 : Tr :=
(.nd (.pr (.len [ki64]) [(.v 1)])
(.nd (.pr (.cmp .neq .i64) [(.v 2), (.k (.i 8))])
(.ite (.v 3)
 (.out 1 [(.k (.b false))])
 (.blk 2 []
  (.nd (.pr (.cmp .eql .i64) [(.v 0), (.k (.i 1))])
  (.ite (.v 4)
   (.nd (.call 14 [(.v 1)] [(.sl [ki64])] [kb])
   (.nd (.pr .not [(.v 5)])
   (.out 1 [(.v 6)])))
   (.nd (.pr (.cmp .eql .i64) [(.v 0), (.k (.i 2))])
   (.ite (.v 5)
    (.nd (.call 15 [(.v 1)] [(.sl [ki64])] [kb])
    (.nd (.pr .not [(.v 6)])
    (.out 1 [(.v 7)])))
    (.out 0 [])))))
 (.out 1 [(.k (.b false))])))))
def e16 : Fe := ⟨⟨50, [ki64, (.sl [ki64])], [(.agg [(.dat ki64 (.v 0)), (.lz [ki64] (.v 1))])], [], [kb], [(.dat kb (.v 2))], [], 0⟩,
 ⟨[(29, ⟨[], [], [], 0⟩)], []⟩,
 [(2, (.dat kb (.v 2)))], some t16, fun _ => none⟩
/-- loop.example/g00709/impl.isEvent -/
def t17 : Tr :=
(.seq [kb]
 (.nd (.pr (.cmp .eql .i64) [(.v 3), (.k (.i 0))])
 (.ite (.v 5)
  (.nd (.pr (.len [ki64]) [(.v 4)])
  (.nd (.pr (.cmp .eql .i64) [(.v 6), (.k (.i 0))])
  (.out 0 [(.v 7)])))
  (.out 0 [(.k (.b false))])))
(.blk 2 []
 (.nd (.pr (.cmp .eql .i64) [(.v 0), (.k (.i 1))])
 (.ite (.v 6)
  (.seq [kb]
   (.nd (.call 9 [(.v 1), (.k (.i 0)), (.k (.i 3))] [ki64, ki64, ki64] [kb])
   (.ite (.v 7)
    (.nd (.pr (.cmp .eql .i64) [(.v 2), (.k (.i 0))])
    (.ite (.v 8)
     (.nd (.call 16 [(.v 3), (.v 4)] [ki64, (.sl [ki64])] [kb])
     (.out 0 [(.v 9)]))
     (.out 0 [(.k (.b false))])))
    (.out 0 [(.k (.b false))])))
  (.out 1 [(.v 7)]))
  (.nd (.pr (.cmp .eql .i64) [(.v 0), (.k (.i 2))])
  (.ite (.v 7)
   (.seq [kb]
    (.nd (.call 9 [(.v 1), (.k (.i 0)), (.k (.i 3))] [ki64, ki64, ki64] [kb])
    (.ite (.v 8)
     (.nd (.pr (.cmp .eql .i64) [(.v 2), (.k (.i 0))])
     (.ite (.v 9)
      (.out 0 [(.v 5)])
      (.out 0 [(.k (.b false))])))
     (.out 0 [(.k (.b false))])))
   (.out 1 [(.v 8)]))
   (.nd (.pr (.cmp .eql .i64) [(.v 0), (.k (.i 3))])
   (.ite (.v 8)
    (.seq [kb]
     (.nd (.pr (.cmp .eql .i64) [(.v 1), (.k (.i 0))])
     (.ite (.v 9)
      (.nd (.call 9 [(.v 2), (.k (.i 1)), (.k (.i 16))] [ki64, ki64, ki64] [kb])
      (.ite (.v 10)
       (.out 0 [(.v 5)])
       (.out 0 [(.k (.b false))])))
      (.out 0 [(.k (.b false))])))
    (.out 1 [(.v 9)]))
    (.out 0 [])))))))
(.out 1 [(.k (.b false))])))
def e17 : Fe := ⟨⟨31, [ki64, ki64, ki64, ki64, (.sl [ki64])], [(.agg [(.dat ki64 (.v 0)), (.dat ki64 (.v 1)), (.dat ki64 (.v 2)), (.dat ki64 (.v 3)), (.lz [ki64] (.v 4))])], [], [kb], [(.dat kb (.v 5))], [], 0⟩,
 ⟨[(29, ⟨[], [], [], 0⟩), (3774, ⟨[kb], [(2, (.dat kb (.v 9)))], [], 0⟩), (942, ⟨[kb], [(2, (.dat kb (.v 8)))], [], 0⟩), (234, ⟨[kb], [(2, (.dat kb (.v 7)))], [], 0⟩), (3, ⟨[kb], [(1, (.ptr 0 0)), (3, (.dat kb (.v 5)))], [(0, (.cells [(.dat ki64 (.v 0)), (.dat ki64 (.v 1)), (.dat ki64 (.v 2)), (.dat ki64 (.v 3)), (.lz [ki64] (.v 4))]))], 1⟩)], []⟩,
 [(2, (.dat kb (.v 5)))], some t17, fun _ => none⟩
/-- loop.example/g00709/impl.words -/
def t18 : Tr := .out 0 []
def e18 : Fe := ⟨⟨28, [ks, (.sl [ki64])], [(.dat ks (.v 0)), (.lz [ki64] (.v 1))], [], [ks], [(.dat ks (.v 2))], [], 0⟩,
 ⟨[], []⟩,
 [], none, prim28⟩
/-- loop.example/g00709/impl.eventText -/
def t19 : Tr :=
(.blk 2 []
 (.nd (.pr (.cmp .eql .i64) [(.v 0), (.k (.i 2))])
 (.ite (.v 5)
  (.nd (.pr (.mk [ki64] 1) [(.v 1)])
  (.nd (.call 18 [(.k (.s ⟨#[112, 105, 99, 107]⟩)), (.v 6)] [ks, (.sl [ki64])] [ks])
  (.out 1 [(.v 7)])))
  (.nd (.pr (.cmp .eql .i64) [(.v 0), (.k (.i 3))])
  (.ite (.v 6)
   (.nd (.pr (.mk [ki64] 1) [(.v 2)])
   (.nd (.call 18 [(.k (.s ⟨#[103, 114, 111, 119]⟩)), (.v 7)] [ks, (.sl [ki64])] [ks])
   (.out 1 [(.v 8)])))
   (.nd (.pr (.cmp .eql .i64) [(.v 3), (.k (.i 1))])
   (.ite (.v 7)
    (.nd (.pr (.mk [ki64] 1) [(.v 1)])
    (.nd (.call 18 [(.k (.s ⟨#[116, 97, 107, 101]⟩)), (.v 8)] [ks, (.sl [ki64])] [ks])
    (.nd (.call 18 [(.v 9), (.v 4)] [ks, (.sl [ki64])] [ks])
    (.out 1 [(.v 10)]))))
    (.out 0 [])))))))
(.nd (.pr (.mk [ki64] 1) [(.v 1)])
(.nd (.call 18 [(.k (.s ⟨#[103, 105, 118, 101]⟩)), (.v 5)] [ks, (.sl [ki64])] [ks])
(.nd (.call 18 [(.v 6), (.v 4)] [ks, (.sl [ki64])] [ks])
(.out 1 [(.v 7)])))))
def e19 : Fe := ⟨⟨32, [ki64, ki64, ki64, ki64, (.sl [ki64])], [(.agg [(.dat ki64 (.v 0)), (.dat ki64 (.v 1)), (.dat ki64 (.v 2)), (.dat ki64 (.v 3)), (.lz [ki64] (.v 4))])], [], [ks], [(.dat ks (.v 5))], [], 0⟩,
 ⟨[(6, ⟨[], [(1, (.ptr 0 0))], [(0, (.cells [(.dat ki64 (.v 0)), (.dat ki64 (.v 1)), (.dat ki64 (.v 2)), (.dat ki64 (.v 3)), (.lz [ki64] (.v 4))]))], 1⟩)], []⟩,
 [(2, (.dat ks (.v 5)))], some t19, fun _ => none⟩
/-- loop.example/g00709/impl.eventTextRead -/
def t20 : Tr :=
(.nd (.pr .lenS [(.v 0)])
(.nd (.pr (.cmp .gtr .i64) [(.v 1), (.k (.i 12000))])
(.ite (.v 2)
 (.out 1 [(.k (.b false)), (.k (.i 0)), (.k (.i 0)), (.k (.i 0)), (.k (.i 0)), (.k (.l []))])
 (.nd (.call 7 [(.v 0), (.k (.s ⟨#[32]⟩))] [ks, ks] [(.sl [ks])])
 (.nd (.pr (.len [ks]) [(.v 3)])
 (.nd (.pr (.cut [ks] .i64 .i64) [(.v 3), (.k (.i 1)), (.v 4)])
 (.nd (.pr (.len [ks]) [(.v 5)])
 (.blk 2 [(.sl [ki64])]
  (.loop [ki64, (.sl [ki64])] [(.k (.i 0)), (.k (.l []))]
   (.nd (.pr (.len [ki64]) [(.v 8)])
   (.nd (.pr (.cmp .lss .i64) [(.v 7), (.v 6)])
   (.ite (.v 10)
    (.blk 3 [(.sl [ki64])]
     (.nd (.pr (.len [ks]) [(.v 5)])
     (.nd (.pr (.ixc .i64) [(.v 7), (.v 11)])
     (.nd (.pr (.get [ks] 0) [(.v 5), (.v 12)])
     (.nd (.call 8 [(.v 13)] [ks] [ki64, kb])
     (.nd (.pr .not [(.v 15)])
     (.ite (.v 16)
      (.out 1 [(.k (.b false)), (.k (.i 0)), (.k (.i 0)), (.k (.i 0)), (.k (.i 0)), (.k (.l []))])
      (.nd (.pr (.mk [ki64] 1) [(.v 14)])
      (.nd (.pr (.app [ki64] 8) [(.v 8), (.v 17)])
      (.nd (.pr (.len [ki64]) [(.v 18)])
      (.out 0 [(.v 18)]))))))))))
    (.nd (.pr (.len [ki64]) [(.v 11)])
    (.nd (.pr (.bin .add .i64) [(.v 7), (.k (.i 1))])
    (.out 0 [(.v 13), (.v 11)]))))
    (.out 2 [(.v 8)])))))
 (.nd (.pr (.len [ki64]) [(.v 7)])
 (.nd (.pr (.cmp .eql .i64) [(.v 8), (.k (.i 0))])
 (.ite (.v 9)
  (.out 1 [(.k (.b false)), (.k (.i 0)), (.k (.i 0)), (.k (.i 0)), (.k (.i 0)), (.k (.l []))])
  (.nd (.pr (.ixc .i64) [(.k (.i 0)), (.v 8)])
  (.nd (.pr (.get [ki64] 0) [(.v 7), (.v 10)])
  (.nd (.pr (.len [ks]) [(.v 3)])
  (.nd (.pr (.ixc .i64) [(.k (.i 0)), (.v 12)])
  (.nd (.pr (.get [ks] 0) [(.v 3), (.v 13)])
  (.blk 4 [ki64, ki64, ki64, ki64, (.sl [ki64])]
   (.nd (.pr (.cmpS .eql) [(.v 14), (.k (.s ⟨#[112, 105, 99, 107]⟩))])
   (.ite (.v 15)
    (.out 0 [(.k (.i 2)), (.v 11), (.k (.i 0)), (.k (.i 0)), (.k (.l []))])
    (.nd (.pr (.cmpS .eql) [(.v 14), (.k (.s ⟨#[103, 114, 111, 119]⟩))])
    (.ite (.v 16)
     (.nd (.pr (.ixc .i64) [(.k (.i 0)), (.v 8)])
     (.nd (.pr (.get [ki64] 0) [(.v 7), (.v 17)])
     (.out 0 [(.k (.i 3)), (.k (.i 0)), (.v 18), (.k (.i 0)), (.k (.l []))])))
     (.nd (.pr (.cmpS .eql) [(.v 14), (.k (.s ⟨#[116, 97, 107, 101]⟩))])
     (.ite (.v 17)
      (.nd (.pr (.rng .i64 .i64) [(.k (.i 1)), (.v 8), (.v 8)])
      (.nd (.pr (.cut [ki64] .i64 .i64) [(.v 7), (.k (.i 1)), (.v 8)])
      (.out 0 [(.k (.i 1)), (.v 11), (.k (.i 0)), (.k (.i 1)), (.v 19)])))
      (.nd (.pr (.cmpS .eql) [(.v 14), (.k (.s ⟨#[103, 105, 118, 101]⟩))])
      (.ite (.v 18)
       (.nd (.pr (.rng .i64 .i64) [(.k (.i 1)), (.v 8), (.v 8)])
       (.nd (.pr (.cut [ki64] .i64 .i64) [(.v 7), (.k (.i 1)), (.v 8)])
       (.out 0 [(.k (.i 1)), (.v 11), (.k (.i 0)), (.k (.i 2)), (.v 20)])))
       (.out 0 [(.k (.i 0)), (.v 11), (.k (.i 0)), (.k (.i 0)), (.k (.l []))])))))))))
  (.nd (.pr (.len [ki64]) [(.v 19)])
  (.seq [kb]
   (.nd (.call 17 [(.v 15), (.v 16), (.v 17), (.v 18), (.v 19)] [ki64, ki64, ki64, ki64, (.sl [ki64])] [kb])
   (.nd (.pr .not [(.v 21)])
   (.ite (.v 22)
    (.out 0 [(.k (.b true))])
    (.nd (.call 19 [(.v 15), (.v 16), (.v 17), (.v 18), (.v 19)] [ki64, ki64, ki64, ki64, (.sl [ki64])] [ks])
    (.nd (.pr (.cmpS .neq) [(.v 23), (.v 0)])
    (.out 0 [(.v 24)]))))))
  (.nd (.pr (.len [ki64]) [(.v 19)])
  (.ite (.v 21)
   (.out 1 [(.k (.b false)), (.k (.i 0)), (.k (.i 0)), (.k (.i 0)), (.k (.i 0)), (.k (.l []))])
   (.out 1 [(.k (.b true)), (.v 15), (.v 16), (.v 17), (.v 18), (.v 19)]))))))))))))))))))))))
def e20 : Fe := ⟨⟨36, [ks], [(.dat ks (.v 0))], [], [kb, ki64, ki64, ki64, ki64, (.sl [ki64])], [(.agg [(.dat ki64 (.v 2)), (.dat ki64 (.v 3)), (.dat ki64 (.v 4)), (.dat ki64 (.v 5)), (.sl 1 (.k (.i 0)) (.v 7) 1)]), (.dat kb (.v 1))], [(0, (.cells [(.dat ki64 (.v 2)), (.dat ki64 (.v 3)), (.dat ki64 (.v 4)), (.dat ki64 (.v 5)), (.sl 1 (.k (.i 0)) (.v 7) 1)])), (1, (.arr [ki64] (.v 6) (.v 7)))], 2⟩,
 ⟨[(1022, ⟨[kb], [(2, (.ptr 0 0)), (10, (.ptr 1 0)), (79, (.dat kb (.v 21)))], [(0, (.cells [(.dat ki64 (.k (.i 0))), (.dat ki64 (.k (.i 0))), (.dat ki64 (.k (.i 0))), (.dat ki64 (.k (.i 0))), .nilS])), (1, (.cells [(.dat ki64 (.v 15)), (.dat ki64 (.v 16)), (.dat ki64 (.v 17)), (.dat ki64 (.v 18)), (.sl 2 (.k (.i 0)) (.v 22) 1)])), (2, (.arr [ki64] (.v 19) (.v 22)))], 3⟩), (1021, ⟨[ki64, ki64, ki64, ki64, (.sl [ki64])], [(0, (.dat ks (.v 0))), (2, (.ptr 0 0)), (10, (.ptr 1 0))], [(0, (.cells [(.dat ki64 (.k (.i 0))), (.dat ki64 (.k (.i 0))), (.dat ki64 (.k (.i 0))), (.dat ki64 (.k (.i 0))), .nilS])), (1, (.cells [(.dat ki64 (.v 15)), (.dat ki64 (.v 16)), (.dat ki64 (.v 17)), (.dat ki64 (.v 18)), (.sl 2 (.k (.i 0)) (.v 20) 1)])), (2, (.arr [ki64] (.v 19) (.v 20)))], 3⟩), (125, ⟨[(.sl [ki64])], [(0, (.dat ks (.v 0))), (2, (.ptr 0 0)), (4, (.dat (.sl [ks]) (.v 3))), (5, (.sl 1 (.k (.i 0)) (.v 8) 1))], [(0, (.cells [(.dat ki64 (.k (.i 0))), (.dat ki64 (.k (.i 0))), (.dat ki64 (.k (.i 0))), (.dat ki64 (.k (.i 0))), .nilS])), (1, (.arr [ki64] (.v 7) (.v 8)))], 2⟩), (250, ⟨[ki64, (.sl [ki64])], [(0, (.dat ks (.v 0))), (2, (.ptr 0 0)), (4, (.dat (.sl [ks]) (.v 3))), (5, (.sl 1 (.k (.i 0)) (.v 9) 1)), (18, (.dat (.sl [ks]) (.v 5))), (19, (.dat ki64 (.v 6))), (20, (.dat ki64 (.v 7)))], [(0, (.cells [(.dat ki64 (.k (.i 0))), (.dat ki64 (.k (.i 0))), (.dat ki64 (.k (.i 0))), (.dat ki64 (.k (.i 0))), .nilS])), (1, (.arr [ki64] (.v 8) (.v 9)))], 2⟩), (4006, ⟨[(.sl [ki64])], [(0, (.dat ks (.v 0))), (2, (.ptr 0 0)), (4, (.dat (.sl [ks]) (.v 3))), (5, (.sl 1 (.k (.i 0)) (.v 12) 1)), (18, (.dat (.sl [ks]) (.v 5))), (19, (.dat ki64 (.v 6))), (20, (.dat ki64 (.v 7)))], [(0, (.cells [(.dat ki64 (.k (.i 0))), (.dat ki64 (.k (.i 0))), (.dat ki64 (.k (.i 0))), (.dat ki64 (.k (.i 0))), .nilS])), (1, (.arr [ki64] (.v 11) (.v 12)))], 2⟩)], [(0, [1]), (523006, [1, 2]), (130750, [1, 2])]⟩,
 [(2, (.ptr 0 0)), (3, (.dat kb (.v 1)))], some t20, fun _ => none⟩
/-- loop.example/g00709/impl.EventTextRead -/
def t21 : Tr :=
(.nd (.call 20 [(.v 0)] [ks] [kb, ki64, ki64, ki64, ki64, (.sl [ki64])])
(.nd (.pr (.len [ki64]) [(.v 6)])
(.out 1 [(.v 1), (.v 2), (.v 3), (.v 4), (.v 5), (.v 6)])))
def e21 : Fe := ⟨⟨16, [ks], [(.dat ks (.v 0))], [], [kb, ki64, ki64, ki64, ki64, (.sl [ki64])], [(.agg [(.dat ki64 (.v 2)), (.dat ki64 (.v 3)), (.dat ki64 (.v 4)), (.dat ki64 (.v 5)), (.sl 1 (.k (.i 0)) (.v 7) 1)]), (.dat kb (.v 1))], [(0, (.cells [(.dat ki64 (.v 2)), (.dat ki64 (.v 3)), (.dat ki64 (.v 4)), (.dat ki64 (.v 5)), (.sl 1 (.k (.i 0)) (.v 7) 1)])), (1, (.arr [ki64] (.v 6) (.v 7)))], 2⟩,
 ⟨[], []⟩,
 [(2, (.ptr 0 0)), (3, (.dat kb (.v 1)))], some t21, fun _ => none⟩
/-- loop.example/g00709/laws.eqIntS -/
def t22 : Tr :=
(.nd (.pr (.len [ki64]) [(.v 0)])
(.nd (.pr (.len [ki64]) [(.v 1)])
(.nd (.pr (.cmp .neq .i64) [(.v 2), (.v 3)])
(.ite (.v 4)
 (.out 1 [(.k (.b false))])
 (.blk 2 []
  (.loop [ki64] [(.k (.i 0))]
   (.nd (.pr (.len [ki64]) [(.v 0)])
   (.nd (.pr (.cmp .lss .i64) [(.v 5), (.v 6)])
   (.ite (.v 7)
    (.blk 3 []
     (.nd (.pr (.len [ki64]) [(.v 0)])
     (.nd (.pr (.ixc .i64) [(.v 5), (.v 8)])
     (.nd (.pr (.get [ki64] 0) [(.v 0), (.v 9)])
     (.nd (.pr (.len [ki64]) [(.v 1)])
     (.nd (.pr (.ixc .i64) [(.v 5), (.v 11)])
     (.nd (.pr (.get [ki64] 0) [(.v 1), (.v 12)])
     (.nd (.pr (.cmp .neq .i64) [(.v 10), (.v 13)])
     (.ite (.v 14)
      (.out 1 [(.k (.b false))])
      (.out 0 [])))))))))
    (.nd (.pr (.bin .add .i64) [(.v 5), (.k (.i 1))])
    (.out 0 [(.v 8)])))
    (.out 2 [])))))
 (.out 1 [(.k (.b true))]))))))
def e22 : Fe := ⟨⟨51, [(.sl [ki64]), (.sl [ki64])], [(.lz [ki64] (.v 0)), (.lz [ki64] (.v 1))], [], [kb], [(.dat kb (.v 2))], [], 0⟩,
 ⟨[(29, ⟨[], [], [], 0⟩), (58, ⟨[ki64], [(0, (.lz [ki64] (.v 0))), (1, (.lz [ki64] (.v 1))), (5, (.dat ki64 (.v 5)))], [], 0⟩), (466, ⟨[], [(0, (.lz [ki64] (.v 0))), (1, (.lz [ki64] (.v 1))), (5, (.dat ki64 (.v 5)))], [], 0⟩)], []⟩,
 [(4, (.dat kb (.v 2)))], some t22, fun _ => none⟩
/-- loop.example/g00709/laws.eqReq -/
def t23 : Tr :=
(.nd (.pr (.cmp .neq .i64) [(.v 0), (.v 2)])
(.ite (.v 4)
 (.out 1 [(.k (.b false))])
 (.nd (.call 22 [(.v 1), (.v 3)] [(.sl [ki64]), (.sl [ki64])] [kb])
 (.nd (.pr .not [(.v 5)])
 (.ite (.v 6)
  (.out 1 [(.k (.b false))])
  (.out 1 [(.k (.b true))]))))))
def e23 : Fe := ⟨⟨33, [ki64, (.sl [ki64]), ki64, (.sl [ki64])], [(.agg [(.dat ki64 (.v 0)), (.lz [ki64] (.v 1))]), (.agg [(.dat ki64 (.v 2)), (.lz [ki64] (.v 3))])], [], [kb], [(.dat kb (.v 4))], [], 0⟩,
 ⟨[], []⟩,
 [(4, (.dat kb (.v 4)))], some t23, fun _ => none⟩
/-- loop.example/g00709/laws.eqEvent -/
def t24 : Tr :=
(.nd (.pr (.cmp .neq .i64) [(.v 0), (.v 5)])
(.ite (.v 10)
 (.out 1 [(.k (.b false))])
 (.nd (.pr (.cmp .neq .i64) [(.v 1), (.v 6)])
 (.ite (.v 11)
  (.out 1 [(.k (.b false))])
  (.nd (.pr (.cmp .neq .i64) [(.v 2), (.v 7)])
  (.ite (.v 12)
   (.out 1 [(.k (.b false))])
   (.nd (.call 23 [(.v 3), (.v 4), (.v 8), (.v 9)] [ki64, (.sl [ki64]), ki64, (.sl [ki64])] [kb])
   (.nd (.pr .not [(.v 13)])
   (.ite (.v 14)
    (.out 1 [(.k (.b false))])
    (.out 1 [(.k (.b true))]))))))))))
def e24 : Fe := ⟨⟨14, [ki64, ki64, ki64, ki64, (.sl [ki64]), ki64, ki64, ki64, ki64, (.sl [ki64])], [(.agg [(.dat ki64 (.v 0)), (.dat ki64 (.v 1)), (.dat ki64 (.v 2)), (.dat ki64 (.v 3)), (.lz [ki64] (.v 4))]), (.agg [(.dat ki64 (.v 5)), (.dat ki64 (.v 6)), (.dat ki64 (.v 7)), (.dat ki64 (.v 8)), (.lz [ki64] (.v 9))])], [], [kb], [(.dat kb (.v 10))], [], 0⟩,
 ⟨[], []⟩,
 [(4, (.dat kb (.v 10)))], some t24, fun _ => none⟩
/-- loop.example/g00709/laws.markIntS -/
def t25 : Tr :=
(.blk 2 [ki64, (.sl [ki64])]
 (.loop [ki64, ki64, (.sl [ki64])] [(.v 1), (.k (.i 0)), (.v 0)]
  (.nd (.pr (.len [ki64]) [(.v 5)])
  (.nd (.pr (.cmp .lss .i64) [(.v 4), (.v 6)])
  (.ite (.v 7)
   (.blk 3 [ki64, (.sl [ki64])]
    (.nd (.pr (.ixc .i64) [(.v 4), (.v 6)])
    (.nd (.pr (.set [ki64] 0) [(.v 5), (.v 8), (.v 3)])
    (.nd (.pr (.bin .add .i64) [(.v 3), (.k (.i 1))])
    (.out 0 [(.v 10), (.v 9)]))))
   (.nd (.pr (.len [ki64]) [(.v 9)])
   (.nd (.pr (.bin .add .i64) [(.v 4), (.k (.i 1))])
   (.out 0 [(.v 8), (.v 11), (.v 9)]))))
   (.out 2 [(.v 3), (.v 5)])))))
(.nd (.pr (.len [ki64]) [(.v 4)])
(.out 1 [(.v 3), (.v 4)])))
def e25 : Fe := ⟨⟨54, [(.sl [ki64]), ki64], [(.sl 0 (.k (.i 0)) (.v 2) 1), (.dat ki64 (.v 1))], [(0, (.arr [ki64] (.v 0) (.v 2)))], [ki64, (.sl [ki64])], [(.dat ki64 (.v 2))], [(0, (.arr [ki64] (.v 3) (.v 4)))], 1⟩,
 ⟨[(13, ⟨[ki64, (.sl [ki64])], [(1, (.dat ki64 (.v 3)))], [(0, (.arr [ki64] (.v 4) (.v 5)))], 1⟩), (26, ⟨[ki64, ki64, (.sl [ki64])], [(0, (.sl 0 (.k (.i 0)) (.v 6) 1)), (1, (.dat ki64 (.v 3))), (5, (.dat ki64 (.v 4)))], [(0, (.arr [ki64] (.v 5) (.v 6)))], 1⟩), (210, ⟨[ki64, (.sl [ki64])], [(0, (.sl 0 (.k (.i 0)) (.v 10) 1)), (1, (.dat ki64 (.v 8))), (5, (.dat ki64 (.v 4)))], [(0, (.arr [ki64] (.v 9) (.v 10)))], 1⟩)], []⟩,
 [(4, (.dat ki64 (.v 2)))], some t25, fun _ => none⟩
/-- loop.example/g00709/laws.markReq -/
def t26 : Tr :=
(.nd (.call 25 [(.v 1), (.v 2)] [(.sl [ki64]), ki64] [ki64, (.sl [ki64])])
(.nd (.pr (.len [ki64]) [(.v 5)])
(.out 1 [(.v 4), (.v 5)])))
def e26 : Fe := ⟨⟨37, [ki64, (.sl [ki64]), ki64], [(.agg [(.dat ki64 (.v 0)), (.sl 0 (.k (.i 0)) (.v 3) 1)]), (.dat ki64 (.v 2))], [(0, (.arr [ki64] (.v 1) (.v 3)))], [ki64, (.sl [ki64])], [(.dat ki64 (.v 3))], [(0, (.arr [ki64] (.v 4) (.v 5)))], 1⟩,
 ⟨[], []⟩,
 [(4, (.dat ki64 (.v 3)))], some t26, fun _ => none⟩
/-- loop.example/g00709/laws.markEvent -/
def t27 : Tr :=
(.nd (.call 26 [(.v 3), (.v 4), (.v 5)] [ki64, (.sl [ki64]), ki64] [ki64, (.sl [ki64])])
(.nd (.pr (.len [ki64]) [(.v 8)])
(.out 1 [(.v 7), (.v 8)])))
def e27 : Fe := ⟨⟨17, [ki64, ki64, ki64, ki64, (.sl [ki64]), ki64], [(.agg [(.dat ki64 (.v 0)), (.dat ki64 (.v 1)), (.dat ki64 (.v 2)), (.dat ki64 (.v 3)), (.sl 0 (.k (.i 0)) (.v 6) 1)]), (.dat ki64 (.v 5))], [(0, (.arr [ki64] (.v 4) (.v 6)))], [ki64, (.sl [ki64])], [(.dat ki64 (.v 6))], [(0, (.arr [ki64] (.v 7) (.v 8)))], 1⟩,
 ⟨[], []⟩,
 [(4, (.dat ki64 (.v 6)))], some t27, fun _ => none⟩
/-- loop.example/g00709/laws.heldIntS -/
def t28 : Tr :=
(.blk 2 [ki64]
 (.loop [ki64, ki64] [(.v 1), (.k (.i 0))]
  (.nd (.pr (.len [ki64]) [(.v 0)])
  (.nd (.pr (.cmp .lss .i64) [(.v 3), (.v 4)])
  (.ite (.v 5)
   (.blk 3 [ki64]
    (.nd (.pr (.len [ki64]) [(.v 0)])
    (.nd (.pr (.ixc .i64) [(.v 3), (.v 6)])
    (.nd (.pr (.get [ki64] 0) [(.v 0), (.v 7)])
    (.nd (.pr (.cmp .neq .i64) [(.v 8), (.v 2)])
    (.ite (.v 9)
     (.out 1 [(.k (.i (-1)))])
     (.nd (.pr (.bin .add .i64) [(.v 2), (.k (.i 1))])
     (.out 0 [(.v 10)])))))))
   (.nd (.pr (.bin .add .i64) [(.v 3), (.k (.i 1))])
   (.out 0 [(.v 6), (.v 7)])))
   (.out 2 [(.v 2)])))))
(.out 1 [(.v 2)]))
def e28 : Fe := ⟨⟨55, [(.sl [ki64]), ki64], [(.lz [ki64] (.v 0)), (.dat ki64 (.v 1))], [], [ki64], [(.dat ki64 (.v 2))], [], 0⟩,
 ⟨[(13, ⟨[ki64], [(1, (.dat ki64 (.v 2)))], [], 0⟩), (26, ⟨[ki64, ki64], [(0, (.lz [ki64] (.v 0))), (1, (.dat ki64 (.v 2))), (5, (.dat ki64 (.v 3)))], [], 0⟩), (210, ⟨[ki64], [(0, (.lz [ki64] (.v 0))), (1, (.dat ki64 (.v 6))), (5, (.dat ki64 (.v 3)))], [], 0⟩)], []⟩,
 [(4, (.dat ki64 (.v 2)))], some t28, fun _ => none⟩
/-- loop.example/g00709/laws.heldReq -/
def t29 : Tr :=
(.nd (.call 28 [(.v 1), (.v 2)] [(.sl [ki64]), ki64] [ki64])
(.nd (.pr (.cmp .lss .i64) [(.v 3), (.k (.i 0))])
(.ite (.v 4)
 (.out 1 [(.k (.i (-1)))])
 (.out 1 [(.v 3)]))))
def e29 : Fe := ⟨⟨38, [ki64, (.sl [ki64]), ki64], [(.agg [(.dat ki64 (.v 0)), (.lz [ki64] (.v 1))]), (.dat ki64 (.v 2))], [], [ki64], [(.dat ki64 (.v 3))], [], 0⟩,
 ⟨[], []⟩,
 [(4, (.dat ki64 (.v 3)))], some t29, fun _ => none⟩
/-- loop.example/g00709/laws.heldEvent -/
def t30 : Tr :=
(.nd (.call 29 [(.v 3), (.v 4), (.v 5)] [ki64, (.sl [ki64]), ki64] [ki64])
(.nd (.pr (.cmp .lss .i64) [(.v 6), (.k (.i 0))])
(.ite (.v 7)
 (.out 1 [(.k (.i (-1)))])
 (.out 1 [(.v 6)]))))
def e30 : Fe := ⟨⟨18, [ki64, ki64, ki64, ki64, (.sl [ki64]), ki64], [(.agg [(.dat ki64 (.v 0)), (.dat ki64 (.v 1)), (.dat ki64 (.v 2)), (.dat ki64 (.v 3)), (.lz [ki64] (.v 4))]), (.dat ki64 (.v 5))], [], [ki64], [(.dat ki64 (.v 6))], [], 0⟩,
 ⟨[], []⟩,
 [(4, (.dat ki64 (.v 6)))], some t30, fun _ => none⟩
/-- loop.example/g00709/laws.FnExactEventTextRead -/
def t31 : Tr :=
(.nd (.pr .lenS [(.v 0)])
(.nd (.pr (.cmp .gtr .i64) [(.v 1), (.k (.i 1048576))])
(.ite (.v 2)
 (.out 1 [(.k (.b true))])
 (.nd (.call 6 [(.v 0)] [ks] [kb, ki64, ki64, ki64, ki64, (.sl [ki64])])
 (.nd (.pr (.len [ki64]) [(.v 8)])
 (.nd (.call 21 [(.v 0)] [ks] [kb, ki64, ki64, ki64, ki64, (.sl [ki64])])
 (.nd (.pr (.len [ki64]) [(.v 15)])
 (.seq [kb]
  (.nd (.call 24 [(.v 11), (.v 12), (.v 13), (.v 14), (.v 15), (.v 4), (.v 5), (.v 6), (.v 7), (.v 8)] [ki64, ki64, ki64, ki64, (.sl [ki64]), ki64, ki64, ki64, ki64, (.sl [ki64])] [kb])
  (.nd (.pr .not [(.v 17)])
  (.ite (.v 18)
   (.out 0 [(.k (.b true))])
   (.nd (.pr .eqb [(.v 10), (.v 3)])
   (.nd (.pr .not [(.v 19)])
   (.out 0 [(.v 20)]))))))
 (.nd (.pr (.len [ki64]) [(.v 8)])
 (.nd (.pr (.len [ki64]) [(.v 15)])
 (.ite (.v 17)
  (.out 1 [(.k (.b false))])
  (.nd (.call 27 [(.v 11), (.v 12), (.v 13), (.v 14), (.v 15), (.k (.i 1))] [ki64, ki64, ki64, ki64, (.sl [ki64]), ki64] [ki64, (.sl [ki64])])
  (.nd (.pr (.len [ki64]) [(.v 21)])
  (.nd (.pr .plus [(.k (.i 0)), (.v 19)])
  (.nd (.pr (.cut [ki64] .i64 .i64) [(.v 21), (.k (.i 0)), (.v 23)])
  (.nd (.call 30 [(.v 11), (.v 12), (.v 13), (.v 14), (.v 24), (.k (.i 1))] [ki64, ki64, ki64, ki64, (.sl [ki64]), ki64] [ki64])
  (.nd (.pr (.cmp .lss .i64) [(.v 25), (.k (.i 0))])
  (.ite (.v 26)
   (.out 1 [(.k (.b false))])
   (.nd (.pr (.cmp .neq .i64) [(.v 25), (.v 20)])
   (.ite (.v 27)
    (.out 1 [(.k (.b false))])
    (.nd (.call 21 [(.v 0)] [ks] [kb, ki64, ki64, ki64, ki64, (.sl [ki64])])
    (.nd (.pr (.len [ki64]) [(.v 33)])
    (.seq [kb]
     (.nd (.call 24 [(.v 29), (.v 30), (.v 31), (.v 32), (.v 33), (.v 4), (.v 5), (.v 6), (.v 7), (.v 8)] [ki64, ki64, ki64, ki64, (.sl [ki64]), ki64, ki64, ki64, ki64, (.sl [ki64])] [kb])
     (.nd (.pr .not [(.v 35)])
     (.ite (.v 36)
      (.out 0 [(.k (.b true))])
      (.nd (.pr .eqb [(.v 28), (.v 3)])
      (.nd (.pr .not [(.v 37)])
      (.out 0 [(.v 38)]))))))
    (.nd (.pr (.len [ki64]) [(.v 21)])
    (.ite (.v 35)
     (.out 1 [(.k (.b false))])
     (.nd (.pr .plus [(.k (.i 0)), (.v 19)])
     (.nd (.pr (.cut [ki64] .i64 .i64) [(.v 21), (.k (.i 0)), (.v 37)])
     (.nd (.call 30 [(.v 11), (.v 12), (.v 13), (.v 14), (.v 38), (.k (.i 1))] [ki64, ki64, ki64, ki64, (.sl [ki64]), ki64] [ki64])
     (.nd (.pr (.cmp .lss .i64) [(.v 39), (.k (.i 0))])
     (.ite (.v 40)
      (.out 1 [(.k (.b false))])
      (.nd (.pr (.cmp .neq .i64) [(.v 39), (.v 20)])
      (.ite (.v 41)
       (.out 1 [(.k (.b false))])
       (.out 1 [(.k (.b true))])))))))))))))))))))))))))))))))))
def e31 : Fe := ⟨⟨5, [ks], [(.dat ks (.v 0))], [], [kb], [(.dat kb (.v 1))], [], 0⟩,
 ⟨[(16382, ⟨[kb], [(5, (.ptr 0 0)), (7, (.dat ki64 (.v 20))), (57, (.dat kb (.v 35)))], [(0, (.cells [(.dat ki64 (.v 11)), (.dat ki64 (.v 12)), (.dat ki64 (.v 13)), (.dat ki64 (.v 14)), (.sl 1 (.k (.i 0)) (.v 19) 1)])), (1, (.arr [ki64] (.v 21) (.v 36)))], 2⟩), (62, ⟨[kb], [(0, (.dat ks (.v 0))), (3, (.ptr 0 0)), (4, (.dat kb (.v 3))), (5, (.ptr 1 0)), (32, (.dat kb (.v 17)))], [(0, (.cells [(.dat ki64 (.v 4)), (.dat ki64 (.v 5)), (.dat ki64 (.v 6)), (.dat ki64 (.v 7)), (.sl 2 (.k (.i 0)) (.v 18) 1)])), (1, (.cells [(.dat ki64 (.v 11)), (.dat ki64 (.v 12)), (.dat ki64 (.v 13)), (.dat ki64 (.v 14)), (.sl 3 (.k (.i 0)) (.v 19) 1)])), (2, (.arr [ki64] (.v 8) (.v 18))), (3, (.arr [ki64] (.v 15) (.v 19)))], 4⟩)], []⟩,
 [(2, (.dat kb (.v 1)))], some t31, fun _ => none⟩
def fes : List Fe := [e0, e1, e2, e3, e4, e5, e6, e7, e8, e9, e10, e11, e12, e13, e14, e15, e16, e17, e18, e19, e20, e21, e22, e23, e24, e25, e26, e27, e28, e29, e30, e31]
theorem tabOk : TabOk Tryd.prog tab := tabB_ok (by kernel_rfl)
theorem ok0 : e0.ok Tryd.prog tab (sigsOf fes) (kindsOf fes) = true := by kernel_rfl
theorem ok1 : e1.ok Tryd.prog tab (sigsOf fes) (kindsOf fes) = true := by kernel_rfl
theorem ok2 : e2.ok Tryd.prog tab (sigsOf fes) (kindsOf fes) = true := by kernel_rfl
theorem ok3 : e3.ok Tryd.prog tab (sigsOf fes) (kindsOf fes) = true := by kernel_rfl
theorem ok4 : e4.ok Tryd.prog tab (sigsOf fes) (kindsOf fes) = true := by kernel_rfl
theorem ok5 : e5.ok Tryd.prog tab (sigsOf fes) (kindsOf fes) = true := by kernel_rfl
theorem ok6 : e6.ok Tryd.prog tab (sigsOf fes) (kindsOf fes) = true := by kernel_rfl
theorem ok7 : FeOk Tryd.prog tab fes 7 e7 := prim52_ok 7
theorem ok8 : FeOk Tryd.prog tab fes 8 e8 := prim53_ok 8
theorem ok9 : e9.ok Tryd.prog tab (sigsOf fes) (kindsOf fes) = true := by kernel_rfl
theorem ok10 : e10.ok Tryd.prog tab (sigsOf fes) (kindsOf fes) = true := by kernel_rfl
theorem ok11 : e11.ok Tryd.prog tab (sigsOf fes) (kindsOf fes) = true := by kernel_rfl
theorem ok12 : e12.ok Tryd.prog tab (sigsOf fes) (kindsOf fes) = true := by kernel_rfl
theorem ok13 : e13.ok Tryd.prog tab (sigsOf fes) (kindsOf fes) = true := by kernel_rfl
theorem ok14 : e14.ok Tryd.prog tab (sigsOf fes) (kindsOf fes) = true := by kernel_rfl
theorem ok15 : e15.ok Tryd.prog tab (sigsOf fes) (kindsOf fes) = true := by kernel_rfl
theorem ok16 : e16.ok Tryd.prog tab (sigsOf fes) (kindsOf fes) = true := by kernel_rfl
theorem ok17 : e17.ok Tryd.prog tab (sigsOf fes) (kindsOf fes) = true := by kernel_rfl
theorem ok18 : FeOk Tryd.prog tab fes 18 e18 := prim28_ok 18
theorem ok19 : e19.ok Tryd.prog tab (sigsOf fes) (kindsOf fes) = true := by kernel_rfl
theorem ok20 : e20.ok Tryd.prog tab (sigsOf fes) (kindsOf fes) = true := by kernel_rfl
theorem ok21 : e21.ok Tryd.prog tab (sigsOf fes) (kindsOf fes) = true := by kernel_rfl
theorem ok22 : e22.ok Tryd.prog tab (sigsOf fes) (kindsOf fes) = true := by kernel_rfl
theorem ok23 : e23.ok Tryd.prog tab (sigsOf fes) (kindsOf fes) = true := by kernel_rfl
theorem ok24 : e24.ok Tryd.prog tab (sigsOf fes) (kindsOf fes) = true := by kernel_rfl
theorem ok25 : e25.ok Tryd.prog tab (sigsOf fes) (kindsOf fes) = true := by kernel_rfl
theorem ok26 : e26.ok Tryd.prog tab (sigsOf fes) (kindsOf fes) = true := by kernel_rfl
theorem ok27 : e27.ok Tryd.prog tab (sigsOf fes) (kindsOf fes) = true := by kernel_rfl
theorem ok28 : e28.ok Tryd.prog tab (sigsOf fes) (kindsOf fes) = true := by kernel_rfl
theorem ok29 : e29.ok Tryd.prog tab (sigsOf fes) (kindsOf fes) = true := by kernel_rfl
theorem ok30 : e30.ok Tryd.prog tab (sigsOf fes) (kindsOf fes) = true := by kernel_rfl
theorem ok31 : e31.ok Tryd.prog tab (sigsOf fes) (kindsOf fes) = true := by kernel_rfl
theorem fesOk : FeL Tryd.prog tab fes 0 fes := ⟨ok0, ok1, ok2, ok3, ok4, ok5, ok6, ok7, ok8, ok9, ok10, ok11, ok12, ok13, ok14, ok15, ok16, ok17, ok18, ok19, ok20, ok21, ok22, ok23, ok24, ok25, ok26, ok27, ok28, ok29, ok30, ok31, trivial⟩
end Go.Proofs.YtdjfhggmcigahaaDoor.ERText
