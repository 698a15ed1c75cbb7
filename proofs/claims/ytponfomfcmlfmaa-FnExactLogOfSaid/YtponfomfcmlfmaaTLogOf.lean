/- What the functions behind FnExactLogOf compute, as trees; that they do is checked by the kernel. Printed by bench/Bench.lean. -/
import Derived.Test.YtponfomfcmlfmaaB33
import Derived.Test.YtponfomfcmlfmaaProg
set_option maxRecDepth 100000
set_option linter.unusedVariables false
namespace Go.Proofs.Ytponfomfcmlfmaa.LogOf
open Go.BH
def tab : TyTab := [(3, ⟨1, 8, false, (.int .i64), [(.int .i64 (0))], [ki64], false⟩),
 (4, ⟨1, 1, false, .bool, [(.bool false)], [kb], false⟩),
 (5, ⟨1, 1, false, (.int .u8), [(.int .u8 (0))], [ku8], false⟩),
 (22, ⟨1, 24, false, (.slice 43), [(.slice none 0 0)], [(.sl [ki64, ki64, ki64, ki64, (.sl [ki64])])], false⟩),
 (24, ⟨1, 24, false, (.slice 5), [(.slice none 0 0)], [(.sl [ku8])], false⟩),
 (27, ⟨1, 24, false, (.slice 47), [(.slice none 0 0)], [(.sl [ki64, ki64, ki64, ki64, (.sl [ki64])])], false⟩),
 (39, ⟨1, 24, false, (.slice 3), [(.slice none 0 0)], [(.sl [ki64])], false⟩),
 (41, ⟨2, 32, true, (.struct [(3, 0), (39, 1)]), [(.int .i64 (0)), (.slice none 0 0)], [ki64, (.sl [ki64])], false⟩),
 (43, ⟨5, 56, true, (.struct [(3, 0), (3, 1), (3, 2), (41, 3)]), [(.int .i64 (0)), (.int .i64 (0)), (.int .i64 (0)), (.int .i64 (0)), (.slice none 0 0)], [ki64, ki64, ki64, ki64, (.sl [ki64])], false⟩),
 (45, ⟨2, 32, true, (.struct [(3, 0), (39, 1)]), [(.int .i64 (0)), (.slice none 0 0)], [ki64, (.sl [ki64])], false⟩),
 (47, ⟨5, 56, true, (.struct [(3, 0), (3, 1), (3, 2), (45, 3)]), [(.int .i64 (0)), (.int .i64 (0)), (.int .i64 (0)), (.int .i64 (0)), (.slice none 0 0)], [ki64, ki64, ki64, ki64, (.sl [ki64])], false⟩),
 (66, ⟨1, 8, false, .other, [.nilFunc], [], false⟩),
 (67, ⟨1, 8, false, (.int .u64), [(.int .u64 (0))], [ku64], false⟩)]
/-- loop.example/g00709/laws.szIntS -/
def t0 : Tr :=
(.nd (.pr (.len [ki64]) [(.v 0)])
(.nd (.pr (.bin .sub .i64) [(.v 1), (.v 2)])
(.nd (.pr (.cmp .lss .i64) [(.v 3), (.k (.i 0))])
(.ite (.v 4)
 (.out 1 [(.k (.i (-1)))])
 (.out 1 [(.v 3)])))))
def e0 : Fe := ⟨⟨41, [(.sl [ki64]), ki64], [(.lz true [ki64] (.v 0)), (.dat ki64 (.v 1))], [], [ki64], [(.dat ki64 (.v 2))], [], 0⟩,
 ⟨[], []⟩,
 [(4, (.dat ki64 (.v 2)))], some t0, fun _ => none⟩
/-- loop.example/g00709/laws.szReq -/
def t1 : Tr :=
(.nd (.call 0 [(.v 1), (.v 2)] [(.sl [ki64]), ki64] [ki64])
(.nd (.pr (.cmp .lss .i64) [(.v 3), (.k (.i 0))])
(.ite (.v 4)
 (.out 1 [(.k (.i (-1)))])
 (.out 1 [(.v 3)]))))
def e1 : Fe := ⟨⟨31, [ki64, (.sl [ki64]), ki64], [(.agg [(.dat ki64 (.v 0)), (.lz true [ki64] (.v 1))]), (.dat ki64 (.v 2))], [], [ki64], [(.dat ki64 (.v 3))], [], 0⟩,
 ⟨[], []⟩,
 [(4, (.dat ki64 (.v 3)))], some t1, fun _ => none⟩
/-- loop.example/g00709/laws.szEvent -/
def t2 : Tr :=
(.nd (.call 1 [(.v 3), (.v 4), (.v 5)] [ki64, (.sl [ki64]), ki64] [ki64])
(.nd (.pr (.cmp .lss .i64) [(.v 6), (.k (.i 0))])
(.ite (.v 7)
 (.out 1 [(.k (.i (-1)))])
 (.out 1 [(.v 6)]))))
def e2 : Fe := ⟨⟨18, [ki64, ki64, ki64, ki64, (.sl [ki64]), ki64], [(.agg [(.dat ki64 (.v 0)), (.dat ki64 (.v 1)), (.dat ki64 (.v 2)), (.dat ki64 (.v 3)), (.lz true [ki64] (.v 4))]), (.dat ki64 (.v 5))], [], [ki64], [(.dat ki64 (.v 6))], [], 0⟩,
 ⟨[], []⟩,
 [(4, (.dat ki64 (.v 6)))], some t2, fun _ => none⟩
/-- loop.example/g00709/laws.szEventS -/
def t3 : Tr :=
(.nd (.pr (.len [ki64, ki64, ki64, ki64, (.sl [ki64])]) [(.v 0)])
(.nd (.pr (.bin .sub .i64) [(.v 1), (.v 2)])
(.nd (.pr (.cmp .lss .i64) [(.v 3), (.k (.i 0))])
(.ite (.v 4)
 (.out 1 [(.k (.i (-1)))])
 (.blk 2 [ki64]
  (.loop [ki64, ki64] [(.v 3), (.k (.i 0))]
   (.nd (.pr (.len [ki64, ki64, ki64, ki64, (.sl [ki64])]) [(.v 0)])
   (.nd (.pr (.cmp .lss .i64) [(.v 6), (.v 7)])
   (.ite (.v 8)
    (.blk 3 [ki64]
     (.nd (.pr (.len [ki64, ki64, ki64, ki64, (.sl [ki64])]) [(.v 0)])
     (.nd (.pr (.ixc .i64) [(.v 6), (.v 9)])
     (.nd (.pr (.get [ki64, ki64, ki64, ki64, (.sl [ki64])] 0) [(.v 0), (.v 10)])
     (.nd (.pr (.get [ki64, ki64, ki64, ki64, (.sl [ki64])] 1) [(.v 0), (.v 10)])
     (.nd (.pr (.get [ki64, ki64, ki64, ki64, (.sl [ki64])] 2) [(.v 0), (.v 10)])
     (.nd (.pr (.get [ki64, ki64, ki64, ki64, (.sl [ki64])] 3) [(.v 0), (.v 10)])
     (.nd (.pr (.get [ki64, ki64, ki64, ki64, (.sl [ki64])] 4) [(.v 0), (.v 10)])
     (.nd (.call 2 [(.v 11), (.v 12), (.v 13), (.v 14), (.v 15), (.v 5)] [ki64, ki64, ki64, ki64, (.sl [ki64]), ki64] [ki64])
     (.nd (.pr (.cmp .lss .i64) [(.v 16), (.k (.i 0))])
     (.ite (.v 17)
      (.out 1 [(.k (.i (-1)))])
      (.out 0 [(.v 16)])))))))))))
    (.nd (.pr (.bin .add .i64) [(.v 6), (.k (.i 1))])
    (.out 0 [(.v 9), (.v 10)])))
    (.out 2 [(.v 5)])))))
 (.out 1 [(.v 5)]))))))
def e3 : Fe := ⟨⟨5, [(.sl [ki64, ki64, ki64, ki64, (.sl [ki64])]), ki64], [(.lz true [ki64, ki64, ki64, ki64, (.sl [ki64])] (.v 0)), (.dat ki64 (.v 1))], [], [ki64], [(.dat ki64 (.v 2))], [], 0⟩,
 ⟨[(61, ⟨[ki64], [(1, (.dat ki64 (.v 5)))], [], 0⟩), (122, ⟨[ki64, ki64], [(0, (.lz true [ki64, ki64, ki64, ki64, (.sl [ki64])] (.v 0))), (1, (.dat ki64 (.v 5))), (5, (.dat ki64 (.v 6)))], [], 0⟩), (978, ⟨[ki64], [(0, (.lz true [ki64, ki64, ki64, ki64, (.sl [ki64])] (.v 0))), (1, (.dat ki64 (.v 9))), (5, (.dat ki64 (.v 6)))], [], 0⟩)], []⟩,
 [(4, (.dat ki64 (.v 2)))], some t3, fun _ => none⟩
/-- loop.example/g00709/laws.toIntS -/
def t4 : Tr :=
(.nd (.pr (.len [ki64]) [(.v 0)])
(.nd (.pr (.mkz [ki64] .i64 8 [(.i 0)]) [(.v 1)])
(.nd (.pr (.len [ki64]) [(.v 2)])
(.blk 2 [(.sl [ki64])]
 (.loop [ki64, (.sl [ki64])] [(.k (.i 0)), (.v 2)]
  (.nd (.pr (.len [ki64]) [(.v 5)])
  (.nd (.pr (.len [ki64]) [(.v 0)])
  (.nd (.pr (.cmp .lss .i64) [(.v 4), (.v 7)])
  (.ite (.v 8)
   (.blk 3 [(.sl [ki64])]
    (.nd (.pr (.len [ki64]) [(.v 0)])
    (.nd (.pr (.ixc .i64) [(.v 4), (.v 9)])
    (.nd (.pr (.get [ki64] 0) [(.v 0), (.v 10)])
    (.nd (.pr (.ixc .i64) [(.v 4), (.v 6)])
    (.nd (.pr (.set [ki64] 0) [(.v 5), (.v 12), (.v 11)])
    (.out 0 [(.v 13)]))))))
   (.nd (.pr (.len [ki64]) [(.v 9)])
   (.nd (.pr (.bin .add .i64) [(.v 4), (.k (.i 1))])
   (.out 0 [(.v 11), (.v 9)]))))
   (.out 2 [(.v 5)]))))))
(.nd (.pr (.len [ki64]) [(.v 4)])
(.out 1 [(.v 4)]))))))
def e4 : Fe := ⟨⟨42, [(.sl [ki64])], [(.lz true [ki64] (.v 0))], [], [(.sl [ki64])], [(.sl 0 (.k (.i 0)) (.v 2) 1)], [(0, (.arr .pl [ki64] (.v 1) (.v 2)))], 1⟩,
 ⟨[(29, ⟨[(.sl [ki64])], [(3, (.sl 0 (.k (.i 0)) (.v 5) 1))], [(0, (.arr .pl [ki64] (.v 4) (.v 5)))], 1⟩), (58, ⟨[ki64, (.sl [ki64])], [(0, (.lz true [ki64] (.v 0))), (3, (.sl 0 (.k (.i 0)) (.v 6) 1)), (4, (.dat ki64 (.v 4)))], [(0, (.arr .pl [ki64] (.v 5) (.v 6)))], 1⟩), (466, ⟨[(.sl [ki64])], [(0, (.lz true [ki64] (.v 0))), (3, (.sl 0 (.k (.i 0)) (.v 10) 1)), (4, (.dat ki64 (.v 4)))], [(0, (.arr .pl [ki64] (.v 9) (.v 10)))], 1⟩)], []⟩,
 [(2, (.sl 0 (.k (.i 0)) (.v 2) 1))], some t4, fun _ => none⟩
/-- loop.example/g00709/laws.toReq -/
def t5 : Tr :=
(.nd (.call 4 [(.v 1)] [(.sl [ki64])] [(.sl [ki64])])
(.nd (.pr (.len [ki64]) [(.v 2)])
(.out 1 [(.v 2)])))
def e5 : Fe := ⟨⟨34, [ki64, (.sl [ki64])], [(.agg [(.dat ki64 (.v 0)), (.lz true [ki64] (.v 1))])], [], [(.sl [ki64])], [(.agg [(.dat ki64 (.v 0)), (.sl 1 (.k (.i 0)) (.v 3) 1)])], [(0, (.cells [(.dat ki64 (.v 0)), (.sl 1 (.k (.i 0)) (.v 3) 1)])), (1, (.arr .pl [ki64] (.v 2) (.v 3)))], 2⟩,
 ⟨[], []⟩,
 [(2, (.ptr 0 0))], some t5, fun _ => none⟩
/-- loop.example/g00709/laws.toEvent -/
def t6 : Tr :=
(.nd (.call 5 [(.v 3), (.v 4)] [ki64, (.sl [ki64])] [(.sl [ki64])])
(.nd (.pr (.len [ki64]) [(.v 5)])
(.out 1 [(.v 5)])))
def e6 : Fe := ⟨⟨22, [ki64, ki64, ki64, ki64, (.sl [ki64])], [(.agg [(.dat ki64 (.v 0)), (.dat ki64 (.v 1)), (.dat ki64 (.v 2)), (.dat ki64 (.v 3)), (.lz true [ki64] (.v 4))])], [], [(.sl [ki64])], [(.agg [(.dat ki64 (.v 0)), (.dat ki64 (.v 1)), (.dat ki64 (.v 2)), (.dat ki64 (.v 3)), (.sl 1 (.k (.i 0)) (.v 6) 1)])], [(0, (.cells [(.dat ki64 (.v 0)), (.dat ki64 (.v 1)), (.dat ki64 (.v 2)), (.dat ki64 (.v 3)), (.sl 1 (.k (.i 0)) (.v 6) 1)])), (1, (.arr .pl [ki64] (.v 5) (.v 6)))], 2⟩,
 ⟨[], []⟩,
 [(2, (.ptr 0 0))], some t6, fun _ => none⟩
/-- loop.example/g00709/laws.toEventS -/
def t7 : Tr :=
(.nd (.pr (.len [ki64, ki64, ki64, ki64, (.sl [ki64])]) [(.v 0)])
(.nd (.pr (.mkz [ki64, ki64, ki64, ki64, (.sl [ki64])] .i64 56 [(.i 0), (.i 0), (.i 0), (.i 0), (.l [])]) [(.v 1)])
(.nd (.pr (.len [ki64, ki64, ki64, ki64, (.sl [ki64])]) [(.v 2)])
(.blk 2 [(.sl [ki64, ki64, ki64, ki64, (.sl [ki64])])]
 (.loop [ki64, (.sl [ki64, ki64, ki64, ki64, (.sl [ki64])])] [(.k (.i 0)), (.v 2)]
  (.nd (.pr (.len [ki64, ki64, ki64, ki64, (.sl [ki64])]) [(.v 5)])
  (.nd (.pr (.len [ki64, ki64, ki64, ki64, (.sl [ki64])]) [(.v 0)])
  (.nd (.pr (.cmp .lss .i64) [(.v 4), (.v 7)])
  (.ite (.v 8)
   (.blk 3 [(.sl [ki64, ki64, ki64, ki64, (.sl [ki64])])]
    (.nd (.pr (.len [ki64, ki64, ki64, ki64, (.sl [ki64])]) [(.v 0)])
    (.nd (.pr (.ixc .i64) [(.v 4), (.v 9)])
    (.nd (.pr (.get [ki64, ki64, ki64, ki64, (.sl [ki64])] 0) [(.v 0), (.v 10)])
    (.nd (.pr (.get [ki64, ki64, ki64, ki64, (.sl [ki64])] 1) [(.v 0), (.v 10)])
    (.nd (.pr (.get [ki64, ki64, ki64, ki64, (.sl [ki64])] 2) [(.v 0), (.v 10)])
    (.nd (.pr (.get [ki64, ki64, ki64, ki64, (.sl [ki64])] 3) [(.v 0), (.v 10)])
    (.nd (.pr (.get [ki64, ki64, ki64, ki64, (.sl [ki64])] 4) [(.v 0), (.v 10)])
    (.nd (.call 6 [(.v 11), (.v 12), (.v 13), (.v 14), (.v 15)] [ki64, ki64, ki64, ki64, (.sl [ki64])] [(.sl [ki64])])
    (.nd (.pr (.len [ki64]) [(.v 16)])
    (.nd (.pr (.ixc .i64) [(.v 4), (.v 6)])
    (.nd (.pr (.set [ki64, ki64, ki64, ki64, (.sl [ki64])] 0) [(.v 5), (.v 18), (.v 11)])
    (.nd (.pr (.set [ki64, ki64, ki64, ki64, (.sl [ki64])] 1) [(.v 19), (.v 18), (.v 12)])
    (.nd (.pr (.set [ki64, ki64, ki64, ki64, (.sl [ki64])] 2) [(.v 20), (.v 18), (.v 13)])
    (.nd (.pr (.set [ki64, ki64, ki64, ki64, (.sl [ki64])] 3) [(.v 21), (.v 18), (.v 14)])
    (.nd (.pr (.set [ki64, ki64, ki64, ki64, (.sl [ki64])] 4) [(.v 22), (.v 18), (.v 16)])
    (.out 0 [(.v 23)]))))))))))))))))
   (.nd (.pr (.len [ki64, ki64, ki64, ki64, (.sl [ki64])]) [(.v 9)])
   (.nd (.pr (.bin .add .i64) [(.v 4), (.k (.i 1))])
   (.out 0 [(.v 11), (.v 9)]))))
   (.out 2 [(.v 5)]))))))
(.nd (.pr (.len [ki64, ki64, ki64, ki64, (.sl [ki64])]) [(.v 4)])
(.out 1 [(.v 4)]))))))
def e7 : Fe := ⟨⟨7, [(.sl [ki64, ki64, ki64, ki64, (.sl [ki64])])], [(.lz true [ki64, ki64, ki64, ki64, (.sl [ki64])] (.v 0))], [], [(.sl [ki64, ki64, ki64, ki64, (.sl [ki64])])], [(.sl 0 (.k (.i 0)) (.v 2) 5)], [(0, (.arr (.ow none) [ki64, ki64, ki64, ki64, (.sl [ki64])] (.v 1) (.v 2)))], 1⟩,
 ⟨[(29, ⟨[(.sl [ki64, ki64, ki64, ki64, (.sl [ki64])])], [(3, (.sl 0 (.k (.i 0)) (.v 5) 5))], [(0, (.arr (.ow none) [ki64, ki64, ki64, ki64, (.sl [ki64])] (.v 4) (.v 5)))], 1⟩), (58, ⟨[ki64, (.sl [ki64, ki64, ki64, ki64, (.sl [ki64])])], [(0, (.lz true [ki64, ki64, ki64, ki64, (.sl [ki64])] (.v 0))), (3, (.sl 0 (.k (.i 0)) (.v 6) 5)), (4, (.dat ki64 (.v 4)))], [(0, (.arr (.ow none) [ki64, ki64, ki64, ki64, (.sl [ki64])] (.v 5) (.v 6)))], 1⟩), (466, ⟨[(.sl [ki64, ki64, ki64, ki64, (.sl [ki64])])], [(0, (.lz true [ki64, ki64, ki64, ki64, (.sl [ki64])] (.v 0))), (3, (.sl 0 (.k (.i 0)) (.v 10) 5)), (4, (.dat ki64 (.v 4)))], [(0, (.arr (.ow none) [ki64, ki64, ki64, ki64, (.sl [ki64])] (.v 9) (.v 10)))], 1⟩)], [(0, [2])]⟩,
 [(2, (.sl 0 (.k (.i 0)) (.v 2) 5))], some t7, fun _ => none⟩
/-- loop.example/g00709/spec.ReqOk -/
def t8 : Tr :=
(.seq [kb]
 (.nd (.pr (.len [ki64]) [(.v 1)])
 (.nd (.pr (.cmp .neq .i64) [(.v 2), (.k (.i 8))])
 (.ite (.v 3)
  (.out 0 [(.k (.b true))])
  (.nd (.pr (.cmp .neq .i64) [(.v 0), (.k (.i 1))])
  (.ite (.v 4)
   (.nd (.pr (.cmp .neq .i64) [(.v 0), (.k (.i 2))])
   (.out 0 [(.v 5)]))
   (.out 0 [(.k (.b false))]))))))
(.ite (.v 2)
 (.out 1 [(.k (.b false))])
 (.blk 2 []
  (.loop [ki64] [(.k (.i 0))]
   (.nd (.pr (.len [ki64]) [(.v 1)])
   (.nd (.pr (.cmp .lss .i64) [(.v 3), (.v 4)])
   (.ite (.v 5)
    (.blk 3 []
     (.nd (.pr (.len [ki64]) [(.v 1)])
     (.nd (.pr (.ixc .i64) [(.v 3), (.v 6)])
     (.nd (.pr (.get [ki64] 0) [(.v 1), (.v 7)])
     (.seq [kb]
      (.nd (.pr (.cmp .eql .i64) [(.v 0), (.k (.i 1))])
      (.ite (.v 9)
       (.nd (.pr (.cmp .lss .i64) [(.v 8), (.k (.i 0))])
       (.ite (.v 10)
        (.out 0 [(.k (.b true))])
        (.nd (.pr (.cmp .gtr .i64) [(.v 8), (.k (.i 256))])
        (.ite (.v 11)
         (.out 0 [(.k (.b true))])
         (.nd (.pr (.cmp .eql .i64) [(.v 0), (.k (.i 2))])
         (.ite (.v 12)
          (.nd (.pr (.cmp .lss .i64) [(.v 8), (.k (.i (-1)))])
          (.ite (.v 13)
           (.out 0 [(.k (.b true))])
           (.nd (.pr (.cmp .gtr .i64) [(.v 8), (.k (.i 4095))])
           (.out 0 [(.v 14)]))))
          (.out 0 [(.k (.b false))])))))))
       (.nd (.pr (.cmp .eql .i64) [(.v 0), (.k (.i 2))])
       (.ite (.v 10)
        (.nd (.pr (.cmp .lss .i64) [(.v 8), (.k (.i (-1)))])
        (.ite (.v 11)
         (.out 0 [(.k (.b true))])
         (.nd (.pr (.cmp .gtr .i64) [(.v 8), (.k (.i 4095))])
         (.out 0 [(.v 12)]))))
        (.out 0 [(.k (.b false))])))))
     (.ite (.v 9)
      (.out 1 [(.k (.b false))])
      (.out 0 []))))))
    (.nd (.pr (.bin .add .i64) [(.v 3), (.k (.i 1))])
    (.out 0 [(.v 6)])))
    (.out 2 [])))))
 (.out 1 [(.k (.b true))]))))
def e8 : Fe := ⟨⟨32, [ki64, (.sl [ki64])], [(.agg [(.dat ki64 (.v 0)), (.lz true [ki64] (.v 1))])], [], [kb], [(.dat kb (.v 2))], [], 0⟩,
 ⟨[(29, ⟨[], [], [], 0⟩), (58, ⟨[ki64], [(1, (.ptr 0 0)), (3, (.dat ki64 (.v 3)))], [(0, (.cells [(.dat ki64 (.v 0)), (.lz true [ki64] (.v 1))]))], 1⟩), (466, ⟨[], [(1, (.ptr 0 0)), (3, (.dat ki64 (.v 3)))], [(0, (.cells [(.dat ki64 (.v 0)), (.lz true [ki64] (.v 1))]))], 1⟩), (1865, ⟨[kb], [(1, (.ptr 0 0)), (3, (.dat ki64 (.v 3))), (54, (.dat kb (.v 9)))], [(0, (.cells [(.dat ki64 (.v 0)), (.lz true [ki64] (.v 1))]))], 1⟩), (6, ⟨[kb], [(1, (.ptr 0 0)), (18, (.dat kb (.v 2)))], [(0, (.cells [(.dat ki64 (.v 0)), (.lz true [ki64] (.v 1))]))], 1⟩)], []⟩,
 [(2, (.dat kb (.v 2)))], some t8, fun _ => none⟩
/-- loop.example/g00709/spec.EventOk -/
def t9 : Tr :=
(.seq [kb]
 (.nd (.pr (.cmp .eql .i64) [(.v 3), (.k (.i 0))])
 (.ite (.v 5)
  (.nd (.pr (.len [ki64]) [(.v 4)])
  (.nd (.pr (.cmp .eql .i64) [(.v 6), (.k (.i 0))])
  (.out 0 [(.v 7)])))
  (.out 0 [(.k (.b false))])))
(.seq [kb]
 (.nd (.pr (.cmp .geq .i64) [(.v 1), (.k (.i 0))])
 (.ite (.v 6)
  (.nd (.pr (.cmp .lss .i64) [(.v 1), (.k (.i 4))])
  (.out 0 [(.v 7)]))
  (.out 0 [(.k (.b false))])))
(.blk 2 []
 (.nd (.pr (.cmp .eql .i64) [(.v 0), (.k (.i 1))])
 (.ite (.v 7)
  (.seq [kb]
   (.ite (.v 6)
    (.nd (.pr (.cmp .eql .i64) [(.v 2), (.k (.i 0))])
    (.ite (.v 8)
     (.nd (.call 8 [(.v 3), (.v 4)] [ki64, (.sl [ki64])] [kb])
     (.out 0 [(.v 9)]))
     (.out 0 [(.k (.b false))])))
    (.out 0 [(.k (.b false))]))
  (.out 1 [(.v 8)]))
  (.nd (.pr (.cmp .eql .i64) [(.v 0), (.k (.i 2))])
  (.ite (.v 8)
   (.seq [kb]
    (.ite (.v 6)
     (.nd (.pr (.cmp .eql .i64) [(.v 2), (.k (.i 0))])
     (.ite (.v 9)
      (.out 0 [(.v 5)])
      (.out 0 [(.k (.b false))])))
     (.out 0 [(.k (.b false))]))
   (.out 1 [(.v 9)]))
   (.nd (.pr (.cmp .eql .i64) [(.v 0), (.k (.i 3))])
   (.ite (.v 9)
    (.seq [kb]
     (.nd (.pr (.cmp .eql .i64) [(.v 1), (.k (.i 0))])
     (.ite (.v 10)
      (.nd (.pr (.cmp .geq .i64) [(.v 2), (.k (.i 1))])
      (.ite (.v 11)
       (.nd (.pr (.cmp .leq .i64) [(.v 2), (.k (.i 16))])
       (.ite (.v 12)
        (.out 0 [(.v 5)])
        (.out 0 [(.k (.b false))])))
       (.out 0 [(.k (.b false))])))
      (.out 0 [(.k (.b false))])))
    (.out 1 [(.v 10)]))
    (.out 0 [])))))))
(.out 1 [(.k (.b false))]))))
def e9 : Fe := ⟨⟨19, [ki64, ki64, ki64, ki64, (.sl [ki64])], [(.agg [(.dat ki64 (.v 0)), (.dat ki64 (.v 1)), (.dat ki64 (.v 2)), (.dat ki64 (.v 3)), (.lz true [ki64] (.v 4))])], [], [kb], [(.dat kb (.v 5))], [], 0⟩,
 ⟨[(61, ⟨[], [], [], 0⟩), (7870, ⟨[kb], [(2, (.dat kb (.v 10)))], [], 0⟩), (1966, ⟨[kb], [(2, (.dat kb (.v 9)))], [], 0⟩), (490, ⟨[kb], [(2, (.dat kb (.v 8)))], [], 0⟩), (7, ⟨[kb], [(1, (.ptr 0 0)), (3, (.dat kb (.v 5))), (4, (.dat kb (.v 6)))], [(0, (.cells [(.dat ki64 (.v 0)), (.dat ki64 (.v 1)), (.dat ki64 (.v 2)), (.dat ki64 (.v 3)), (.lz true [ki64] (.v 4))]))], 1⟩), (3, ⟨[kb], [(1, (.ptr 0 0)), (3, (.dat kb (.v 5)))], [(0, (.cells [(.dat ki64 (.v 0)), (.dat ki64 (.v 1)), (.dat ki64 (.v 2)), (.dat ki64 (.v 3)), (.lz true [ki64] (.v 4))]))], 1⟩)], []⟩,
 [(2, (.dat kb (.v 5)))], some t9, fun _ => none⟩
/-- loop.example/g00709/spec.NumBytes -/
def t10 : Tr :=
(.seq [kb]
 (.nd (.pr (.cmp .lss .i64) [(.v 0), (.k (.i 0))])
 (.ite (.v 1)
  (.out 0 [(.k (.b true))])
  (.nd (.pr (.cmp .gtr .i64) [(.v 0), (.k (.i 65535))])
  (.out 0 [(.v 2)]))))
(.ite (.v 1)
 (.out 1 [(.k (.l []))])
 (.blk 2 [ki64, (.sl [ku8])]
  (.loop [ki64, (.sl [ku8])] [(.v 0), (.k (.l []))]
   (.nd (.pr (.len [ku8]) [(.v 3)])
   (.nd (.pr (.cmp .geq .i64) [(.v 2), (.k (.i 128))])
   (.ite (.v 5)
    (.blk 3 [ki64, (.sl [ku8])]
     (.nd (.pr (.bin .rem .i64) [(.v 2), (.k (.i 128))])
     (.nd (.pr (.bin .add .i64) [(.k (.i 128)), (.v 6)])
     (.nd (.pr (.conv .i64 .u8) [(.v 7)])
     (.nd (.pr (.mk [ku8] 1) [(.v 8)])
     (.nd (.pr (.app [ku8] 1) [(.v 3), (.v 9)])
     (.nd (.pr (.len [ku8]) [(.v 10)])
     (.nd (.pr (.bin .quo .i64) [(.v 2), (.k (.i 128))])
     (.out 0 [(.v 12), (.v 10)]))))))))
    (.nd (.pr (.len [ku8]) [(.v 7)])
    (.out 0 [(.v 6), (.v 7)])))
    (.out 2 [(.v 2), (.v 3)])))))
 (.nd (.pr (.len [ku8]) [(.v 3)])
 (.nd (.pr (.conv .i64 .u8) [(.v 2)])
 (.nd (.pr (.mk [ku8] 1) [(.v 5)])
 (.nd (.pr (.app [ku8] 1) [(.v 3), (.v 6)])
 (.nd (.pr (.len [ku8]) [(.v 7)])
 (.out 1 [(.v 7)])))))))))
def e10 : Fe := ⟨⟨33, [ki64], [(.dat ki64 (.v 0))], [], [(.sl [ku8])], [(.sl 0 (.k (.i 0)) (.v 2) 1)], [(0, (.arr .pl [ku8] (.v 1) (.v 2)))], 1⟩,
 ⟨[(30, ⟨[ki64, (.sl [ku8])], [(0, (.dat ki64 (.v 2))), (3, (.sl 0 (.k (.i 0)) (.v 4) 1))], [(0, (.arr .pl [ku8] (.v 3) (.v 4)))], 1⟩), (60, ⟨[ki64, (.sl [ku8])], [(0, (.dat ki64 (.v 2))), (3, (.sl 0 (.k (.i 0)) (.v 4) 1))], [(0, (.arr .pl [ku8] (.v 3) (.v 4)))], 1⟩), (241, ⟨[ki64, (.sl [ku8])], [(0, (.dat ki64 (.v 6))), (3, (.sl 0 (.k (.i 0)) (.v 8) 1))], [(0, (.arr .pl [ku8] (.v 7) (.v 8)))], 1⟩), (6, ⟨[kb], [(0, (.dat ki64 (.v 0))), (9, (.dat kb (.v 1)))], [], 0⟩)], []⟩,
 [(2, (.sl 0 (.k (.i 0)) (.v 2) 1))], some t10, fun _ => none⟩
/-- loop.example/g00709/spec.EventBytes -/
def t11 : Tr :=
(.nd (.call 9 [(.v 0), (.v 1), (.v 2), (.v 3), (.v 4)] [ki64, ki64, ki64, ki64, (.sl [ki64])] [kb])
(.nd (.pr .not [(.v 5)])
(.ite (.v 6)
 (.out 1 [(.k (.l []))])
 (.nd (.pr (.conv .i64 .u8) [(.v 0)])
 (.nd (.pr (.mk [ku8] 1) [(.v 7)])
 (.blk 2 []
  (.nd (.pr (.cmp .eql .i64) [(.v 0), (.k (.i 3))])
  (.ite (.v 9)
   (.nd (.call 10 [(.v 2)] [ki64] [(.sl [ku8])])
   (.nd (.pr (.len [ku8]) [(.v 10)])
   (.nd (.pr (.app [ku8] 1) [(.v 8), (.v 10)])
   (.nd (.pr (.len [ku8]) [(.v 12)])
   (.out 1 [(.v 12)])))))
   (.nd (.pr (.cmp .eql .i64) [(.v 0), (.k (.i 2))])
   (.ite (.v 10)
    (.nd (.call 10 [(.v 1)] [ki64] [(.sl [ku8])])
    (.nd (.pr (.len [ku8]) [(.v 11)])
    (.nd (.pr (.app [ku8] 1) [(.v 8), (.v 11)])
    (.nd (.pr (.len [ku8]) [(.v 13)])
    (.out 1 [(.v 13)])))))
    (.out 0 [])))))
 (.nd (.pr (.len [ku8]) [(.v 8)])
 (.nd (.pr (.conv .i64 .u8) [(.v 3)])
 (.nd (.call 10 [(.v 1)] [ki64] [(.sl [ku8])])
 (.nd (.pr (.len [ku8]) [(.v 11)])
 (.nd (.pr (.app [ku8] 1) [(.v 8), (.v 11)])
 (.nd (.pr (.len [ku8]) [(.v 13)])
 (.nd (.pr (.mk [ku8] 1) [(.v 10)])
 (.nd (.pr (.app [ku8] 1) [(.v 13), (.v 15)])
 (.nd (.pr (.len [ku8]) [(.v 16)])
 (.blk 3 [(.sl [ku8])]
  (.loop [ki64, (.sl [ku8])] [(.k (.i 0)), (.v 16)]
   (.nd (.pr (.len [ku8]) [(.v 19)])
   (.nd (.pr (.len [ki64]) [(.v 4)])
   (.nd (.pr (.cmp .lss .i64) [(.v 18), (.v 21)])
   (.ite (.v 22)
    (.blk 4 [(.sl [ku8])]
     (.nd (.pr (.len [ki64]) [(.v 4)])
     (.nd (.pr (.ixc .i64) [(.v 18), (.v 23)])
     (.nd (.pr (.get [ki64] 0) [(.v 4), (.v 24)])
     (.nd (.pr (.bin .add .i64) [(.v 25), (.k (.i 1))])
     (.nd (.call 10 [(.v 26)] [ki64] [(.sl [ku8])])
     (.nd (.pr (.len [ku8]) [(.v 27)])
     (.nd (.pr (.app [ku8] 1) [(.v 19), (.v 27)])
     (.nd (.pr (.len [ku8]) [(.v 29)])
     (.out 0 [(.v 29)])))))))))
    (.nd (.pr (.len [ku8]) [(.v 23)])
    (.nd (.pr (.bin .add .i64) [(.v 18), (.k (.i 1))])
    (.out 0 [(.v 25), (.v 23)]))))
    (.out 3 [(.v 19)]))))))
 (.nd (.pr (.len [ku8]) [(.v 18)])
 (.out 1 [(.v 18)]))))))))))))))))))
def e11 : Fe := ⟨⟨21, [ki64, ki64, ki64, ki64, (.sl [ki64])], [(.agg [(.dat ki64 (.v 0)), (.dat ki64 (.v 1)), (.dat ki64 (.v 2)), (.dat ki64 (.v 3)), (.lz true [ki64] (.v 4))])], [], [(.sl [ku8])], [(.sl 0 (.k (.i 0)) (.v 6) 1)], [(0, (.arr .pl [ku8] (.v 5) (.v 6)))], 1⟩,
 ⟨[(253, ⟨[(.sl [ku8])], [(3, (.sl 0 (.k (.i 0)) (.v 19) 1))], [(0, (.arr .pl [ku8] (.v 18) (.v 19)))], 1⟩), (506, ⟨[ki64, (.sl [ku8])], [(1, (.ptr 0 0)), (3, (.sl 1 (.k (.i 0)) (.v 20) 1)), (4, (.dat ki64 (.v 18)))], [(0, (.cells [(.dat ki64 (.v 0)), (.dat ki64 (.v 1)), (.dat ki64 (.v 2)), (.dat ki64 (.v 3)), (.lz true [ki64] (.v 4))])), (1, (.arr .pl [ku8] (.v 19) (.v 20)))], 2⟩), (4050, ⟨[(.sl [ku8])], [(1, (.ptr 0 0)), (3, (.sl 1 (.k (.i 0)) (.v 24) 1)), (4, (.dat ki64 (.v 18)))], [(0, (.cells [(.dat ki64 (.v 0)), (.dat ki64 (.v 1)), (.dat ki64 (.v 2)), (.dat ki64 (.v 3)), (.lz true [ki64] (.v 4))])), (1, (.arr .pl [ku8] (.v 23) (.v 24)))], 2⟩), (61, ⟨[], [(1, (.ptr 0 0)), (3, (.sl 1 (.k (.i 0)) (.v 9) 1))], [(0, (.cells [(.dat ki64 (.v 0)), (.dat ki64 (.v 1)), (.dat ki64 (.v 2)), (.dat ki64 (.v 3)), (.lz true [ki64] (.v 4))])), (1, (.arr .pl [ku8] (.v 8) (.v 9)))], 2⟩)], [(62, [1])]⟩,
 [(2, (.sl 0 (.k (.i 0)) (.v 6) 1))], some t11, fun _ => none⟩
/-- loop.example/g00709/spec.l14Record -/
def t12 : Tr :=
(.blk 2 [ki64]
 (.loop [ki64, ki64] [(.k (.i 0)), (.k (.i 0))]
  (.nd (.pr (.len [ku8]) [(.v 0)])
  (.nd (.pr (.cmp .lss .i64) [(.v 2), (.v 3)])
  (.ite (.v 4)
   (.blk 3 [ki64]
    (.nd (.pr (.len [ku8]) [(.v 0)])
    (.nd (.pr (.ixc .i64) [(.v 2), (.v 5)])
    (.nd (.pr (.get [ku8] 0) [(.v 0), (.v 6)])
    (.nd (.pr (.conv .u8 .i64) [(.v 7)])
    (.nd (.pr (.bin .add .i64) [(.v 1), (.v 8)])
    (.out 0 [(.v 9)]))))))
   (.nd (.pr (.bin .add .i64) [(.v 2), (.k (.i 1))])
   (.out 0 [(.v 5), (.v 6)])))
   (.out 2 [(.v 1)])))))
(.nd (.pr (.len [ku8]) [(.v 0)])
(.nd (.pr (.conv .i64 .u8) [(.v 2)])
(.nd (.pr (.mk [ku8] 1) [(.v 3)])
(.nd (.pr (.app [ku8] 1) [(.v 4), (.v 0)])
(.nd (.pr (.len [ku8]) [(.v 5)])
(.nd (.pr (.bin .rem .i64) [(.v 1), (.k (.i 251))])
(.nd (.pr (.conv .i64 .u8) [(.v 7)])
(.nd (.pr (.mk [ku8] 1) [(.v 8)])
(.nd (.pr (.app [ku8] 1) [(.v 5), (.v 9)])
(.nd (.pr (.len [ku8]) [(.v 10)])
(.out 1 [(.v 10)]))))))))))))
def e12 : Fe := ⟨⟨20, [(.sl [ku8])], [(.lz true [ku8] (.v 0))], [], [(.sl [ku8])], [(.sl 0 (.k (.i 0)) (.v 2) 1)], [(0, (.arr .pl [ku8] (.v 1) (.v 2)))], 1⟩,
 ⟨[(29, ⟨[ki64], [(0, (.lz true [ku8] (.v 0))), (3, (.dat ki64 (.v 1)))], [], 0⟩), (58, ⟨[ki64, ki64], [(0, (.lz true [ku8] (.v 0))), (3, (.dat ki64 (.v 1))), (4, (.dat ki64 (.v 2)))], [], 0⟩), (466, ⟨[ki64], [(0, (.lz true [ku8] (.v 0))), (3, (.dat ki64 (.v 5))), (4, (.dat ki64 (.v 2)))], [], 0⟩)], []⟩,
 [(2, (.sl 0 (.k (.i 0)) (.v 2) 1))], some t12, fun _ => none⟩
/-- loop.example/g00709/spec.LogOf -/
def t13 : Tr :=
(.nd (.pr (.len [ki64, ki64, ki64, ki64, (.sl [ki64])]) [(.v 0)])
(.nd (.pr (.cmp .gtr .i64) [(.v 1), (.k (.i 400))])
(.ite (.v 2)
 (.out 1 [(.k (.b false)), (.k (.l []))])
 (.blk 2 [(.sl [ku8])]
  (.loop [ki64, (.sl [ku8])] [(.k (.i 0)), (.k (.l []))]
   (.nd (.pr (.len [ku8]) [(.v 4)])
   (.nd (.pr (.len [ki64, ki64, ki64, ki64, (.sl [ki64])]) [(.v 0)])
   (.nd (.pr (.cmp .lss .i64) [(.v 3), (.v 6)])
   (.ite (.v 7)
    (.blk 3 [(.sl [ku8])]
     (.nd (.pr (.len [ki64, ki64, ki64, ki64, (.sl [ki64])]) [(.v 0)])
     (.nd (.pr (.ixc .i64) [(.v 3), (.v 8)])
     (.nd (.pr (.get [ki64, ki64, ki64, ki64, (.sl [ki64])] 0) [(.v 0), (.v 9)])
     (.nd (.pr (.get [ki64, ki64, ki64, ki64, (.sl [ki64])] 1) [(.v 0), (.v 9)])
     (.nd (.pr (.get [ki64, ki64, ki64, ki64, (.sl [ki64])] 2) [(.v 0), (.v 9)])
     (.nd (.pr (.get [ki64, ki64, ki64, ki64, (.sl [ki64])] 3) [(.v 0), (.v 9)])
     (.nd (.pr (.get [ki64, ki64, ki64, ki64, (.sl [ki64])] 4) [(.v 0), (.v 9)])
     (.nd (.call 9 [(.v 10), (.v 11), (.v 12), (.v 13), (.v 14)] [ki64, ki64, ki64, ki64, (.sl [ki64])] [kb])
     (.nd (.pr .not [(.v 15)])
     (.ite (.v 16)
      (.out 1 [(.k (.b false)), (.k (.l []))])
      (.nd (.pr (.len [ki64, ki64, ki64, ki64, (.sl [ki64])]) [(.v 0)])
      (.nd (.pr (.ixc .i64) [(.v 3), (.v 17)])
      (.nd (.pr (.get [ki64, ki64, ki64, ki64, (.sl [ki64])] 0) [(.v 0), (.v 18)])
      (.nd (.pr (.get [ki64, ki64, ki64, ki64, (.sl [ki64])] 1) [(.v 0), (.v 18)])
      (.nd (.pr (.get [ki64, ki64, ki64, ki64, (.sl [ki64])] 2) [(.v 0), (.v 18)])
      (.nd (.pr (.get [ki64, ki64, ki64, ki64, (.sl [ki64])] 3) [(.v 0), (.v 18)])
      (.nd (.pr (.get [ki64, ki64, ki64, ki64, (.sl [ki64])] 4) [(.v 0), (.v 18)])
      (.nd (.call 11 [(.v 19), (.v 20), (.v 21), (.v 22), (.v 23)] [ki64, ki64, ki64, ki64, (.sl [ki64])] [(.sl [ku8])])
      (.nd (.pr (.len [ku8]) [(.v 24)])
      (.nd (.call 12 [(.v 24)] [(.sl [ku8])] [(.sl [ku8])])
      (.nd (.pr (.len [ku8]) [(.v 26)])
      (.nd (.pr (.app [ku8] 1) [(.v 4), (.v 26)])
      (.nd (.pr (.len [ku8]) [(.v 28)])
      (.out 0 [(.v 28)]))))))))))))))))))))))))
    (.nd (.pr (.len [ku8]) [(.v 8)])
    (.nd (.pr (.bin .add .i64) [(.v 3), (.k (.i 1))])
    (.out 0 [(.v 10), (.v 8)]))))
    (.out 2 [(.v 4)]))))))
 (.nd (.pr (.len [ku8]) [(.v 3)])
 (.out 1 [(.k (.b true)), (.v 3)]))))))
def e13 : Fe := ⟨⟨6, [(.sl [ki64, ki64, ki64, ki64, (.sl [ki64])])], [(.lz true [ki64, ki64, ki64, ki64, (.sl [ki64])] (.v 0))], [], [kb, (.sl [ku8])], [(.sl 0 (.k (.i 0)) (.v 3) 1), (.dat kb (.v 1))], [(0, (.arr .pl [ku8] (.v 2) (.v 3)))], 1⟩,
 ⟨[(61, ⟨[(.sl [ku8])], [(4, (.sl 0 (.k (.i 0)) (.v 4) 1))], [(0, (.arr .pl [ku8] (.v 3) (.v 4)))], 1⟩), (122, ⟨[ki64, (.sl [ku8])], [(0, (.lz true [ki64, ki64, ki64, ki64, (.sl [ki64])] (.v 0))), (4, (.sl 0 (.k (.i 0)) (.v 5) 1)), (5, (.dat ki64 (.v 3)))], [(0, (.arr .pl [ku8] (.v 4) (.v 5)))], 1⟩), (978, ⟨[(.sl [ku8])], [(0, (.lz true [ki64, ki64, ki64, ki64, (.sl [ki64])] (.v 0))), (4, (.sl 0 (.k (.i 0)) (.v 9) 1)), (5, (.dat ki64 (.v 3)))], [(0, (.arr .pl [ku8] (.v 8) (.v 9)))], 1⟩)], []⟩,
 [(2, (.sl 0 (.k (.i 0)) (.v 3) 1)), (3, (.dat kb (.v 1)))], some t13, fun _ => none⟩
/-- loop.example/g00709/impl.within -/
def t14 : Tr :=
(.seq [kb]
 (.nd (.pr (.cmp .geq .i64) [(.v 0), (.v 1)])
 (.ite (.v 3)
  (.nd (.pr (.cmp .leq .i64) [(.v 0), (.v 2)])
  (.out 0 [(.v 4)]))
  (.out 0 [(.k (.b false))])))
(.out 1 [(.v 3)]))
def e14 : Fe := ⟨⟨35, [ki64, ki64, ki64], [(.dat ki64 (.v 0)), (.dat ki64 (.v 1)), (.dat ki64 (.v 2))], [], [kb], [(.dat kb (.v 3))], [], 0⟩,
 ⟨[(3, ⟨[kb], [(6, (.dat kb (.v 3)))], [], 0⟩)], []⟩,
 [(6, (.dat kb (.v 3)))], some t14, fun _ => none⟩
/-- loop.example/g00709/impl.isReq$1 -/
def t15 : Tr :=
(.nd (.call 14 [(.v 0), (.k (.i 0)), (.k (.i 256))] [ki64, ki64, ki64] [kb])
(.nd (.pr .not [(.v 1)])
(.out 1 [(.v 2)])))
def e15 : Fe := ⟨⟨44, [ki64], [(.dat ki64 (.v 0))], [], [kb], [(.dat kb (.v 1))], [], 0⟩,
 ⟨[], []⟩,
 [(2, (.dat kb (.v 1)))], some t15, fun _ => none⟩
/-- loop.example/g00709/impl.isReq$2 -/
def t16 : Tr :=
(.nd (.call 14 [(.v 0), (.k (.i (-1))), (.k (.i 4095))] [ki64, ki64, ki64] [kb])
(.nd (.pr .not [(.v 1)])
(.out 1 [(.v 2)])))
def e16 : Fe := ⟨⟨45, [ki64], [(.dat ki64 (.v 0))], [], [kb], [(.dat kb (.v 1))], [], 0⟩,
 ⟨[], []⟩,
 [(2, (.dat kb (.v 1)))], some t16, fun _ => none⟩
/-- slices.IndexFunc[[]int,int] -/
def t17 : Tr :=
(.nd (.pr (.len [ki64]) [(.v 0)])
(.blk 2 []
 (.loop [ki64] [(.k (.i 0))]
  (.nd (.pr (.cmp .lss .i64) [(.v 2), (.v 1)])
  (.ite (.v 3)
   (.blk 3 []
    (.nd (.pr (.len [ki64]) [(.v 0)])
    (.nd (.pr (.ixc .i64) [(.v 2), (.v 4)])
    (.nd (.pr (.get [ki64] 0) [(.v 0), (.v 5)])
    (.nd (.call 15 [(.v 6)] [ki64] [kb])
    (.ite (.v 7)
     (.out 1 [(.v 2)])
     (.out 0 []))))))
   (.nd (.pr (.bin .add .i64) [(.v 2), (.k (.i 1))])
   (.out 0 [(.v 4)])))
   (.out 2 []))))
(.out 1 [(.k (.i (-1)))])))
def e17 : Fe := ⟨⟨49, [(.sl [ki64])], [(.lz true [ki64] (.v 0)), (.fn 44 [])], [], [ki64], [(.dat ki64 (.v 1))], [], 0⟩,
 ⟨[(13, ⟨[], [], [], 0⟩), (26, ⟨[ki64], [(0, (.lz true [ki64] (.v 0))), (1, (.fn 44 [])), (7, (.dat ki64 (.v 1))), (8, (.dat ki64 (.v 2)))], [], 0⟩), (422, ⟨[], [(0, (.lz true [ki64] (.v 0))), (1, (.fn 44 [])), (7, (.dat ki64 (.v 1))), (8, (.dat ki64 (.v 2)))], [], 0⟩)], []⟩,
 [(4, (.dat ki64 (.v 1)))], some t17, fun _ => none⟩
/-- slices.IndexFunc[[]int,int] -/
def t18 : Tr :=
(.nd (.pr (.len [ki64]) [(.v 0)])
(.blk 2 []
 (.loop [ki64] [(.k (.i 0))]
  (.nd (.pr (.cmp .lss .i64) [(.v 2), (.v 1)])
  (.ite (.v 3)
   (.blk 3 []
    (.nd (.pr (.len [ki64]) [(.v 0)])
    (.nd (.pr (.ixc .i64) [(.v 2), (.v 4)])
    (.nd (.pr (.get [ki64] 0) [(.v 0), (.v 5)])
    (.nd (.call 16 [(.v 6)] [ki64] [kb])
    (.ite (.v 7)
     (.out 1 [(.v 2)])
     (.out 0 []))))))
   (.nd (.pr (.bin .add .i64) [(.v 2), (.k (.i 1))])
   (.out 0 [(.v 4)])))
   (.out 2 []))))
(.out 1 [(.k (.i (-1)))])))
def e18 : Fe := ⟨⟨49, [(.sl [ki64])], [(.lz true [ki64] (.v 0)), (.fn 45 [])], [], [ki64], [(.dat ki64 (.v 1))], [], 0⟩,
 ⟨[(13, ⟨[], [], [], 0⟩), (26, ⟨[ki64], [(0, (.lz true [ki64] (.v 0))), (1, (.fn 45 [])), (7, (.dat ki64 (.v 1))), (8, (.dat ki64 (.v 2)))], [], 0⟩), (422, ⟨[], [(0, (.lz true [ki64] (.v 0))), (1, (.fn 45 [])), (7, (.dat ki64 (.v 1))), (8, (.dat ki64 (.v 2)))], [], 0⟩)], []⟩,
 [(4, (.dat ki64 (.v 1)))], some t18, fun _ => none⟩
/-- slices.ContainsFunc[[]int,int] -/
def t19 : Tr :=
(.nd (.call 17 [(.v 0)] [(.sl [ki64])] [ki64])
(.nd (.pr (.cmp .geq .i64) [(.v 1), (.k (.i 0))])
(.out 1 [(.v 2)])))
def e19 : Fe := ⟨⟨43, [(.sl [ki64])], [(.lz true [ki64] (.v 0)), (.fn 44 [])], [], [kb], [(.dat kb (.v 1))], [], 0⟩,
 ⟨[], []⟩,
 [(4, (.dat kb (.v 1)))], some t19, fun _ => none⟩
/-- slices.ContainsFunc[[]int,int] -/
def t20 : Tr :=
(.nd (.call 18 [(.v 0)] [(.sl [ki64])] [ki64])
(.nd (.pr (.cmp .geq .i64) [(.v 1), (.k (.i 0))])
(.out 1 [(.v 2)])))
def e20 : Fe := ⟨⟨43, [(.sl [ki64])], [(.lz true [ki64] (.v 0)), (.fn 45 [])], [], [kb], [(.dat kb (.v 1))], [], 0⟩,
 ⟨[], []⟩,
 [(4, (.dat kb (.v 1)))], some t20, fun _ => none⟩
/-- loop.example/g00709/impl.isReq -/
def t21 : Tr :=
(.nd (.pr (.len [ki64]) [(.v 1)])
(.nd (.pr (.cmp .neq .i64) [(.v 2), (.k (.i 8))])
(.ite (.v 3)
 (.out 1 [(.k (.b false))])
 (.blk 2 []
  (.nd (.pr (.cmp .eql .i64) [(.v 0), (.k (.i 1))])
  (.ite (.v 4)
   (.nd (.call 19 [(.v 1)] [(.sl [ki64])] [kb])
   (.nd (.pr .not [(.v 5)])
   (.out 1 [(.v 6)])))
   (.nd (.pr (.cmp .eql .i64) [(.v 0), (.k (.i 2))])
   (.ite (.v 5)
    (.nd (.call 20 [(.v 1)] [(.sl [ki64])] [kb])
    (.nd (.pr .not [(.v 6)])
    (.out 1 [(.v 7)])))
    (.out 0 [])))))
 (.out 1 [(.k (.b false))])))))
def e21 : Fe := ⟨⟨36, [ki64, (.sl [ki64])], [(.agg [(.dat ki64 (.v 0)), (.lz true [ki64] (.v 1))])], [], [kb], [(.dat kb (.v 2))], [], 0⟩,
 ⟨[(29, ⟨[], [], [], 0⟩)], []⟩,
 [(2, (.dat kb (.v 2)))], some t21, fun _ => none⟩
/-- loop.example/g00709/impl.isEvent -/
def t22 : Tr :=
(.seq [kb]
 (.nd (.pr (.cmp .eql .i64) [(.v 3), (.k (.i 0))])
 (.ite (.v 5)
  (.nd (.pr (.len [ki64]) [(.v 4)])
  (.nd (.pr (.cmp .eql .i64) [(.v 6), (.k (.i 0))])
  (.out 0 [(.v 7)])))
  (.out 0 [(.k (.b false))])))
(.blk 2 []
 (.nd (.pr (.cmp .eql .i64) [(.v 0), (.k (.i 1))])
 (.ite (.v 6)
  (.seq [kb]
   (.nd (.call 14 [(.v 1), (.k (.i 0)), (.k (.i 3))] [ki64, ki64, ki64] [kb])
   (.ite (.v 7)
    (.nd (.pr (.cmp .eql .i64) [(.v 2), (.k (.i 0))])
    (.ite (.v 8)
     (.nd (.call 21 [(.v 3), (.v 4)] [ki64, (.sl [ki64])] [kb])
     (.out 0 [(.v 9)]))
     (.out 0 [(.k (.b false))])))
    (.out 0 [(.k (.b false))])))
  (.out 1 [(.v 7)]))
  (.nd (.pr (.cmp .eql .i64) [(.v 0), (.k (.i 2))])
  (.ite (.v 7)
   (.seq [kb]
    (.nd (.call 14 [(.v 1), (.k (.i 0)), (.k (.i 3))] [ki64, ki64, ki64] [kb])
    (.ite (.v 8)
     (.nd (.pr (.cmp .eql .i64) [(.v 2), (.k (.i 0))])
     (.ite (.v 9)
      (.out 0 [(.v 5)])
      (.out 0 [(.k (.b false))])))
     (.out 0 [(.k (.b false))])))
   (.out 1 [(.v 8)]))
   (.nd (.pr (.cmp .eql .i64) [(.v 0), (.k (.i 3))])
   (.ite (.v 8)
    (.seq [kb]
     (.nd (.pr (.cmp .eql .i64) [(.v 1), (.k (.i 0))])
     (.ite (.v 9)
      (.nd (.call 14 [(.v 2), (.k (.i 1)), (.k (.i 16))] [ki64, ki64, ki64] [kb])
      (.ite (.v 10)
       (.out 0 [(.v 5)])
       (.out 0 [(.k (.b false))])))
      (.out 0 [(.k (.b false))])))
    (.out 1 [(.v 9)]))
    (.out 0 [])))))))
(.out 1 [(.k (.b false))])))
def e22 : Fe := ⟨⟨23, [ki64, ki64, ki64, ki64, (.sl [ki64])], [(.agg [(.dat ki64 (.v 0)), (.dat ki64 (.v 1)), (.dat ki64 (.v 2)), (.dat ki64 (.v 3)), (.lz true [ki64] (.v 4))])], [], [kb], [(.dat kb (.v 5))], [], 0⟩,
 ⟨[(29, ⟨[], [], [], 0⟩), (3774, ⟨[kb], [(2, (.dat kb (.v 9)))], [], 0⟩), (942, ⟨[kb], [(2, (.dat kb (.v 8)))], [], 0⟩), (234, ⟨[kb], [(2, (.dat kb (.v 7)))], [], 0⟩), (3, ⟨[kb], [(1, (.ptr 0 0)), (3, (.dat kb (.v 5)))], [(0, (.cells [(.dat ki64 (.v 0)), (.dat ki64 (.v 1)), (.dat ki64 (.v 2)), (.dat ki64 (.v 3)), (.lz true [ki64] (.v 4))]))], 1⟩)], []⟩,
 [(2, (.dat kb (.v 5)))], some t22, fun _ => none⟩
/-- loop.example/g00709/impl.numBytes -/
def t23 : Tr :=
(.blk 2 [ki64, (.sl [ku8])]
 (.loop [ki64, (.sl [ku8])] [(.v 1), (.v 0)]
  (.nd (.pr (.len [ku8]) [(.v 4)])
  (.nd (.pr (.cmp .gtr .i64) [(.v 3), (.k (.i 127))])
  (.ite (.v 6)
   (.blk 3 [(.sl [ku8])]
    (.nd (.pr (.bin .and .i64) [(.v 3), (.k (.i 127))])
    (.nd (.pr (.bin .or .i64) [(.v 7), (.k (.i 128))])
    (.nd (.pr (.conv .i64 .u8) [(.v 8)])
    (.nd (.pr (.mk [ku8] 1) [(.v 9)])
    (.nd (.pr (.app [ku8] 1) [(.v 4), (.v 10)])
    (.nd (.pr (.len [ku8]) [(.v 11)])
    (.out 0 [(.v 11)])))))))
   (.nd (.pr (.len [ku8]) [(.v 7)])
   (.nd (.pr (.sh .shr .i64 .u64) [(.v 3), (.k (.i 7))])
   (.out 0 [(.v 9), (.v 7)]))))
   (.out 2 [(.v 3), (.v 4)])))))
(.nd (.pr (.len [ku8]) [(.v 4)])
(.nd (.pr (.conv .i64 .u8) [(.v 3)])
(.nd (.pr (.mk [ku8] 1) [(.v 6)])
(.nd (.pr (.app [ku8] 1) [(.v 4), (.v 7)])
(.nd (.pr (.len [ku8]) [(.v 8)])
(.out 1 [(.v 8)])))))))
def e23 : Fe := ⟨⟨37, [(.sl [ku8]), ki64], [(.sl 0 (.k (.i 0)) (.v 2) 1), (.dat ki64 (.v 1))], [(0, (.arr .pl [ku8] (.v 0) (.v 2)))], [(.sl [ku8])], [(.sl 1 (.k (.i 0)) (.v 3) 1)], [(1, (.arr .pl [ku8] (.v 2) (.v 3)))], 2⟩,
 ⟨[(6, ⟨[ki64, (.sl [ku8])], [(0, (.sl 1 (.k (.i 0)) (.v 5) 1)), (1, (.dat ki64 (.v 3)))], [(1, (.arr .pl [ku8] (.v 4) (.v 5)))], 2⟩), (12, ⟨[ki64, (.sl [ku8])], [(0, (.sl 1 (.k (.i 0)) (.v 5) 1)), (1, (.dat ki64 (.v 3)))], [(1, (.arr .pl [ku8] (.v 4) (.v 5)))], 2⟩), (98, ⟨[(.sl [ku8])], [(0, (.sl 1 (.k (.i 0)) (.v 8) 1)), (1, (.dat ki64 (.v 3)))], [(1, (.arr .pl [ku8] (.v 7) (.v 8)))], 2⟩)], []⟩,
 [(4, (.sl 1 (.k (.i 0)) (.v 3) 1))], some t23, fun _ => none⟩
/-- loop.example/g00709/impl.eventBytes -/
def t24 : Tr :=
(.nd (.pr (.conv .i64 .u8) [(.v 0)])
(.nd (.pr (.mk [ku8] 1) [(.v 5)])
(.blk 2 [(.sl [ku8])]
 (.nd (.pr (.cmp .eql .i64) [(.v 0), (.k (.i 1))])
 (.ite (.v 7)
  (.nd (.pr (.conv .i64 .u8) [(.v 3)])
  (.nd (.call 23 [(.v 6), (.v 1)] [(.sl [ku8]), ki64] [(.sl [ku8])])
  (.nd (.pr (.len [ku8]) [(.v 9)])
  (.nd (.pr (.mk [ku8] 1) [(.v 8)])
  (.nd (.pr (.app [ku8] 1) [(.v 9), (.v 11)])
  (.nd (.pr (.len [ku8]) [(.v 12)])
  (.nd (.pr (.len [ki64]) [(.v 4)])
  (.blk 3 [(.sl [ku8])]
   (.loop [ki64, (.sl [ku8])] [(.k (.i 0)), (.v 12)]
    (.nd (.pr (.len [ku8]) [(.v 16)])
    (.nd (.pr (.cmp .lss .i64) [(.v 15), (.v 14)])
    (.ite (.v 18)
     (.blk 4 [(.sl [ku8])]
      (.nd (.pr (.len [ki64]) [(.v 4)])
      (.nd (.pr (.ixc .i64) [(.v 15), (.v 19)])
      (.nd (.pr (.get [ki64] 0) [(.v 4), (.v 20)])
      (.nd (.pr (.bin .add .i64) [(.v 21), (.k (.i 1))])
      (.nd (.call 23 [(.v 16), (.v 22)] [(.sl [ku8]), ki64] [(.sl [ku8])])
      (.nd (.pr (.len [ku8]) [(.v 23)])
      (.out 0 [(.v 23)])))))))
     (.nd (.pr (.len [ku8]) [(.v 19)])
     (.nd (.pr (.bin .add .i64) [(.v 15), (.k (.i 1))])
     (.out 0 [(.v 21), (.v 19)]))))
     (.out 3 [(.v 16)])))))
  (.nd (.pr (.len [ku8]) [(.v 15)])
  (.out 0 [(.v 15)]))))))))))
  (.nd (.pr (.cmp .eql .i64) [(.v 0), (.k (.i 2))])
  (.ite (.v 8)
   (.nd (.call 23 [(.v 6), (.v 1)] [(.sl [ku8]), ki64] [(.sl [ku8])])
   (.nd (.pr (.len [ku8]) [(.v 9)])
   (.out 0 [(.v 9)])))
   (.nd (.call 23 [(.v 6), (.v 2)] [(.sl [ku8]), ki64] [(.sl [ku8])])
   (.nd (.pr (.len [ku8]) [(.v 9)])
   (.out 0 [(.v 9)])))))))
(.nd (.pr (.len [ku8]) [(.v 7)])
(.out 1 [(.v 7)])))))
def e24 : Fe := ⟨⟨24, [ki64, ki64, ki64, ki64, (.sl [ki64])], [(.agg [(.dat ki64 (.v 0)), (.dat ki64 (.v 1)), (.dat ki64 (.v 2)), (.dat ki64 (.v 3)), (.lz true [ki64] (.v 4))])], [], [(.sl [ku8])], [(.sl 0 (.k (.i 0)) (.v 6) 1)], [(0, (.arr .pl [ku8] (.v 5) (.v 6)))], 1⟩,
 ⟨[(29, ⟨[(.sl [ku8])], [(3, (.sl 0 (.k (.i 0)) (.v 8) 1))], [(0, (.arr .pl [ku8] (.v 7) (.v 8)))], 1⟩), (939, ⟨[(.sl [ku8])], [(3, (.sl 0 (.k (.i 0)) (.v 16) 1))], [(0, (.arr .pl [ku8] (.v 15) (.v 16)))], 1⟩), (1878, ⟨[ki64, (.sl [ku8])], [(3, (.sl 0 (.k (.i 0)) (.v 17) 1)), (30, (.lz true [ki64] (.v 4))), (31, (.dat ki64 (.v 14))), (32, (.dat ki64 (.v 15)))], [(0, (.arr .pl [ku8] (.v 16) (.v 17)))], 1⟩), (30054, ⟨[(.sl [ku8])], [(3, (.sl 0 (.k (.i 0)) (.v 20) 1)), (30, (.lz true [ki64] (.v 4))), (31, (.dat ki64 (.v 14))), (32, (.dat ki64 (.v 15)))], [(0, (.arr .pl [ku8] (.v 19) (.v 20)))], 1⟩)], [(468, [1])]⟩,
 [(2, (.sl 0 (.k (.i 0)) (.v 6) 1))], some t24, fun _ => none⟩
/-- loop.example/g00709/impl.sumOf -/
def t25 : Tr :=
(.nd (.pr (.len [ku8]) [(.v 0)])
(.blk 2 [ki64]
 (.loop [ki64, ki64] [(.k (.i 0)), (.k (.i 0))]
  (.nd (.pr (.cmp .lss .i64) [(.v 3), (.v 1)])
  (.ite (.v 4)
   (.blk 3 [ki64]
    (.nd (.pr (.len [ku8]) [(.v 0)])
    (.nd (.pr (.ixc .i64) [(.v 3), (.v 5)])
    (.nd (.pr (.get [ku8] 0) [(.v 0), (.v 6)])
    (.nd (.pr (.conv .u8 .i64) [(.v 7)])
    (.nd (.pr (.bin .add .i64) [(.v 2), (.v 8)])
    (.out 0 [(.v 9)]))))))
   (.nd (.pr (.bin .add .i64) [(.v 3), (.k (.i 1))])
   (.out 0 [(.v 5), (.v 6)])))
   (.out 2 [(.v 2)]))))
(.nd (.pr (.bin .rem .i64) [(.v 2), (.k (.i 251))])
(.nd (.pr (.conv .i64 .u8) [(.v 3)])
(.out 1 [(.v 4)])))))
def e25 : Fe := ⟨⟨25, [(.sl [ku8])], [(.lz true [ku8] (.v 0))], [], [ku8], [(.dat ku8 (.v 1))], [], 0⟩,
 ⟨[(29, ⟨[ki64], [(3, (.dat ki64 (.v 2)))], [], 0⟩), (58, ⟨[ki64, ki64], [(3, (.dat ki64 (.v 2))), (6, (.lz true [ku8] (.v 0))), (7, (.dat ki64 (.v 1))), (8, (.dat ki64 (.v 3)))], [], 0⟩), (934, ⟨[ki64], [(3, (.dat ki64 (.v 5))), (6, (.lz true [ku8] (.v 0))), (7, (.dat ki64 (.v 1))), (8, (.dat ki64 (.v 3)))], [], 0⟩)], []⟩,
 [(2, (.dat ku8 (.v 1)))], some t25, fun _ => none⟩
/-- loop.example/g00709/impl.LogOf -/
def t26 : Tr :=
(.nd (.pr (.len [ki64, ki64, ki64, ki64, (.sl [ki64])]) [(.v 0)])
(.nd (.pr (.cmp .gtr .i64) [(.v 1), (.k (.i 400))])
(.ite (.v 2)
 (.out 1 [(.k (.b false)), (.k (.l []))])
 (.nd (.pr (.len [ki64, ki64, ki64, ki64, (.sl [ki64])]) [(.v 0)])
 (.blk 2 [(.sl [ku8])]
  (.loop [ki64, (.sl [ku8])] [(.k (.i 0)), (.k (.l []))]
   (.nd (.pr (.len [ku8]) [(.v 5)])
   (.nd (.pr (.cmp .lss .i64) [(.v 4), (.v 3)])
   (.ite (.v 7)
    (.blk 3 [(.sl [ku8])]
     (.nd (.pr (.len [ki64, ki64, ki64, ki64, (.sl [ki64])]) [(.v 0)])
     (.nd (.pr (.ixc .i64) [(.v 4), (.v 8)])
     (.nd (.pr (.get [ki64, ki64, ki64, ki64, (.sl [ki64])] 0) [(.v 0), (.v 9)])
     (.nd (.pr (.get [ki64, ki64, ki64, ki64, (.sl [ki64])] 1) [(.v 0), (.v 9)])
     (.nd (.pr (.get [ki64, ki64, ki64, ki64, (.sl [ki64])] 2) [(.v 0), (.v 9)])
     (.nd (.pr (.get [ki64, ki64, ki64, ki64, (.sl [ki64])] 3) [(.v 0), (.v 9)])
     (.nd (.pr (.get [ki64, ki64, ki64, ki64, (.sl [ki64])] 4) [(.v 0), (.v 9)])
     (.nd (.call 22 [(.v 10), (.v 11), (.v 12), (.v 13), (.v 14)] [ki64, ki64, ki64, ki64, (.sl [ki64])] [kb])
     (.nd (.pr .not [(.v 15)])
     (.ite (.v 16)
      (.out 1 [(.k (.b false)), (.k (.l []))])
      (.nd (.call 24 [(.v 10), (.v 11), (.v 12), (.v 13), (.v 14)] [ki64, ki64, ki64, ki64, (.sl [ki64])] [(.sl [ku8])])
      (.nd (.pr (.len [ku8]) [(.v 17)])
      (.nd (.pr (.conv .i64 .u8) [(.v 18)])
      (.nd (.pr (.mk [ku8] 1) [(.v 19)])
      (.nd (.pr (.app [ku8] 1) [(.v 5), (.v 20)])
      (.nd (.pr (.len [ku8]) [(.v 21)])
      (.nd (.pr (.app [ku8] 1) [(.v 21), (.v 17)])
      (.nd (.pr (.len [ku8]) [(.v 23)])
      (.nd (.call 25 [(.v 17)] [(.sl [ku8])] [ku8])
      (.nd (.pr (.mk [ku8] 1) [(.v 25)])
      (.nd (.pr (.app [ku8] 1) [(.v 23), (.v 26)])
      (.nd (.pr (.len [ku8]) [(.v 27)])
      (.out 0 [(.v 27)])))))))))))))))))))))))
    (.nd (.pr (.len [ku8]) [(.v 8)])
    (.nd (.pr (.bin .add .i64) [(.v 4), (.k (.i 1))])
    (.out 0 [(.v 10), (.v 8)]))))
    (.out 2 [(.v 5)])))))
 (.nd (.pr (.len [ku8]) [(.v 4)])
 (.out 1 [(.k (.b true)), (.v 4)])))))))
def e26 : Fe := ⟨⟨8, [(.sl [ki64, ki64, ki64, ki64, (.sl [ki64])])], [(.lz true [ki64, ki64, ki64, ki64, (.sl [ki64])] (.v 0))], [], [kb, (.sl [ku8])], [(.sl 0 (.k (.i 0)) (.v 3) 1), (.dat kb (.v 1))], [(0, (.arr .pl [ku8] (.v 2) (.v 3)))], 1⟩,
 ⟨[(61, ⟨[(.sl [ku8])], [(4, (.sl 0 (.k (.i 0)) (.v 5) 1))], [(0, (.arr .pl [ku8] (.v 4) (.v 5)))], 1⟩), (122, ⟨[ki64, (.sl [ku8])], [(4, (.sl 0 (.k (.i 0)) (.v 6) 1)), (11, (.lz true [ki64, ki64, ki64, ki64, (.sl [ki64])] (.v 0))), (12, (.dat ki64 (.v 3))), (13, (.dat ki64 (.v 4)))], [(0, (.arr .pl [ku8] (.v 5) (.v 6)))], 1⟩), (1958, ⟨[(.sl [ku8])], [(4, (.sl 0 (.k (.i 0)) (.v 9) 1)), (11, (.lz true [ki64, ki64, ki64, ki64, (.sl [ki64])] (.v 0))), (12, (.dat ki64 (.v 3))), (13, (.dat ki64 (.v 4)))], [(0, (.arr .pl [ku8] (.v 8) (.v 9)))], 1⟩)], []⟩,
 [(2, (.sl 0 (.k (.i 0)) (.v 3) 1)), (3, (.dat kb (.v 1)))], some t26, fun _ => none⟩
/-- loop.example/g00709/laws.eqByteS -/
def t27 : Tr :=
(.nd (.pr (.len [ku8]) [(.v 0)])
(.nd (.pr (.len [ku8]) [(.v 1)])
(.nd (.pr (.cmp .neq .i64) [(.v 2), (.v 3)])
(.ite (.v 4)
 (.out 1 [(.k (.b false))])
 (.blk 2 []
  (.loop [ki64] [(.k (.i 0))]
   (.nd (.pr (.len [ku8]) [(.v 0)])
   (.nd (.pr (.cmp .lss .i64) [(.v 5), (.v 6)])
   (.ite (.v 7)
    (.blk 3 []
     (.nd (.pr (.len [ku8]) [(.v 0)])
     (.nd (.pr (.ixc .i64) [(.v 5), (.v 8)])
     (.nd (.pr (.get [ku8] 0) [(.v 0), (.v 9)])
     (.nd (.pr (.len [ku8]) [(.v 1)])
     (.nd (.pr (.ixc .i64) [(.v 5), (.v 11)])
     (.nd (.pr (.get [ku8] 0) [(.v 1), (.v 12)])
     (.nd (.pr (.cmp .neq .u8) [(.v 10), (.v 13)])
     (.ite (.v 14)
      (.out 1 [(.k (.b false))])
      (.out 0 [])))))))))
    (.nd (.pr (.bin .add .i64) [(.v 5), (.k (.i 1))])
    (.out 0 [(.v 8)])))
    (.out 2 [])))))
 (.out 1 [(.k (.b true))]))))))
def e27 : Fe := ⟨⟨9, [(.sl [ku8]), (.sl [ku8])], [(.lz true [ku8] (.v 0)), (.lz true [ku8] (.v 1))], [], [kb], [(.dat kb (.v 2))], [], 0⟩,
 ⟨[(29, ⟨[], [], [], 0⟩), (58, ⟨[ki64], [(0, (.lz true [ku8] (.v 0))), (1, (.lz true [ku8] (.v 1))), (5, (.dat ki64 (.v 5)))], [], 0⟩), (466, ⟨[], [(0, (.lz true [ku8] (.v 0))), (1, (.lz true [ku8] (.v 1))), (5, (.dat ki64 (.v 5)))], [], 0⟩)], []⟩,
 [(4, (.dat kb (.v 2)))], some t27, fun _ => none⟩
/-- loop.example/g00709/laws.eqIntS -/
def t28 : Tr :=
(.nd (.pr (.len [ki64]) [(.v 0)])
(.nd (.pr (.len [ki64]) [(.v 1)])
(.nd (.pr (.cmp .neq .i64) [(.v 2), (.v 3)])
(.ite (.v 4)
 (.out 1 [(.k (.b false))])
 (.blk 2 []
  (.loop [ki64] [(.k (.i 0))]
   (.nd (.pr (.len [ki64]) [(.v 0)])
   (.nd (.pr (.cmp .lss .i64) [(.v 5), (.v 6)])
   (.ite (.v 7)
    (.blk 3 []
     (.nd (.pr (.len [ki64]) [(.v 0)])
     (.nd (.pr (.ixc .i64) [(.v 5), (.v 8)])
     (.nd (.pr (.get [ki64] 0) [(.v 0), (.v 9)])
     (.nd (.pr (.len [ki64]) [(.v 1)])
     (.nd (.pr (.ixc .i64) [(.v 5), (.v 11)])
     (.nd (.pr (.get [ki64] 0) [(.v 1), (.v 12)])
     (.nd (.pr (.cmp .neq .i64) [(.v 10), (.v 13)])
     (.ite (.v 14)
      (.out 1 [(.k (.b false))])
      (.out 0 [])))))))))
    (.nd (.pr (.bin .add .i64) [(.v 5), (.k (.i 1))])
    (.out 0 [(.v 8)])))
    (.out 2 [])))))
 (.out 1 [(.k (.b true))]))))))
def e28 : Fe := ⟨⟨46, [(.sl [ki64]), (.sl [ki64])], [(.lz true [ki64] (.v 0)), (.lz true [ki64] (.v 1))], [], [kb], [(.dat kb (.v 2))], [], 0⟩,
 ⟨[(29, ⟨[], [], [], 0⟩), (58, ⟨[ki64], [(0, (.lz true [ki64] (.v 0))), (1, (.lz true [ki64] (.v 1))), (5, (.dat ki64 (.v 5)))], [], 0⟩), (466, ⟨[], [(0, (.lz true [ki64] (.v 0))), (1, (.lz true [ki64] (.v 1))), (5, (.dat ki64 (.v 5)))], [], 0⟩)], []⟩,
 [(4, (.dat kb (.v 2)))], some t28, fun _ => none⟩
/-- loop.example/g00709/laws.eqReq -/
def t29 : Tr :=
(.nd (.pr (.cmp .neq .i64) [(.v 0), (.v 2)])
(.ite (.v 4)
 (.out 1 [(.k (.b false))])
 (.nd (.call 28 [(.v 1), (.v 3)] [(.sl [ki64]), (.sl [ki64])] [kb])
 (.nd (.pr .not [(.v 5)])
 (.ite (.v 6)
  (.out 1 [(.k (.b false))])
  (.out 1 [(.k (.b true))]))))))
def e29 : Fe := ⟨⟨38, [ki64, (.sl [ki64]), ki64, (.sl [ki64])], [(.agg [(.dat ki64 (.v 0)), (.lz true [ki64] (.v 1))]), (.agg [(.dat ki64 (.v 2)), (.lz true [ki64] (.v 3))])], [], [kb], [(.dat kb (.v 4))], [], 0⟩,
 ⟨[], []⟩,
 [(4, (.dat kb (.v 4)))], some t29, fun _ => none⟩
/-- loop.example/g00709/laws.eqEvent -/
def t30 : Tr :=
(.nd (.pr (.cmp .neq .i64) [(.v 0), (.v 5)])
(.ite (.v 10)
 (.out 1 [(.k (.b false))])
 (.nd (.pr (.cmp .neq .i64) [(.v 1), (.v 6)])
 (.ite (.v 11)
  (.out 1 [(.k (.b false))])
  (.nd (.pr (.cmp .neq .i64) [(.v 2), (.v 7)])
  (.ite (.v 12)
   (.out 1 [(.k (.b false))])
   (.nd (.call 29 [(.v 3), (.v 4), (.v 8), (.v 9)] [ki64, (.sl [ki64]), ki64, (.sl [ki64])] [kb])
   (.nd (.pr .not [(.v 13)])
   (.ite (.v 14)
    (.out 1 [(.k (.b false))])
    (.out 1 [(.k (.b true))]))))))))))
def e30 : Fe := ⟨⟨26, [ki64, ki64, ki64, ki64, (.sl [ki64]), ki64, ki64, ki64, ki64, (.sl [ki64])], [(.agg [(.dat ki64 (.v 0)), (.dat ki64 (.v 1)), (.dat ki64 (.v 2)), (.dat ki64 (.v 3)), (.lz true [ki64] (.v 4))]), (.agg [(.dat ki64 (.v 5)), (.dat ki64 (.v 6)), (.dat ki64 (.v 7)), (.dat ki64 (.v 8)), (.lz true [ki64] (.v 9))])], [], [kb], [(.dat kb (.v 10))], [], 0⟩,
 ⟨[], []⟩,
 [(4, (.dat kb (.v 10)))], some t30, fun _ => none⟩
/-- loop.example/g00709/laws.eqEventS -/
def t31 : Tr :=
(.nd (.pr (.len [ki64, ki64, ki64, ki64, (.sl [ki64])]) [(.v 0)])
(.nd (.pr (.len [ki64, ki64, ki64, ki64, (.sl [ki64])]) [(.v 1)])
(.nd (.pr (.cmp .neq .i64) [(.v 2), (.v 3)])
(.ite (.v 4)
 (.out 1 [(.k (.b false))])
 (.blk 2 []
  (.loop [ki64] [(.k (.i 0))]
   (.nd (.pr (.len [ki64, ki64, ki64, ki64, (.sl [ki64])]) [(.v 0)])
   (.nd (.pr (.cmp .lss .i64) [(.v 5), (.v 6)])
   (.ite (.v 7)
    (.blk 3 []
     (.nd (.pr (.len [ki64, ki64, ki64, ki64, (.sl [ki64])]) [(.v 0)])
     (.nd (.pr (.ixc .i64) [(.v 5), (.v 8)])
     (.nd (.pr (.get [ki64, ki64, ki64, ki64, (.sl [ki64])] 0) [(.v 0), (.v 9)])
     (.nd (.pr (.get [ki64, ki64, ki64, ki64, (.sl [ki64])] 1) [(.v 0), (.v 9)])
     (.nd (.pr (.get [ki64, ki64, ki64, ki64, (.sl [ki64])] 2) [(.v 0), (.v 9)])
     (.nd (.pr (.get [ki64, ki64, ki64, ki64, (.sl [ki64])] 3) [(.v 0), (.v 9)])
     (.nd (.pr (.get [ki64, ki64, ki64, ki64, (.sl [ki64])] 4) [(.v 0), (.v 9)])
     (.nd (.pr (.len [ki64, ki64, ki64, ki64, (.sl [ki64])]) [(.v 1)])
     (.nd (.pr (.ixc .i64) [(.v 5), (.v 15)])
     (.nd (.pr (.get [ki64, ki64, ki64, ki64, (.sl [ki64])] 0) [(.v 1), (.v 16)])
     (.nd (.pr (.get [ki64, ki64, ki64, ki64, (.sl [ki64])] 1) [(.v 1), (.v 16)])
     (.nd (.pr (.get [ki64, ki64, ki64, ki64, (.sl [ki64])] 2) [(.v 1), (.v 16)])
     (.nd (.pr (.get [ki64, ki64, ki64, ki64, (.sl [ki64])] 3) [(.v 1), (.v 16)])
     (.nd (.pr (.get [ki64, ki64, ki64, ki64, (.sl [ki64])] 4) [(.v 1), (.v 16)])
     (.nd (.call 30 [(.v 10), (.v 11), (.v 12), (.v 13), (.v 14), (.v 17), (.v 18), (.v 19), (.v 20), (.v 21)] [ki64, ki64, ki64, ki64, (.sl [ki64]), ki64, ki64, ki64, ki64, (.sl [ki64])] [kb])
     (.nd (.pr .not [(.v 22)])
     (.ite (.v 23)
      (.out 1 [(.k (.b false))])
      (.out 0 []))))))))))))))))))
    (.nd (.pr (.bin .add .i64) [(.v 5), (.k (.i 1))])
    (.out 0 [(.v 8)])))
    (.out 2 [])))))
 (.out 1 [(.k (.b true))]))))))
def e31 : Fe := ⟨⟨10, [(.sl [ki64, ki64, ki64, ki64, (.sl [ki64])]), (.sl [ki64, ki64, ki64, ki64, (.sl [ki64])])], [(.lz true [ki64, ki64, ki64, ki64, (.sl [ki64])] (.v 0)), (.lz true [ki64, ki64, ki64, ki64, (.sl [ki64])] (.v 1))], [], [kb], [(.dat kb (.v 2))], [], 0⟩,
 ⟨[(29, ⟨[], [], [], 0⟩), (58, ⟨[ki64], [(0, (.lz true [ki64, ki64, ki64, ki64, (.sl [ki64])] (.v 0))), (1, (.lz true [ki64, ki64, ki64, ki64, (.sl [ki64])] (.v 1))), (5, (.dat ki64 (.v 5)))], [], 0⟩), (466, ⟨[], [(0, (.lz true [ki64, ki64, ki64, ki64, (.sl [ki64])] (.v 0))), (1, (.lz true [ki64, ki64, ki64, ki64, (.sl [ki64])] (.v 1))), (5, (.dat ki64 (.v 5)))], [], 0⟩)], []⟩,
 [(4, (.dat kb (.v 2)))], some t31, fun _ => none⟩
/-- loop.example/g00709/laws.markIntS -/
def t32 : Tr :=
(.blk 2 [ki64, (.sl [ki64])]
 (.loop [ki64, ki64, (.sl [ki64])] [(.v 1), (.k (.i 0)), (.v 0)]
  (.nd (.pr (.len [ki64]) [(.v 5)])
  (.nd (.pr (.cmp .lss .i64) [(.v 4), (.v 6)])
  (.ite (.v 7)
   (.blk 3 [ki64, (.sl [ki64])]
    (.nd (.pr (.ixc .i64) [(.v 4), (.v 6)])
    (.nd (.pr (.set [ki64] 0) [(.v 5), (.v 8), (.v 3)])
    (.nd (.pr (.bin .add .i64) [(.v 3), (.k (.i 1))])
    (.out 0 [(.v 10), (.v 9)]))))
   (.nd (.pr (.len [ki64]) [(.v 9)])
   (.nd (.pr (.bin .add .i64) [(.v 4), (.k (.i 1))])
   (.out 0 [(.v 8), (.v 11), (.v 9)]))))
   (.out 2 [(.v 3), (.v 5)])))))
(.nd (.pr (.len [ki64]) [(.v 4)])
(.out 1 [(.v 3), (.v 4)])))
def e32 : Fe := ⟨⟨27, [(.sl [ki64]), ki64], [(.sl 0 (.k (.i 0)) (.v 2) 1), (.dat ki64 (.v 1))], [(0, (.arr .pl [ki64] (.v 0) (.v 2)))], [ki64, (.sl [ki64])], [(.dat ki64 (.v 2))], [(0, (.arr .pl [ki64] (.v 3) (.v 4)))], 1⟩,
 ⟨[(13, ⟨[ki64, (.sl [ki64])], [(1, (.dat ki64 (.v 3)))], [(0, (.arr .pl [ki64] (.v 4) (.v 5)))], 1⟩), (26, ⟨[ki64, ki64, (.sl [ki64])], [(0, (.sl 0 (.k (.i 0)) (.v 6) 1)), (1, (.dat ki64 (.v 3))), (5, (.dat ki64 (.v 4)))], [(0, (.arr .pl [ki64] (.v 5) (.v 6)))], 1⟩), (210, ⟨[ki64, (.sl [ki64])], [(0, (.sl 0 (.k (.i 0)) (.v 10) 1)), (1, (.dat ki64 (.v 8))), (5, (.dat ki64 (.v 4)))], [(0, (.arr .pl [ki64] (.v 9) (.v 10)))], 1⟩)], []⟩,
 [(4, (.dat ki64 (.v 2)))], some t32, fun _ => none⟩
/-- loop.example/g00709/laws.markEventS -/
def t33 : Tr :=
(.blk 2 [ki64, (.sl [ki64, ki64, ki64, ki64, (.sl [ki64])])]
 (.loop [ki64, ki64, (.sl [ki64, ki64, ki64, ki64, (.sl [ki64])])] [(.v 1), (.k (.i 0)), (.v 0)]
  (.nd (.pr (.len [ki64, ki64, ki64, ki64, (.sl [ki64])]) [(.v 5)])
  (.nd (.pr (.cmp .lss .i64) [(.v 4), (.v 6)])
  (.ite (.v 7)
   (.blk 3 [ki64, (.sl [ki64, ki64, ki64, ki64, (.sl [ki64])])]
    (.nd (.pr (.ixc .i64) [(.v 4), (.v 6)])
    (.nd (.pr (.set [ki64, ki64, ki64, ki64, (.sl [ki64])] 0) [(.v 5), (.v 8), (.v 3)])
    (.nd (.pr (.bin .add .i64) [(.v 3), (.k (.i 1))])
    (.nd (.pr (.ixc .i64) [(.v 4), (.v 6)])
    (.nd (.pr (.set [ki64, ki64, ki64, ki64, (.sl [ki64])] 1) [(.v 9), (.v 11), (.v 10)])
    (.nd (.pr (.bin .add .i64) [(.v 10), (.k (.i 1))])
    (.nd (.pr (.ixc .i64) [(.v 4), (.v 6)])
    (.nd (.pr (.set [ki64, ki64, ki64, ki64, (.sl [ki64])] 2) [(.v 12), (.v 14), (.v 13)])
    (.nd (.pr (.bin .add .i64) [(.v 13), (.k (.i 1))])
    (.nd (.pr (.ixc .i64) [(.v 4), (.v 6)])
    (.nd (.pr (.set [ki64, ki64, ki64, ki64, (.sl [ki64])] 3) [(.v 15), (.v 17), (.v 16)])
    (.nd (.pr (.bin .add .i64) [(.v 16), (.k (.i 1))])
    (.nd (.pr (.ixc .i64) [(.v 4), (.v 6)])
    (.nd (.pr (.get [ki64, ki64, ki64, ki64, (.sl [ki64])] 4) [(.v 18), (.v 20)])
    (.nd (.pr (.get [ki64, ki64, ki64, ki64, (.sl [ki64])] 4) [(.v 18), (.v 20)])
    (.nd (.pr (.len [ki64]) [(.v 22)])
    (.nd (.call 32 [(.v 22), (.v 19)] [(.sl [ki64]), ki64] [ki64, (.sl [ki64])])
    (.nd (.pr (.len [ki64]) [(.v 25)])
    (.nd (.pr (.get [ki64, ki64, ki64, ki64, (.sl [ki64])] 4) [(.v 18), (.v 20)])
    (.nd (.pr (.len [ki64]) [(.v 27)])
    (.nd (.pr (.rng .i64 .i64) [(.v 26), (.v 28), (.v 28)])
    (.nd (.pr (.rng .i64 .i64) [(.v 28), (.v 26), (.v 26)])
    (.nd (.pr (.set [ki64, ki64, ki64, ki64, (.sl [ki64])] 4) [(.v 18), (.v 20), (.v 25)])
    (.out 0 [(.v 24), (.v 31)]))))))))))))))))))))))))
   (.nd (.pr (.len [ki64, ki64, ki64, ki64, (.sl [ki64])]) [(.v 9)])
   (.nd (.pr (.bin .add .i64) [(.v 4), (.k (.i 1))])
   (.out 0 [(.v 8), (.v 11), (.v 9)]))))
   (.out 2 [(.v 3), (.v 5)])))))
(.nd (.pr (.len [ki64, ki64, ki64, ki64, (.sl [ki64])]) [(.v 4)])
(.out 1 [(.v 3), (.v 4)])))
def e33 : Fe := ⟨⟨11, [(.sl [ki64, ki64, ki64, ki64, (.sl [ki64])]), ki64], [(.sl 0 (.k (.i 0)) (.v 2) 5), (.dat ki64 (.v 1))], [(0, (.arr (.ow none) [ki64, ki64, ki64, ki64, (.sl [ki64])] (.v 0) (.v 2)))], [ki64, (.sl [ki64, ki64, ki64, ki64, (.sl [ki64])])], [(.dat ki64 (.v 2))], [(0, (.arr (.ow none) [ki64, ki64, ki64, ki64, (.sl [ki64])] (.v 3) (.v 4)))], 1⟩,
 ⟨[(13, ⟨[ki64, (.sl [ki64, ki64, ki64, ki64, (.sl [ki64])])], [(1, (.dat ki64 (.v 3)))], [(0, (.arr (.ow none) [ki64, ki64, ki64, ki64, (.sl [ki64])] (.v 4) (.v 5)))], 1⟩), (26, ⟨[ki64, ki64, (.sl [ki64, ki64, ki64, ki64, (.sl [ki64])])], [(0, (.sl 0 (.k (.i 0)) (.v 6) 5)), (1, (.dat ki64 (.v 3))), (5, (.dat ki64 (.v 4)))], [(0, (.arr (.ow none) [ki64, ki64, ki64, ki64, (.sl [ki64])] (.v 5) (.v 6)))], 1⟩), (210, ⟨[ki64, (.sl [ki64, ki64, ki64, ki64, (.sl [ki64])])], [(0, (.sl 0 (.k (.i 0)) (.v 10) 5)), (1, (.dat ki64 (.v 8))), (5, (.dat ki64 (.v 4)))], [(0, (.arr (.ow none) [ki64, ki64, ki64, ki64, (.sl [ki64])] (.v 9) (.v 10)))], 1⟩)], []⟩,
 [(4, (.dat ki64 (.v 2)))], some t33, fun _ => none⟩
/-- loop.example/g00709/laws.markByteS -/
def t34 : Tr :=
(.blk 2 [ki64, (.sl [ku8])]
 (.loop [ki64, ki64, (.sl [ku8])] [(.v 1), (.k (.i 0)), (.v 0)]
  (.nd (.pr (.len [ku8]) [(.v 5)])
  (.nd (.pr (.cmp .lss .i64) [(.v 4), (.v 6)])
  (.ite (.v 7)
   (.blk 3 [ki64, (.sl [ku8])]
    (.nd (.pr (.conv .i64 .u8) [(.v 3)])
    (.nd (.pr (.ixc .i64) [(.v 4), (.v 6)])
    (.nd (.pr (.set [ku8] 0) [(.v 5), (.v 9), (.v 8)])
    (.nd (.pr (.bin .add .i64) [(.v 3), (.k (.i 1))])
    (.out 0 [(.v 11), (.v 10)])))))
   (.nd (.pr (.len [ku8]) [(.v 9)])
   (.nd (.pr (.bin .add .i64) [(.v 4), (.k (.i 1))])
   (.out 0 [(.v 8), (.v 11), (.v 9)]))))
   (.out 2 [(.v 3), (.v 5)])))))
(.nd (.pr (.len [ku8]) [(.v 4)])
(.out 1 [(.v 3), (.v 4)])))
def e34 : Fe := ⟨⟨12, [(.sl [ku8]), ki64], [(.sl 0 (.k (.i 0)) (.v 2) 1), (.dat ki64 (.v 1))], [(0, (.arr .pl [ku8] (.v 0) (.v 2)))], [ki64, (.sl [ku8])], [(.dat ki64 (.v 2))], [(0, (.arr .pl [ku8] (.v 3) (.v 4)))], 1⟩,
 ⟨[(13, ⟨[ki64, (.sl [ku8])], [(1, (.dat ki64 (.v 3)))], [(0, (.arr .pl [ku8] (.v 4) (.v 5)))], 1⟩), (26, ⟨[ki64, ki64, (.sl [ku8])], [(0, (.sl 0 (.k (.i 0)) (.v 6) 1)), (1, (.dat ki64 (.v 3))), (5, (.dat ki64 (.v 4)))], [(0, (.arr .pl [ku8] (.v 5) (.v 6)))], 1⟩), (210, ⟨[ki64, (.sl [ku8])], [(0, (.sl 0 (.k (.i 0)) (.v 10) 1)), (1, (.dat ki64 (.v 8))), (5, (.dat ki64 (.v 4)))], [(0, (.arr .pl [ku8] (.v 9) (.v 10)))], 1⟩)], []⟩,
 [(4, (.dat ki64 (.v 2)))], some t34, fun _ => none⟩
/-- loop.example/g00709/laws.heldByteS -/
def t35 : Tr :=
(.blk 2 [ki64]
 (.loop [ki64, ki64] [(.v 1), (.k (.i 0))]
  (.nd (.pr (.len [ku8]) [(.v 0)])
  (.nd (.pr (.cmp .lss .i64) [(.v 3), (.v 4)])
  (.ite (.v 5)
   (.blk 3 [ki64]
    (.nd (.pr (.len [ku8]) [(.v 0)])
    (.nd (.pr (.ixc .i64) [(.v 3), (.v 6)])
    (.nd (.pr (.get [ku8] 0) [(.v 0), (.v 7)])
    (.nd (.pr (.conv .i64 .u8) [(.v 2)])
    (.nd (.pr (.cmp .neq .u8) [(.v 8), (.v 9)])
    (.ite (.v 10)
     (.out 1 [(.k (.i (-1)))])
     (.nd (.pr (.bin .add .i64) [(.v 2), (.k (.i 1))])
     (.out 0 [(.v 11)]))))))))
   (.nd (.pr (.bin .add .i64) [(.v 3), (.k (.i 1))])
   (.out 0 [(.v 6), (.v 7)])))
   (.out 2 [(.v 2)])))))
(.out 1 [(.v 2)]))
def e35 : Fe := ⟨⟨13, [(.sl [ku8]), ki64], [(.lz true [ku8] (.v 0)), (.dat ki64 (.v 1))], [], [ki64], [(.dat ki64 (.v 2))], [], 0⟩,
 ⟨[(13, ⟨[ki64], [(1, (.dat ki64 (.v 2)))], [], 0⟩), (26, ⟨[ki64, ki64], [(0, (.lz true [ku8] (.v 0))), (1, (.dat ki64 (.v 2))), (5, (.dat ki64 (.v 3)))], [], 0⟩), (210, ⟨[ki64], [(0, (.lz true [ku8] (.v 0))), (1, (.dat ki64 (.v 6))), (5, (.dat ki64 (.v 3)))], [], 0⟩)], []⟩,
 [(4, (.dat ki64 (.v 2)))], some t35, fun _ => none⟩
/-- loop.example/g00709/laws.FnExactLogOf -/
def t36 : Tr :=
(.nd (.call 3 [(.v 0), (.k (.i 1048576))] [(.sl [ki64, ki64, ki64, ki64, (.sl [ki64])]), ki64] [ki64])
(.nd (.pr (.cmp .lss .i64) [(.v 1), (.k (.i 0))])
(.ite (.v 2)
 (.out 1 [(.k (.b true))])
 (.nd (.call 7 [(.v 0)] [(.sl [ki64, ki64, ki64, ki64, (.sl [ki64])])] [(.sl [ki64, ki64, ki64, ki64, (.sl [ki64])])])
 (.nd (.pr (.len [ki64, ki64, ki64, ki64, (.sl [ki64])]) [(.v 3)])
 (.nd (.call 13 [(.v 3)] [(.sl [ki64, ki64, ki64, ki64, (.sl [ki64])])] [kb, (.sl [ku8])])
 (.nd (.pr (.len [ku8]) [(.v 6)])
 (.nd (.call 7 [(.v 0)] [(.sl [ki64, ki64, ki64, ki64, (.sl [ki64])])] [(.sl [ki64, ki64, ki64, ki64, (.sl [ki64])])])
 (.nd (.pr (.len [ki64, ki64, ki64, ki64, (.sl [ki64])]) [(.v 8)])
 (.nd (.call 26 [(.v 8)] [(.sl [ki64, ki64, ki64, ki64, (.sl [ki64])])] [kb, (.sl [ku8])])
 (.nd (.pr (.len [ku8]) [(.v 11)])
 (.seq [kb]
  (.nd (.call 27 [(.v 11), (.v 6)] [(.sl [ku8]), (.sl [ku8])] [kb])
  (.nd (.pr .not [(.v 13)])
  (.ite (.v 14)
   (.out 0 [(.k (.b true))])
   (.nd (.pr .eqb [(.v 10), (.v 5)])
   (.nd (.pr .not [(.v 15)])
   (.out 0 [(.v 16)]))))))
 (.nd (.pr (.len [ku8]) [(.v 6)])
 (.nd (.pr (.len [ki64, ki64, ki64, ki64, (.sl [ki64])]) [(.v 8)])
 (.nd (.pr (.len [ku8]) [(.v 11)])
 (.ite (.v 13)
  (.out 1 [(.k (.b false))])
  (.nd (.call 7 [(.v 0)] [(.sl [ki64, ki64, ki64, ki64, (.sl [ki64])])] [(.sl [ki64, ki64, ki64, ki64, (.sl [ki64])])])
  (.nd (.pr (.len [ki64, ki64, ki64, ki64, (.sl [ki64])]) [(.v 17)])
  (.nd (.call 31 [(.v 8), (.v 17)] [(.sl [ki64, ki64, ki64, ki64, (.sl [ki64])]), (.sl [ki64, ki64, ki64, ki64, (.sl [ki64])])] [kb])
  (.nd (.pr .not [(.v 19)])
  (.ite (.v 20)
   (.out 1 [(.k (.b false))])
   (.nd (.call 33 [(.v 8), (.k (.i 1))] [(.sl [ki64, ki64, ki64, ki64, (.sl [ki64])]), ki64] [ki64, (.sl [ki64, ki64, ki64, ki64, (.sl [ki64])])])
   (.nd (.pr (.len [ki64, ki64, ki64, ki64, (.sl [ki64])]) [(.v 22)])
   (.seq [kb]
    (.nd (.pr (.cmp .lss .i64) [(.v 21), (.k (.i 0))])
    (.ite (.v 24)
     (.out 0 [(.k (.b true))])
     (.nd (.call 27 [(.v 11), (.v 6)] [(.sl [ku8]), (.sl [ku8])] [kb])
     (.nd (.pr .not [(.v 25)])
     (.ite (.v 26)
      (.out 0 [(.k (.b true))])
      (.nd (.pr .eqb [(.v 10), (.v 5)])
      (.nd (.pr .not [(.v 27)])
      (.out 0 [(.v 28)]))))))))
   (.nd (.pr (.len [ku8]) [(.v 6)])
   (.nd (.pr (.len [ku8]) [(.v 11)])
   (.ite (.v 24)
    (.out 1 [(.k (.b false))])
    (.nd (.call 34 [(.v 11), (.k (.i 1))] [(.sl [ku8]), ki64] [ki64, (.sl [ku8])])
    (.nd (.pr (.len [ku8]) [(.v 28)])
    (.nd (.pr .plus [(.k (.i 0)), (.v 26)])
    (.nd (.pr (.cut [ku8] .i64 .i64) [(.v 28), (.k (.i 0)), (.v 30)])
    (.nd (.call 35 [(.v 31), (.k (.i 1))] [(.sl [ku8]), ki64] [ki64])
    (.nd (.pr (.cmp .lss .i64) [(.v 32), (.k (.i 0))])
    (.ite (.v 33)
     (.out 1 [(.k (.b false))])
     (.nd (.pr (.cmp .neq .i64) [(.v 32), (.v 27)])
     (.ite (.v 34)
      (.out 1 [(.k (.b false))])
      (.nd (.call 7 [(.v 0)] [(.sl [ki64, ki64, ki64, ki64, (.sl [ki64])])] [(.sl [ki64, ki64, ki64, ki64, (.sl [ki64])])])
      (.nd (.pr (.len [ki64, ki64, ki64, ki64, (.sl [ki64])]) [(.v 35)])
      (.nd (.call 26 [(.v 35)] [(.sl [ki64, ki64, ki64, ki64, (.sl [ki64])])] [kb, (.sl [ku8])])
      (.nd (.pr (.len [ku8]) [(.v 38)])
      (.seq [kb]
       (.nd (.call 27 [(.v 38), (.v 6)] [(.sl [ku8]), (.sl [ku8])] [kb])
       (.nd (.pr .not [(.v 40)])
       (.ite (.v 41)
        (.out 0 [(.k (.b true))])
        (.nd (.pr .eqb [(.v 37), (.v 5)])
        (.nd (.pr .not [(.v 42)])
        (.out 0 [(.v 43)]))))))
      (.nd (.pr (.len [ku8]) [(.v 28)])
      (.ite (.v 40)
       (.out 1 [(.k (.b false))])
       (.nd (.pr .plus [(.k (.i 0)), (.v 26)])
       (.nd (.pr (.cut [ku8] .i64 .i64) [(.v 28), (.k (.i 0)), (.v 42)])
       (.nd (.call 35 [(.v 43), (.k (.i 1))] [(.sl [ku8]), ki64] [ki64])
       (.nd (.pr (.cmp .lss .i64) [(.v 44), (.k (.i 0))])
       (.ite (.v 45)
        (.out 1 [(.k (.b false))])
        (.nd (.pr (.cmp .neq .i64) [(.v 44), (.v 27)])
        (.ite (.v 46)
         (.out 1 [(.k (.b false))])
         (.out 1 [(.k (.b true))])))))))))))))))))))))))))))))))))))))))))))))))))))
def e36 : Fe := ⟨⟨3, [(.sl [ki64, ki64, ki64, ki64, (.sl [ki64])])], [(.lz true [ki64, ki64, ki64, ki64, (.sl [ki64])] (.v 0))], [], [kb], [(.dat kb (.v 1))], [], 0⟩,
 ⟨[(2097150, ⟨[kb], [(7, (.sl 0 (.k (.i 0)) (.v 26) 1)), (10, (.dat ki64 (.v 27))), (87, (.dat kb (.v 40)))], [(0, (.arr .pl [ku8] (.v 28) (.v 41)))], 1⟩), (8190, ⟨[kb], [(0, (.lz true [ki64, ki64, ki64, ki64, (.sl [ki64])] (.v 0))), (4, (.sl 0 (.k (.i 0)) (.v 25) 1)), (5, (.dat kb (.v 5))), (7, (.sl 1 (.k (.i 0)) (.v 26) 1)), (61, (.dat kb (.v 24)))], [(0, (.arr .pl [ku8] (.v 6) (.v 25))), (1, (.arr .pl [ku8] (.v 11) (.v 26)))], 2⟩), (510, ⟨[kb], [(0, (.lz true [ki64, ki64, ki64, ki64, (.sl [ki64])] (.v 0))), (4, (.sl 0 (.k (.i 0)) (.v 14) 1)), (5, (.dat kb (.v 5))), (6, (.sl 1 (.k (.i 0)) (.v 15) 5)), (7, (.sl 2 (.k (.i 0)) (.v 16) 1)), (8, (.dat kb (.v 10))), (40, (.dat kb (.v 13)))], [(0, (.arr .pl [ku8] (.v 6) (.v 14))), (1, (.arr (.ow none) [ki64, ki64, ki64, ki64, (.sl [ki64])] (.v 8) (.v 15))), (2, (.arr .pl [ku8] (.v 11) (.v 16)))], 3⟩)], []⟩,
 [(2, (.dat kb (.v 1)))], some t36, fun _ => none⟩
def fes : List Fe := [e0, e1, e2, e3, e4, e5, e6, e7, e8, e9, e10, e11, e12, e13, e14, e15, e16, e17, e18, e19, e20, e21, e22, e23, e24, e25, e26, e27, e28, e29, e30, e31, e32, e33, e34, e35, e36]
theorem tabOk : TabOk Try.prog tab := tabB_ok (by kernel_rfl)
theorem ok0 : e0.ok Try.prog tab (sigsOf fes) (kindsOf fes) = true := by kernel_rfl
theorem ok1 : e1.ok Try.prog tab (sigsOf fes) (kindsOf fes) = true := by kernel_rfl
theorem ok2 : e2.ok Try.prog tab (sigsOf fes) (kindsOf fes) = true := by kernel_rfl
theorem ok3 : e3.ok Try.prog tab (sigsOf fes) (kindsOf fes) = true := by kernel_rfl
theorem ok4 : e4.ok Try.prog tab (sigsOf fes) (kindsOf fes) = true := by kernel_rfl
theorem ok5 : e5.ok Try.prog tab (sigsOf fes) (kindsOf fes) = true := by kernel_rfl
theorem ok6 : e6.ok Try.prog tab (sigsOf fes) (kindsOf fes) = true := by kernel_rfl
theorem ok7 : e7.ok Try.prog tab (sigsOf fes) (kindsOf fes) = true := by kernel_rfl
theorem ok8 : e8.ok Try.prog tab (sigsOf fes) (kindsOf fes) = true := by kernel_rfl
theorem ok9 : e9.ok Try.prog tab (sigsOf fes) (kindsOf fes) = true := by kernel_rfl
theorem ok10 : e10.ok Try.prog tab (sigsOf fes) (kindsOf fes) = true := by kernel_rfl
theorem ok11 : e11.ok Try.prog tab (sigsOf fes) (kindsOf fes) = true := by kernel_rfl
theorem ok12 : e12.ok Try.prog tab (sigsOf fes) (kindsOf fes) = true := by kernel_rfl
theorem ok13 : e13.ok Try.prog tab (sigsOf fes) (kindsOf fes) = true := by kernel_rfl
theorem ok14 : e14.ok Try.prog tab (sigsOf fes) (kindsOf fes) = true := by kernel_rfl
theorem ok15 : e15.ok Try.prog tab (sigsOf fes) (kindsOf fes) = true := by kernel_rfl
theorem ok16 : e16.ok Try.prog tab (sigsOf fes) (kindsOf fes) = true := by kernel_rfl
theorem ok17 : e17.ok Try.prog tab (sigsOf fes) (kindsOf fes) = true := by kernel_rfl
theorem ok18 : e18.ok Try.prog tab (sigsOf fes) (kindsOf fes) = true := by kernel_rfl
theorem ok19 : e19.ok Try.prog tab (sigsOf fes) (kindsOf fes) = true := by kernel_rfl
theorem ok20 : e20.ok Try.prog tab (sigsOf fes) (kindsOf fes) = true := by kernel_rfl
theorem ok21 : e21.ok Try.prog tab (sigsOf fes) (kindsOf fes) = true := by kernel_rfl
theorem ok22 : e22.ok Try.prog tab (sigsOf fes) (kindsOf fes) = true := by kernel_rfl
theorem ok23 : e23.ok Try.prog tab (sigsOf fes) (kindsOf fes) = true := by kernel_rfl
theorem ok24 : e24.ok Try.prog tab (sigsOf fes) (kindsOf fes) = true := by kernel_rfl
theorem ok25 : e25.ok Try.prog tab (sigsOf fes) (kindsOf fes) = true := by kernel_rfl
theorem ok26 : e26.ok Try.prog tab (sigsOf fes) (kindsOf fes) = true := by kernel_rfl
theorem ok27 : e27.ok Try.prog tab (sigsOf fes) (kindsOf fes) = true := by kernel_rfl
theorem ok28 : e28.ok Try.prog tab (sigsOf fes) (kindsOf fes) = true := by kernel_rfl
theorem ok29 : e29.ok Try.prog tab (sigsOf fes) (kindsOf fes) = true := by kernel_rfl
theorem ok30 : e30.ok Try.prog tab (sigsOf fes) (kindsOf fes) = true := by kernel_rfl
theorem ok31 : e31.ok Try.prog tab (sigsOf fes) (kindsOf fes) = true := by kernel_rfl
theorem ok32 : e32.ok Try.prog tab (sigsOf fes) (kindsOf fes) = true := by kernel_rfl
theorem ok33 : e33.ok Try.prog tab (sigsOf fes) (kindsOf fes) = true := by kernel_rfl
theorem ok34 : e34.ok Try.prog tab (sigsOf fes) (kindsOf fes) = true := by kernel_rfl
theorem ok35 : e35.ok Try.prog tab (sigsOf fes) (kindsOf fes) = true := by kernel_rfl
theorem ok36 : e36.ok Try.prog tab (sigsOf fes) (kindsOf fes) = true := by kernel_rfl
theorem fesOk : FeL Try.prog tab fes 0 fes := ⟨ok0, ok1, ok2, ok3, ok4, ok5, ok6, ok7, ok8, ok9, ok10, ok11, ok12, ok13, ok14, ok15, ok16, ok17, ok18, ok19, ok20, ok21, ok22, ok23, ok24, ok25, ok26, ok27, ok28, ok29, ok30, ok31, ok32, ok33, ok34, ok35, ok36, trivial⟩
end Go.Proofs.Ytponfomfcmlfmaa.LogOf
