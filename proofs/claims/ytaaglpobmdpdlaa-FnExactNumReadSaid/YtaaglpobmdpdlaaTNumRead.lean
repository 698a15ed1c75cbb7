/- What the functions behind FnExactNumRead compute, as trees; that they do is checked by the kernel. Printed by bench/Bench.lean. -/
import Derived.Test.YtaaglpobmdpdlaaB33
import Derived.Test.YtaaglpobmdpdlaaProg
set_option maxRecDepth 100000
set_option linter.unusedVariables false
namespace Go.Proofs.Ytaaglpobmdpdlaa.NumRead
open Go.BH
def tab : TyTab := [(3, ⟨1, 8, false, (.int .i64), [(.int .i64 (0))], [ki64], false⟩),
 (4, ⟨1, 1, false, .bool, [(.bool false)], [kb], false⟩),
 (5, ⟨1, 1, false, (.int .u8), [(.int .u8 (0))], [ku8], false⟩),
 (9, ⟨1, 16, false, .str, [(.string ⟨#[]⟩)], [ks], false⟩),
 (22, ⟨1, 24, false, (.slice 5), [(.slice none 0 0)], [(.sl [ku8])], false⟩)]
/-- loop.example/g00709/laws.toByteS -/
def t0 : Tr :=
(.nd (.pr (.len [ku8]) [(.v 0)])
(.nd (.pr (.mkz [ku8] .i64 1 [(.i 0)]) [(.v 1)])
(.nd (.pr (.len [ku8]) [(.v 2)])
(.blk 2 [(.sl [ku8])]
 (.loop [ki64, (.sl [ku8])] [(.k (.i 0)), (.v 2)]
  (.nd (.pr (.len [ku8]) [(.v 5)])
  (.nd (.pr (.len [ku8]) [(.v 0)])
  (.nd (.pr (.cmp .lss .i64) [(.v 4), (.v 7)])
  (.ite (.v 8)
   (.blk 3 [(.sl [ku8])]
    (.nd (.pr (.len [ku8]) [(.v 0)])
    (.nd (.pr (.ixc .i64) [(.v 4), (.v 9)])
    (.nd (.pr (.get [ku8] 0) [(.v 0), (.v 10)])
    (.nd (.pr (.ixc .i64) [(.v 4), (.v 6)])
    (.nd (.pr (.set [ku8] 0) [(.v 5), (.v 12), (.v 11)])
    (.out 0 [(.v 13)]))))))
   (.nd (.pr (.len [ku8]) [(.v 9)])
   (.nd (.pr (.bin .add .i64) [(.v 4), (.k (.i 1))])
   (.out 0 [(.v 11), (.v 9)]))))
   (.out 2 [(.v 5)]))))))
(.nd (.pr (.len [ku8]) [(.v 4)])
(.out 1 [(.v 4)]))))))
def e0 : Fe := ⟨⟨21, [(.sl [ku8])], [(.lz [ku8] (.v 0))], [], [(.sl [ku8])], [(.sl 0 (.k (.i 0)) (.v 2) 1)], [(0, (.arr [ku8] (.v 1) (.v 2)))], 1⟩,
 ⟨[(29, ⟨[(.sl [ku8])], [(3, (.sl 0 (.k (.i 0)) (.v 5) 1))], [(0, (.arr [ku8] (.v 4) (.v 5)))], 1⟩), (58, ⟨[ki64, (.sl [ku8])], [(0, (.lz [ku8] (.v 0))), (3, (.sl 0 (.k (.i 0)) (.v 6) 1)), (4, (.dat ki64 (.v 4)))], [(0, (.arr [ku8] (.v 5) (.v 6)))], 1⟩), (466, ⟨[(.sl [ku8])], [(0, (.lz [ku8] (.v 0))), (3, (.sl 0 (.k (.i 0)) (.v 10) 1)), (4, (.dat ki64 (.v 4)))], [(0, (.arr [ku8] (.v 9) (.v 10)))], 1⟩)], []⟩,
 [(2, (.sl 0 (.k (.i 0)) (.v 2) 1))], some t0, fun _ => none⟩
/-- loop.example/g00709/spec.NumBytes -/
def t1 : Tr :=
(.seq [kb]
 (.nd (.pr (.cmp .lss .i64) [(.v 0), (.k (.i 0))])
 (.ite (.v 1)
  (.out 0 [(.k (.b true))])
  (.nd (.pr (.cmp .gtr .i64) [(.v 0), (.k (.i 65535))])
  (.out 0 [(.v 2)]))))
(.ite (.v 1)
 (.out 1 [(.k (.l []))])
 (.blk 2 [ki64, (.sl [ku8])]
  (.loop [ki64, (.sl [ku8])] [(.v 0), (.k (.l []))]
   (.nd (.pr (.len [ku8]) [(.v 3)])
   (.nd (.pr (.cmp .geq .i64) [(.v 2), (.k (.i 128))])
   (.ite (.v 5)
    (.blk 3 [ki64, (.sl [ku8])]
     (.nd (.pr (.bin .rem .i64) [(.v 2), (.k (.i 128))])
     (.nd (.pr (.bin .add .i64) [(.k (.i 128)), (.v 6)])
     (.nd (.pr (.conv .i64 .u8) [(.v 7)])
     (.nd (.pr (.mk [ku8] 1) [(.v 8)])
     (.nd (.pr (.app [ku8] 1) [(.v 3), (.v 9)])
     (.nd (.pr (.len [ku8]) [(.v 10)])
     (.nd (.pr (.bin .quo .i64) [(.v 2), (.k (.i 128))])
     (.out 0 [(.v 12), (.v 10)]))))))))
    (.nd (.pr (.len [ku8]) [(.v 7)])
    (.out 0 [(.v 6), (.v 7)])))
    (.out 2 [(.v 2), (.v 3)])))))
 (.nd (.pr (.len [ku8]) [(.v 3)])
 (.nd (.pr (.conv .i64 .u8) [(.v 2)])
 (.nd (.pr (.mk [ku8] 1) [(.v 5)])
 (.nd (.pr (.app [ku8] 1) [(.v 3), (.v 6)])
 (.nd (.pr (.len [ku8]) [(.v 7)])
 (.out 1 [(.v 7)])))))))))
def e1 : Fe := ⟨⟨101, [ki64], [(.dat ki64 (.v 0))], [], [(.sl [ku8])], [(.sl 0 (.k (.i 0)) (.v 2) 1)], [(0, (.arr [ku8] (.v 1) (.v 2)))], 1⟩,
 ⟨[(30, ⟨[ki64, (.sl [ku8])], [(0, (.dat ki64 (.v 2))), (3, (.sl 0 (.k (.i 0)) (.v 4) 1))], [(0, (.arr [ku8] (.v 3) (.v 4)))], 1⟩), (60, ⟨[ki64, (.sl [ku8])], [(0, (.dat ki64 (.v 2))), (3, (.sl 0 (.k (.i 0)) (.v 4) 1))], [(0, (.arr [ku8] (.v 3) (.v 4)))], 1⟩), (241, ⟨[ki64, (.sl [ku8])], [(0, (.dat ki64 (.v 6))), (3, (.sl 0 (.k (.i 0)) (.v 8) 1))], [(0, (.arr [ku8] (.v 7) (.v 8)))], 1⟩), (6, ⟨[kb], [(0, (.dat ki64 (.v 0))), (9, (.dat kb (.v 1)))], [], 0⟩)], []⟩,
 [(2, (.sl 0 (.k (.i 0)) (.v 2) 1))], some t1, fun _ => none⟩
/-- loop.example/g00709/spec.NumRead -/
def t2 : Tr :=
(.seq [kb]
 (.nd (.pr (.cmp .lss .i64) [(.v 1), (.k (.i 0))])
 (.ite (.v 2)
  (.out 0 [(.k (.b true))])
  (.nd (.pr (.len [ku8]) [(.v 0)])
  (.nd (.pr (.cmp .geq .i64) [(.v 1), (.v 3)])
  (.out 0 [(.v 4)])))))
(.ite (.v 2)
 (.out 1 [(.k (.i 0)), (.k (.i 0)), (.k (.b false))])
 (.blk 2 []
  (.loop [ki64, ki64, ki64] [(.k (.i 0)), (.k (.i 1)), (.v 1)]
   (.seq [kb]
    (.nd (.pr (.len [ku8]) [(.v 0)])
    (.nd (.pr (.cmp .lss .i64) [(.v 5), (.v 6)])
    (.ite (.v 7)
     (.nd (.pr (.bin .add .i64) [(.v 1), (.k (.i 3))])
     (.nd (.pr (.cmp .lss .i64) [(.v 5), (.v 8)])
     (.out 0 [(.v 9)])))
     (.out 0 [(.k (.b false))]))))
   (.ite (.v 6)
    (.blk 3 [ki64, ki64]
     (.nd (.pr (.len [ku8]) [(.v 0)])
     (.nd (.pr (.ixc .i64) [(.v 5), (.v 7)])
     (.nd (.pr (.get [ku8] 0) [(.v 0), (.v 8)])
     (.nd (.pr (.bin .rem .u8) [(.v 9), (.k (.i 128))])
     (.nd (.pr (.conv .u8 .i64) [(.v 10)])
     (.nd (.pr (.bin .mul .i64) [(.v 4), (.v 11)])
     (.nd (.pr (.bin .add .i64) [(.v 3), (.v 12)])
     (.nd (.pr (.bin .mul .i64) [(.k (.i 128)), (.v 4)])
     (.nd (.pr (.len [ku8]) [(.v 0)])
     (.nd (.pr (.ixc .i64) [(.v 5), (.v 15)])
     (.nd (.pr (.get [ku8] 0) [(.v 0), (.v 16)])
     (.nd (.pr (.cmp .lss .u8) [(.v 17), (.k (.i 128))])
     (.ite (.v 18)
      (.nd (.pr (.bin .add .i64) [(.v 5), (.k (.i 1))])
      (.nd (.pr (.len [ku8]) [(.v 0)])
      (.nd (.pr (.cut [ku8] .i64 .i64) [(.v 0), (.v 1), (.v 19)])
      (.nd (.pr .bstr [(.v 21)])
      (.nd (.call 1 [(.v 13)] [ki64] [(.sl [ku8])])
      (.nd (.pr (.len [ku8]) [(.v 23)])
      (.nd (.pr .bstr [(.v 23)])
      (.nd (.pr (.cmpS .neq) [(.v 25), (.v 22)])
      (.ite (.v 26)
       (.out 1 [(.k (.i 0)), (.k (.i 0)), (.k (.b false))])
       (.nd (.pr (.bin .add .i64) [(.v 5), (.k (.i 1))])
       (.out 1 [(.v 13), (.v 27), (.k (.b true))])))))))))))
      (.out 0 [(.v 13), (.v 14)]))))))))))))))
    (.nd (.pr (.bin .add .i64) [(.v 5), (.k (.i 1))])
    (.out 0 [(.v 7), (.v 8), (.v 9)])))
    (.out 2 []))))
 (.out 1 [(.k (.i 0)), (.k (.i 0)), (.k (.b false))]))))
def e2 : Fe := ⟨⟨20, [(.sl [ku8]), ki64], [(.lz [ku8] (.v 0)), (.dat ki64 (.v 1))], [], [ki64, ki64, kb], [(.dat ki64 (.v 2)), (.dat ki64 (.v 3)), (.dat kb (.v 4))], [], 0⟩,
 ⟨[(125, ⟨[], [], [], 0⟩), (250, ⟨[ki64, ki64, ki64], [(0, (.lz [ku8] (.v 0))), (1, (.dat ki64 (.v 1))), (7, (.dat ki64 (.v 3))), (8, (.dat ki64 (.v 4))), (9, (.dat ki64 (.v 5)))], [], 0⟩), (2002, ⟨[ki64, ki64], [(0, (.lz [ku8] (.v 0))), (1, (.dat ki64 (.v 1))), (7, (.dat ki64 (.v 7))), (8, (.dat ki64 (.v 8))), (9, (.dat ki64 (.v 5)))], [], 0⟩), (1000, ⟨[kb], [(0, (.lz [ku8] (.v 0))), (1, (.dat ki64 (.v 1))), (7, (.dat ki64 (.v 3))), (8, (.dat ki64 (.v 4))), (9, (.dat ki64 (.v 5))), (28, (.dat kb (.v 6)))], [], 0⟩), (6, ⟨[kb], [(0, (.lz [ku8] (.v 0))), (1, (.dat ki64 (.v 1))), (17, (.dat kb (.v 2)))], [], 0⟩)], []⟩,
 [(4, (.dat ki64 (.v 2))), (5, (.dat ki64 (.v 3))), (6, (.dat kb (.v 4)))], some t2, fun _ => none⟩
/-- loop.example/g00709/impl.numRead -/
def t3 : Tr :=
(.nd (.pr (.cmp .lss .i64) [(.v 1), (.k (.i 0))])
(.ite (.v 2)
 (.out 1 [(.k (.i 0)), (.k (.i 0)), (.k (.b false))])
 (.blk 2 []
  (.loop [ki64, ki64] [(.k (.i 0)), (.v 1)]
   (.seq [kb]
    (.nd (.pr (.len [ku8]) [(.v 0)])
    (.nd (.pr (.cmp .lss .i64) [(.v 4), (.v 5)])
    (.ite (.v 6)
     (.nd (.pr (.bin .add .i64) [(.v 1), (.k (.i 3))])
     (.nd (.pr (.cmp .lss .i64) [(.v 4), (.v 7)])
     (.out 0 [(.v 8)])))
     (.out 0 [(.k (.b false))]))))
   (.ite (.v 5)
    (.blk 3 [ki64]
     (.nd (.pr (.len [ku8]) [(.v 0)])
     (.nd (.pr (.ixc .i64) [(.v 4), (.v 6)])
     (.nd (.pr (.get [ku8] 0) [(.v 0), (.v 7)])
     (.nd (.pr (.bin .and .u8) [(.v 8), (.k (.i 127))])
     (.nd (.pr (.conv .u8 .i64) [(.v 9)])
     (.nd (.pr (.bin .sub .i64) [(.v 4), (.v 1)])
     (.nd (.pr (.bin .mul .i64) [(.k (.i 7)), (.v 11)])
     (.nd (.pr (.sh .shl .i64 .i64) [(.v 10), (.v 12)])
     (.nd (.pr (.bin .or .i64) [(.v 3), (.v 13)])
     (.nd (.pr (.len [ku8]) [(.v 0)])
     (.nd (.pr (.ixc .i64) [(.v 4), (.v 15)])
     (.nd (.pr (.get [ku8] 0) [(.v 0), (.v 16)])
     (.nd (.pr (.cmp .gtr .u8) [(.v 17), (.k (.i 127))])
     (.ite (.v 18)
      (.out 3 [(.v 14)])
      (.seq [kb]
       (.nd (.pr (.cmp .gtr .i64) [(.v 14), (.k (.i 65535))])
       (.ite (.v 19)
        (.out 0 [(.k (.b true))])
        (.nd (.pr (.cmp .gtr .i64) [(.v 4), (.v 1)])
        (.ite (.v 20)
         (.nd (.pr (.len [ku8]) [(.v 0)])
         (.nd (.pr (.ixc .i64) [(.v 4), (.v 21)])
         (.nd (.pr (.get [ku8] 0) [(.v 0), (.v 22)])
         (.nd (.pr (.cmp .eql .u8) [(.v 23), (.k (.i 0))])
         (.out 0 [(.v 24)])))))
         (.out 0 [(.k (.b false))])))))
      (.ite (.v 19)
       (.out 2 [])
       (.nd (.pr (.bin .add .i64) [(.v 4), (.k (.i 1))])
       (.out 1 [(.v 14), (.v 20), (.k (.b true))]))))))))))))))))))
    (.nd (.pr (.bin .add .i64) [(.v 4), (.k (.i 1))])
    (.out 0 [(.v 6), (.v 7)])))
    (.out 2 []))))
 (.out 1 [(.k (.i 0)), (.k (.i 0)), (.k (.b false))]))))
def e3 : Fe := ⟨⟨102, [(.sl [ku8]), ki64], [(.lz [ku8] (.v 0)), (.dat ki64 (.v 1))], [], [ki64, ki64, kb], [(.dat ki64 (.v 2)), (.dat ki64 (.v 3)), (.dat kb (.v 4))], [], 0⟩,
 ⟨[(61, ⟨[], [], [], 0⟩), (122, ⟨[ki64, ki64], [(0, (.lz [ku8] (.v 0))), (1, (.dat ki64 (.v 1))), (7, (.dat ki64 (.v 3))), (8, (.dat ki64 (.v 4)))], [], 0⟩), (978, ⟨[ki64], [(0, (.lz [ku8] (.v 0))), (1, (.dat ki64 (.v 1))), (7, (.dat ki64 (.v 6))), (8, (.dat ki64 (.v 4)))], [], 0⟩), (15654, ⟨[kb], [(7, (.dat ki64 (.v 14))), (8, (.dat ki64 (.v 4))), (55, (.dat kb (.v 19)))], [], 0⟩), (488, ⟨[kb], [(0, (.lz [ku8] (.v 0))), (1, (.dat ki64 (.v 1))), (7, (.dat ki64 (.v 3))), (8, (.dat ki64 (.v 4))), (21, (.dat kb (.v 5)))], [], 0⟩)], []⟩,
 [(4, (.dat ki64 (.v 2))), (5, (.dat ki64 (.v 3))), (6, (.dat kb (.v 4)))], some t3, fun _ => none⟩
/-- loop.example/g00709/impl.NumRead -/
def t4 : Tr :=
(.nd (.call 3 [(.v 0), (.v 1)] [(.sl [ku8]), ki64] [ki64, ki64, kb])
(.out 1 [(.v 2), (.v 3), (.v 4)]))
def e4 : Fe := ⟨⟨22, [(.sl [ku8]), ki64], [(.lz [ku8] (.v 0)), (.dat ki64 (.v 1))], [], [ki64, ki64, kb], [(.dat ki64 (.v 2)), (.dat ki64 (.v 3)), (.dat kb (.v 4))], [], 0⟩,
 ⟨[], []⟩,
 [(4, (.dat ki64 (.v 2))), (5, (.dat ki64 (.v 3))), (6, (.dat kb (.v 4)))], some t4, fun _ => none⟩
/-- loop.example/g00709/laws.eqByteS -/
def t5 : Tr :=
(.nd (.pr (.len [ku8]) [(.v 0)])
(.nd (.pr (.len [ku8]) [(.v 1)])
(.nd (.pr (.cmp .neq .i64) [(.v 2), (.v 3)])
(.ite (.v 4)
 (.out 1 [(.k (.b false))])
 (.blk 2 []
  (.loop [ki64] [(.k (.i 0))]
   (.nd (.pr (.len [ku8]) [(.v 0)])
   (.nd (.pr (.cmp .lss .i64) [(.v 5), (.v 6)])
   (.ite (.v 7)
    (.blk 3 []
     (.nd (.pr (.len [ku8]) [(.v 0)])
     (.nd (.pr (.ixc .i64) [(.v 5), (.v 8)])
     (.nd (.pr (.get [ku8] 0) [(.v 0), (.v 9)])
     (.nd (.pr (.len [ku8]) [(.v 1)])
     (.nd (.pr (.ixc .i64) [(.v 5), (.v 11)])
     (.nd (.pr (.get [ku8] 0) [(.v 1), (.v 12)])
     (.nd (.pr (.cmp .neq .u8) [(.v 10), (.v 13)])
     (.ite (.v 14)
      (.out 1 [(.k (.b false))])
      (.out 0 [])))))))))
    (.nd (.pr (.bin .add .i64) [(.v 5), (.k (.i 1))])
    (.out 0 [(.v 8)])))
    (.out 2 [])))))
 (.out 1 [(.k (.b true))]))))))
def e5 : Fe := ⟨⟨23, [(.sl [ku8]), (.sl [ku8])], [(.lz [ku8] (.v 0)), (.lz [ku8] (.v 1))], [], [kb], [(.dat kb (.v 2))], [], 0⟩,
 ⟨[(29, ⟨[], [], [], 0⟩), (58, ⟨[ki64], [(0, (.lz [ku8] (.v 0))), (1, (.lz [ku8] (.v 1))), (5, (.dat ki64 (.v 5)))], [], 0⟩), (466, ⟨[], [(0, (.lz [ku8] (.v 0))), (1, (.lz [ku8] (.v 1))), (5, (.dat ki64 (.v 5)))], [], 0⟩)], []⟩,
 [(4, (.dat kb (.v 2)))], some t5, fun _ => none⟩
/-- loop.example/g00709/laws.FnExactNumRead -/
def t6 : Tr :=
(.nd (.pr (.len [ku8]) [(.v 0)])
(.nd (.pr (.cmp .gtr .i64) [(.v 2), (.k (.i 1048576))])
(.ite (.v 3)
 (.out 1 [(.k (.b true))])
 (.nd (.call 0 [(.v 0)] [(.sl [ku8])] [(.sl [ku8])])
 (.nd (.pr (.len [ku8]) [(.v 4)])
 (.nd (.call 2 [(.v 4), (.v 1)] [(.sl [ku8]), ki64] [ki64, ki64, kb])
 (.nd (.call 0 [(.v 0)] [(.sl [ku8])] [(.sl [ku8])])
 (.nd (.pr (.len [ku8]) [(.v 9)])
 (.nd (.call 4 [(.v 9), (.v 1)] [(.sl [ku8]), ki64] [ki64, ki64, kb])
 (.seq [kb]
  (.nd (.pr (.cmp .neq .i64) [(.v 11), (.v 6)])
  (.ite (.v 14)
   (.out 0 [(.k (.b true))])
   (.nd (.pr (.cmp .neq .i64) [(.v 12), (.v 7)])
   (.ite (.v 15)
    (.out 0 [(.k (.b true))])
    (.nd (.pr .eqb [(.v 13), (.v 8)])
    (.nd (.pr .not [(.v 16)])
    (.out 0 [(.v 17)])))))))
 (.nd (.pr (.len [ku8]) [(.v 9)])
 (.ite (.v 14)
  (.out 1 [(.k (.b false))])
  (.nd (.call 0 [(.v 0)] [(.sl [ku8])] [(.sl [ku8])])
  (.nd (.pr (.len [ku8]) [(.v 16)])
  (.nd (.call 5 [(.v 9), (.v 16)] [(.sl [ku8]), (.sl [ku8])] [kb])
  (.nd (.pr .not [(.v 18)])
  (.ite (.v 19)
   (.out 1 [(.k (.b false))])
   (.out 1 [(.k (.b true))]))))))))))))))))))
def e6 : Fe := ⟨⟨3, [(.sl [ku8]), ki64], [(.lz [ku8] (.v 0)), (.dat ki64 (.v 1))], [], [kb], [(.dat kb (.v 2))], [], 0⟩,
 ⟨[(126, ⟨[kb], [(0, (.lz [ku8] (.v 0))), (8, (.sl 0 (.k (.i 0)) (.v 15) 1)), (44, (.dat kb (.v 14)))], [(0, (.arr [ku8] (.v 9) (.v 15)))], 1⟩)], []⟩,
 [(4, (.dat kb (.v 2)))], some t6, fun _ => none⟩
def fes : List Fe := [e0, e1, e2, e3, e4, e5, e6]
theorem tabOk : TabOk Try.prog tab := tabB_ok (by kernel_rfl)
theorem ok0 : e0.ok Try.prog tab (sigsOf fes) (kindsOf fes) = true := by kernel_rfl
theorem ok1 : e1.ok Try.prog tab (sigsOf fes) (kindsOf fes) = true := by kernel_rfl
theorem ok2 : e2.ok Try.prog tab (sigsOf fes) (kindsOf fes) = true := by kernel_rfl
theorem ok3 : e3.ok Try.prog tab (sigsOf fes) (kindsOf fes) = true := by kernel_rfl
theorem ok4 : e4.ok Try.prog tab (sigsOf fes) (kindsOf fes) = true := by kernel_rfl
theorem ok5 : e5.ok Try.prog tab (sigsOf fes) (kindsOf fes) = true := by kernel_rfl
theorem ok6 : e6.ok Try.prog tab (sigsOf fes) (kindsOf fes) = true := by kernel_rfl
theorem fesOk : FeL Try.prog tab fes 0 fes := ⟨ok0, ok1, ok2, ok3, ok4, ok5, ok6, trivial⟩
end Go.Proofs.Ytaaglpobmdpdlaa.NumRead
