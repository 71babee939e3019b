/- Part of the proof: S1p2, S300, S301, S302, S303, S305, S306, S304, S310, S311. -/
import Derived.Test.YtfegfnekphobmaaDoorProg
import Derived.KernelRfl
import Derived.Test.YtfegfnekphobmaaDoorG
set_option linter.unnecessarySimpa false
set_option linter.unusedVariables false
set_option linter.unusedSimpArgs false
section
namespace Go.Proofs.YtfegfnekphobmaaDoor
open Go Go.Proofs.YtfegfnekphobmaaDoor.AL
/-- bytes.Equal -/
def a25 : AF where
  nt := 10
  body := (.seq (.region none [
      ⟨(some 4), none, (.op (.mov (.dat (.lit (.bool false)))))⟩])
    (.seq (.region none [
      ⟨(some 5), none, (.op (.mov (.tmp 0)))⟩,
      ⟨(some 6), none, (.op (.ext .bytesStr [(.tmp 5)]))⟩,
      ⟨(some 7), none, (.op (.mov (.tmp 1)))⟩,
      ⟨(some 8), none, (.op (.ext .bytesStr [(.tmp 7)]))⟩,
      ⟨(some 9), none, (.op (.arith .eql (.tmp 6) (.tmp 8)))⟩,
      ⟨(some 4), none, (.op (.mov (.tmp 9)))⟩])
    .ret))
  res := [.tmp 4]
theorem c25 : CmpF Tryd.prog 25 a25 := chkF_cmp (F := Tryd.f25) (by kernel_rfl) mixed (by kernel_rfl)
/-- hansard/codec.Encode -/
def a26 : AF where
  nt := 19
  body := (.seq (.region none [
      ⟨(some 1), none, (.op (.box true (.tmp 0)))⟩,
      ⟨(some 2), none, (.op (.mov (.dat (.nil 1))))⟩,
      ⟨(some 3), none, (.op (.mov (.dat (.lit (.int .i64 0)))))⟩])
    (.seq (.seq (.region none [
      ⟨(some 5), none, (.op (.load 4 true (.tmp 1)))⟩,
      ⟨(some 6), none, (.call (.dat (.fn (.func 35) [] [])) [(.tmp 5)])⟩,
      ⟨(some 4), none, (.op (.mov (.tmp 6)))⟩])
    (.seq (.region none [
      ⟨(some 7), none, (.op (.mov (.tmp 4)))⟩,
      ⟨(some 8), none, (.op (.arith .neq (.tmp 7) (.dat (.lit (.int .i64 0)))))⟩])
    (.cond (.tmp 8)
      (.seq (.region none [
        ⟨(some 9), none, (.op (.mov (.tmp 4)))⟩,
        ⟨(some 2), none, (.op (.mov (.dat (.nil 1))))⟩,
        ⟨(some 3), none, (.op (.mov (.tmp 9)))⟩])
      .ret)
      .skip)))
    (.seq (.region (some [[], [], [1], [0], [0, 1, 2, 3], [0, 1, 2, 3, 4], [0, 1, 2, 3, 4, 5], [], [0, 1, 2, 3, 4, 5, 6, 7], [0, 1, 2, 3, 4, 5, 6, 7, 8], [0, 1, 2, 3, 4, 5, 6, 7, 8, 9]]) [
      ⟨(some 10), none, (.call (.dat (.fn (.func 36) [] [])) [])⟩,
      ⟨(some 11), none, (.op (.field 0 1 false (.tmp 1)))⟩,
      ⟨(some 12), none, (.op (.load 1 false (.tmp 11)))⟩,
      ⟨(some 13), none, (.op (.ext .nilChk [(.tmp 10)]))⟩,
      ⟨(some 14), none, (.op (.indexA 1 true 4 (.tmp 13) (.tmp 12)))⟩,
      ⟨(some 15), none, (.op (.field 0 1 false (.tmp 14)))⟩,
      ⟨(some 16), none, (.op (.load 1 false (.tmp 15)))⟩,
      ⟨(some 17), none, (.op (.load 4 true (.tmp 1)))⟩,
      ⟨(some 18), none, (.acall (.tmp 16) [(.dat (.nil 1)), (.tmp 17)])⟩,
      ⟨(some 2), none, (.op (.mov (.tmp 18)))⟩,
      ⟨(some 3), none, (.op (.mov (.dat (.lit (.int .i64 0)))))⟩])
    .ret)))
  res := [.tmp 2, .tmp 3]
theorem c26 : CmpF Tryd.prog 26 a26 := chkF_cmp (F := Tryd.f26) (by kernel_rfl) mixed (by kernel_rfl)
/-- hansard/chain.list -/
def a27 : AF where
  nt := 5
  body := (.seq (.region none [
      ⟨(some 2), none, (.op (.alloc true [.lit (.int .i64 0), .lit (.int .i64 0), .lit (.string ⟨#[]⟩), .nil 4]))⟩])
    (.seq (.region none [
      ⟨(some 3), none, (.op (.mov (.tmp 0)))⟩,
      ⟨(some 4), none, (.op (.build [.lit (.int .i64 0), .lit (.int .i64 0), .lit (.string ⟨#[]⟩), .nil 4] [(0, 1, (.dat (.lit (.int .i64 3)))), (3, 1, (.tmp 3))]))⟩,
      ⟨none, none, (.op (.store 4 (.tmp 2) (.tmp 4)))⟩])
    .ret))
  res := [.cell 2 4 true]
theorem c27 : CmpF Tryd.prog 27 a27 := chkF_cmp (F := Tryd.f27) (by kernel_rfl) mixed (by kernel_rfl)
/-- hansard/chain.number -/
def a28 : AF where
  nt := 5
  body := (.seq (.region none [
      ⟨(some 2), none, (.op (.alloc true [.lit (.int .i64 0), .lit (.int .i64 0), .lit (.string ⟨#[]⟩), .nil 4]))⟩])
    (.seq (.region none [
      ⟨(some 3), none, (.op (.mov (.tmp 0)))⟩,
      ⟨(some 4), none, (.op (.build [.lit (.int .i64 0), .lit (.int .i64 0), .lit (.string ⟨#[]⟩), .nil 4] [(0, 1, (.dat (.lit (.int .i64 1)))), (1, 1, (.tmp 3))]))⟩,
      ⟨none, none, (.op (.store 4 (.tmp 2) (.tmp 4)))⟩])
    .ret))
  res := [.cell 2 4 true]
theorem c28 : CmpF Tryd.prog 28 a28 := chkF_cmp (F := Tryd.f28) (by kernel_rfl) mixed (by kernel_rfl)
/-- hansard/chain.text -/
def a29 : AF where
  nt := 6
  body := (.seq (.region none [
      ⟨(some 2), none, (.op (.alloc true [.lit (.int .i64 0), .lit (.int .i64 0), .lit (.string ⟨#[]⟩), .nil 4]))⟩])
    (.seq (.region none [
      ⟨(some 3), none, (.op (.mov (.tmp 0)))⟩,
      ⟨(some 4), none, (.op (.ext .bytesStr [(.tmp 3)]))⟩,
      ⟨(some 5), none, (.op (.build [.lit (.int .i64 0), .lit (.int .i64 0), .lit (.string ⟨#[]⟩), .nil 4] [(0, 1, (.dat (.lit (.int .i64 2)))), (2, 1, (.tmp 4))]))⟩,
      ⟨none, none, (.op (.store 4 (.tmp 2) (.tmp 5)))⟩])
    .ret))
  res := [.cell 2 4 true]
theorem c29 : CmpF Tryd.prog 29 a29 := chkF_cmp (F := Tryd.f29) (by kernel_rfl) mixed (by kernel_rfl)
/-- hansard/chain.beginnings -/
def a30 : AF where
  nt := 4
  body := (.seq (.region none [
      ⟨(some 1), none, (.op (.box false (.tmp 0)))⟩,
      ⟨(some 2), none, (.op (.mov (.dat (.lit (.nilFunc)))))⟩])
    (.seq (.region none [
      ⟨(some 3), none, (.op (.func (.func 37) [] [(.tmp 1)]))⟩,
      ⟨(some 2), none, (.op (.mov (.tmp 3)))⟩])
    .ret))
  res := [.tmp 2]
theorem c30 : CmpF Tryd.prog 30 a30 := chkF_cmp (F := Tryd.f30) (by kernel_rfl) mixed (by kernel_rfl)
/-- hansard/hansardref08.Text -/
def a31 : AF where
  nt := 47
  body := (.seq (.region none [
      ⟨(some 2), none, (.op (.mov (.dat (.lit (.string ⟨#[]⟩)))))⟩,
      ⟨(some 3), none, (.op (.mov (.dat (.nil 1))))⟩])
    (.seq (.seq (.region none [
      ⟨(some 9), none, (.op (.mov (.tmp 0)))⟩,
      ⟨(some 10), none, (.op (.len (.tmp 9)))⟩,
      ⟨(some 11), none, (.op (.arith .eql (.tmp 10) (.dat (.lit (.int .i64 0)))))⟩])
    (.cond (.tmp 11)
      (.seq (.region none [
        ⟨(some 2), none, (.op (.mov (.dat (.lit (.string ⟨#[110, 111, 110, 101]⟩)))))⟩,
        ⟨(some 3), none, (.op (.mov (.dat (.nil 1))))⟩])
      .ret)
      .skip))
    (.seq (.region none [
      ⟨(some 12), none, (.op (.mov (.tmp 0)))⟩,
      ⟨(some 13), none, (.op (.mov (.tmp 0)))⟩,
      ⟨(some 14), none, (.op (.len (.tmp 13)))⟩,
      ⟨(some 15), none, (.op (.arith .sub (.tmp 14) (.dat (.lit (.int .i64 1)))))⟩,
      ⟨(some 16), none, (.op (.index 35 (.tmp 12) (.tmp 15)))⟩,
      ⟨(some 17), none, (.op (.load 35 true (.tmp 16)))⟩,
      ⟨(some 4), none, (.op (.alloc true [.lit (.int .i64 0), .lit (.int .i64 0), .lit (.int .u8 0), .lit (.int .u8 0), .lit (.int .u8 0), .lit (.int .u8 0), .lit (.int .u8 0), .lit (.int .u8 0), .lit (.int .u8 0), .lit (.int .u8 0), .lit (.int .u8 0), .lit (.int .u8 0), .lit (.int .u8 0), .lit (.int .u8 0), .lit (.int .u8 0), .lit (.int .u8 0), .lit (.int .u8 0), .lit (.int .u8 0), .lit (.int .u8 0), .lit (.int .u8 0), .lit (.int .u8 0), .lit (.int .u8 0), .lit (.int .u8 0), .lit (.int .u8 0), .lit (.int .u8 0), .lit (.int .u8 0), .lit (.int .u8 0), .lit (.int .u8 0), .lit (.int .u8 0), .lit (.int .u8 0), .lit (.int .u8 0), .lit (.int .u8 0), .lit (.int .u8 0), .lit (.int .u8 0), .nil 1]))⟩,
      ⟨none, none, (.op (.store 35 (.tmp 4) (.tmp 17)))⟩])
    (.seq (.region none [
      ⟨(some 5), none, (.op (.mov (.dat (.nil 1))))⟩])
    (.seq (.seq (.region none [
      ⟨(some 6), none, (.op (.mov (.dat (.lit (.int .i64 0)))))⟩])
    (.block 0
      (.loop
        (.seq (.seq (.region none [
          ⟨(some 18), none, (.op (.mov (.tmp 6)))⟩,
          ⟨(some 19), none, (.op (.arith .lss (.tmp 18) (.dat (.lit (.int .i64 32)))))⟩])
        (.cond (.tmp 19)
          .skip
          (.exit 0)))
        (.seq (.block 1
          (.region none [
            ⟨(some 22), none, (.op (.mov (.tmp 5)))⟩,
            ⟨(some 23), none, (.op (.mov (.tmp 6)))⟩,
            ⟨(some 24), none, (.op (.field 2 32 true (.tmp 4)))⟩,
            ⟨(some 25), none, (.op (.indexA 1 false 32 (.tmp 24) (.tmp 23)))⟩,
            ⟨(some 26), none, (.op (.load 1 false (.tmp 25)))⟩,
            ⟨(some 27), none, (.op (.mkslice 1 [(.tmp 26)]))⟩,
            ⟨(some 28), none, (.op (.append 1 1 (.tmp 22) (.tmp 27)))⟩,
            ⟨(some 5), none, (.op (.mov (.tmp 28)))⟩]))
        (.region none [
          ⟨(some 20), none, (.op (.mov (.tmp 6)))⟩,
          ⟨(some 21), none, (.op (.arith .add (.tmp 20) (.dat (.lit (.int .i64 1)))))⟩,
          ⟨(some 6), none, (.op (.mov (.tmp 21)))⟩]))))))
    (.seq (.region (some [[], [0], [0, 1], [], [3], [0, 1, 2, 3, 4], [], [0, 1, 2, 3, 4, 5, 6], [], [8], [0, 1, 2, 3, 4, 5, 6, 7, 8, 9], [0, 1, 2, 3, 4, 5, 6, 7, 8, 9, 10], [0, 1, 2, 3, 4, 5, 6, 7, 8, 9, 10, 11], [0, 1, 2, 3, 4, 5, 6, 7, 8, 9, 10, 11, 12], [0, 1, 2, 3, 4, 5, 6, 7, 8, 9, 10, 11, 12, 13], [0, 1, 2, 3, 4, 5, 6, 7, 8, 9, 10, 11, 12, 13, 14], [0, 1, 2, 3, 4, 5, 6, 7, 8, 9, 10, 11, 12, 13, 14], [0, 1, 2, 3, 4, 5, 6, 7, 8, 9, 10, 11, 12, 13, 14, 15], [0, 1, 2, 3, 4, 5, 6, 7, 8, 9, 10, 11, 12, 13, 14, 15, 16, 17]]) [
      ⟨(some 30), none, (.op (.field 0 1 false (.tmp 4)))⟩,
      ⟨(some 31), none, (.op (.load 1 false (.tmp 30)))⟩,
      ⟨(some 32), none, (.call (.dat (.fn (.func 39) [] [])) [(.tmp 31)])⟩,
      ⟨(some 33), none, (.op (.field 1 1 false (.tmp 4)))⟩,
      ⟨(some 34), none, (.op (.load 1 false (.tmp 33)))⟩,
      ⟨(some 35), none, (.call (.dat (.fn (.func 39) [] [])) [(.tmp 34)])⟩,
      ⟨(some 36), none, (.op (.mov (.tmp 5)))⟩,
      ⟨(some 37), none, (.call (.dat (.fn (.func 40) [] [])) [(.tmp 36)])⟩,
      ⟨(some 38), none, (.op (.field 34 1 false (.tmp 4)))⟩,
      ⟨(some 39), none, (.op (.load 1 false (.tmp 38)))⟩,
      ⟨(some 40), none, (.call (.dat (.fn (.func 40) [] [])) [(.tmp 39)])⟩,
      ⟨(some 41), none, (.op (.mkslice 4 [(.tmp 32), (.tmp 35), (.tmp 37), (.tmp 40)]))⟩,
      ⟨(some 42), none, (.op (.build [.lit (.int .i64 0), .lit (.int .i64 0), .lit (.string ⟨#[]⟩), .nil 4] [(0, 1, (.dat (.lit (.int .i64 3)))), (3, 1, (.tmp 41))]))⟩,
      ⟨(some 43), none, (.call (.dat (.fn (.func 38) [] [])) [(.tmp 42)])⟩,
      ⟨(some 29), none, (.op (.mov (.tmp 43)))⟩,
      ⟨(some 44), none, (.op (.extract (.tmp 29) 0))⟩,
      ⟨(some 45), none, (.op (.extract (.tmp 29) 1))⟩,
      ⟨(some 7), none, (.op (.mov (.tmp 44)))⟩,
      ⟨(some 8), none, (.op (.mov (.tmp 45)))⟩])
    (.seq (.region none [
      ⟨(some 46), none, (.op (.mov (.tmp 7)))⟩,
      ⟨(some 2), none, (.op (.mov (.dat (.lit (.string ⟨#[108, 105, 110, 107]⟩)))))⟩,
      ⟨(some 3), none, (.op (.mov (.tmp 46)))⟩])
    .ret)))))))
  res := [.tmp 2, .tmp 3]
theorem c31 : CmpF Tryd.prog 31 a31 := chkF_cmp (F := Tryd.f31) (by kernel_rfl) mixed (by kernel_rfl)
/-- hansard/digest.Sum -/
def a32 : AF where
  nt := 69
  body := (.seq (.region none [
      ⟨(some 2), none, (.op (.alloc true [.lit (.int .u8 0), .lit (.int .u8 0), .lit (.int .u8 0), .lit (.int .u8 0), .lit (.int .u8 0), .lit (.int .u8 0), .lit (.int .u8 0), .lit (.int .u8 0), .lit (.int .u8 0), .lit (.int .u8 0), .lit (.int .u8 0), .lit (.int .u8 0), .lit (.int .u8 0), .lit (.int .u8 0), .lit (.int .u8 0), .lit (.int .u8 0), .lit (.int .u8 0), .lit (.int .u8 0), .lit (.int .u8 0), .lit (.int .u8 0), .lit (.int .u8 0), .lit (.int .u8 0), .lit (.int .u8 0), .lit (.int .u8 0), .lit (.int .u8 0), .lit (.int .u8 0), .lit (.int .u8 0), .lit (.int .u8 0), .lit (.int .u8 0), .lit (.int .u8 0), .lit (.int .u8 0), .lit (.int .u8 0)]))⟩])
    (.seq (.region none [
      ⟨(some 9), none, (.op (.load 8 true (.glob 0)))⟩,
      ⟨(some 3), none, (.op (.alloc true [.lit (.int .u32 0), .lit (.int .u32 0), .lit (.int .u32 0), .lit (.int .u32 0), .lit (.int .u32 0), .lit (.int .u32 0), .lit (.int .u32 0), .lit (.int .u32 0)]))⟩,
      ⟨none, none, (.op (.store 8 (.tmp 3) (.tmp 9)))⟩])
    (.seq (.region none [
      ⟨(some 10), none, (.op (.func (.func 41) [(.tmp 3)] []))⟩,
      ⟨(some 4), none, (.op (.mov (.tmp 10)))⟩])
    (.seq (.region none [
      ⟨(some 11), none, (.op (.mov (.tmp 0)))⟩,
      ⟨(some 5), none, (.op (.mov (.tmp 11)))⟩])
    (.seq (.block 0
      (.loop
        (.seq (.seq (.region none [
          ⟨(some 12), none, (.op (.mov (.tmp 5)))⟩,
          ⟨(some 13), none, (.op (.len (.tmp 12)))⟩,
          ⟨(some 14), none, (.op (.arith .geq (.tmp 13) (.dat (.lit (.int .i64 64)))))⟩])
        (.cond (.tmp 14)
          .skip
          (.exit 0)))
        (.seq (.block 1
          (.sregion [
            ⟨(some 17), none, (.op (.mov (.tmp 4)))⟩,
            ⟨(some 18), none, (.op (.mov (.tmp 5)))⟩,
            ⟨(some 19), none, (.op (.slice 1 (.tmp 18) none (some (.dat (.lit (.int .i64 64))))))⟩,
            ⟨(some 20), none, (.icall (.tmp 17) [(.tmp 19)])⟩]))
        (.region none [
          ⟨(some 15), none, (.op (.mov (.tmp 5)))⟩,
          ⟨(some 16), none, (.op (.slice 1 (.tmp 15) (some (.dat (.lit (.int .i64 64)))) none))⟩,
          ⟨(some 5), none, (.op (.mov (.tmp 16)))⟩])))))
    (.seq (.region none [
      ⟨(some 21), none, (.op (.ext (.mkslB 1 1 (.lit (.int .u8 0))) [(.dat (.lit (.int .i64 64))), (.dat (.lit (.int .i64 128)))]))⟩,
      ⟨(some 6), none, (.op (.mov (.tmp 21)))⟩])
    (.seq (.region none [
      ⟨(some 22), none, (.op (.mov (.tmp 6)))⟩,
      ⟨(some 23), none, (.op (.mov (.tmp 5)))⟩,
      ⟨(some 24), none, (.op (.ext .copyB [(.tmp 22), (.tmp 23)]))⟩])
    (.seq (.region none [
      ⟨(some 25), none, (.op (.mov (.tmp 6)))⟩,
      ⟨(some 26), none, (.op (.mov (.tmp 5)))⟩,
      ⟨(some 27), none, (.op (.len (.tmp 26)))⟩,
      ⟨(some 28), none, (.op (.ext (.idxB 1) [(.tmp 25), (.tmp 27)]))⟩,
      ⟨none, none, (.op (.store 1 (.tmp 28) (.dat (.lit (.int .u8 128)))))⟩])
    (.seq (.seq (.region none [
      ⟨(some 29), none, (.op (.mov (.tmp 5)))⟩,
      ⟨(some 30), none, (.op (.len (.tmp 29)))⟩,
      ⟨(some 31), none, (.op (.arith .gtr (.tmp 30) (.dat (.lit (.int .i64 55)))))⟩])
    (.cond (.tmp 31)
      (.region none [
        ⟨(some 32), none, (.op (.mov (.tmp 6)))⟩,
        ⟨(some 33), none, (.op (.ext (.sliceB 1 false true) [(.tmp 32), (.dat (.lit (.int .i64 128)))]))⟩,
        ⟨(some 6), none, (.op (.mov (.tmp 33)))⟩])
      .skip))
    (.seq (.sregion [
      ⟨(some 34), none, (.op (.mov (.tmp 6)))⟩,
      ⟨(some 35), none, (.op (.mov (.tmp 6)))⟩,
      ⟨(some 36), none, (.op (.ext .lenB [(.tmp 35)]))⟩,
      ⟨(some 37), none, (.op (.arith .sub (.tmp 36) (.dat (.lit (.int .i64 8)))))⟩,
      ⟨(some 38), none, (.op (.ext (.sliceB 1 true false) [(.tmp 34), (.tmp 37)]))⟩,
      ⟨(some 39), none, (.op (.mov (.tmp 0)))⟩,
      ⟨(some 40), none, (.op (.len (.tmp 39)))⟩,
      ⟨(some 41), none, (.op (.conv .u64 (.tmp 40)))⟩,
      ⟨(some 42), none, (.op (.arith .mul (.tmp 41) (.dat (.lit (.int .u64 8)))))⟩,
      ⟨(some 43), none, (.icall (.dat (.fn (.func 42) [] [])) [(.tmp 38), (.tmp 42)])⟩])
    (.seq (.block 2
      (.loop
        (.seq (.seq (.region none [
          ⟨(some 44), none, (.op (.mov (.tmp 6)))⟩,
          ⟨(some 45), none, (.op (.ext .lenB [(.tmp 44)]))⟩,
          ⟨(some 46), none, (.op (.arith .gtr (.tmp 45) (.dat (.lit (.int .i64 0)))))⟩])
        (.cond (.tmp 46)
          .skip
          (.exit 2)))
        (.seq (.block 3
          (.sregion [
            ⟨(some 49), none, (.op (.mov (.tmp 4)))⟩,
            ⟨(some 50), none, (.op (.mov (.tmp 6)))⟩,
            ⟨(some 51), none, (.op (.ext (.sliceB 1 false true) [(.tmp 50), (.dat (.lit (.int .i64 64)))]))⟩,
            ⟨(some 52), none, (.icall (.tmp 49) [(.tmp 51)])⟩]))
        (.region none [
          ⟨(some 47), none, (.op (.mov (.tmp 6)))⟩,
          ⟨(some 48), none, (.op (.ext (.sliceB 1 true false) [(.tmp 47), (.dat (.lit (.int .i64 64)))]))⟩,
          ⟨(some 6), none, (.op (.mov (.tmp 48)))⟩])))))
    (.seq (.seq (.region none [
      ⟨(some 53), none, (.op (.load 8 true (.tmp 3)))⟩,
      ⟨(some 54), none, (.op (.mov (.dat (.lit (.int .i64 0)))))⟩])
    (.block 4
      (.loop
        (.seq (.region none [
          ⟨(some 55), none, (.op (.arith .lss (.tmp 54) (.dat (.lit (.int .i64 8)))))⟩])
        (.seq (.cond (.tmp 55)
          .skip
          (.exit 4))
        (.seq (.block 5
          (.seq (.region none [
            ⟨(some 56), none, (.op (.mov (.tmp 54)))⟩,
            ⟨(some 57), none, (.op (.ext (.idxV 1 false 8) [(.tmp 53), (.tmp 54)]))⟩,
            ⟨(some 7), none, (.op (.mov (.tmp 56)))⟩,
            ⟨(some 8), none, (.op (.mov (.tmp 57)))⟩])
          (.sregion [
            ⟨(some 58), none, (.op (.mov (.tmp 7)))⟩,
            ⟨(some 59), none, (.op (.arith .mul (.dat (.lit (.int .i64 4))) (.tmp 58)))⟩,
            ⟨(some 60), none, (.op (.mov (.tmp 7)))⟩,
            ⟨(some 61), none, (.op (.arith .mul (.dat (.lit (.int .i64 4))) (.tmp 60)))⟩,
            ⟨(some 62), none, (.op (.arith .add (.tmp 61) (.dat (.lit (.int .i64 4)))))⟩,
            ⟨(some 63), none, (.op (.ext (.sliceAB 32 1 true true) [(.tmp 2), (.tmp 59), (.tmp 62)]))⟩,
            ⟨(some 64), none, (.op (.mov (.tmp 8)))⟩,
            ⟨(some 65), none, (.op (.conv .u64 (.tmp 64)))⟩,
            ⟨(some 66), none, (.icall (.dat (.fn (.func 42) [] [])) [(.tmp 63), (.tmp 65)])⟩])))
        (.region none [
          ⟨(some 67), none, (.op (.arith .add (.tmp 54) (.dat (.lit (.int .i64 1)))))⟩,
          ⟨(some 54), none, (.op (.mov (.tmp 67)))⟩])))))))
    (.seq (.region none [
      ⟨(some 68), none, (.op (.load 32 true (.tmp 2)))⟩,
      ⟨none, none, (.op (.store 32 (.tmp 2) (.tmp 68)))⟩])
    .ret)))))))))))))
  res := [.cell 2 32 true]
theorem c32 : CmpF Tryd.prog 32 a32 := chkF_cmp (F := Tryd.f32) (by kernel_rfl) mixed (by kernel_rfl)
/-- slices.Concat(()byte,byte) -/
def a33 : AF where
  nt := 36
  body := (.seq (.region none [
      ⟨(some 2), none, (.op (.mov (.dat (.nil 1))))⟩])
    (.seq (.region none [
      ⟨(some 3), none, (.op (.mov (.dat (.lit (.int .i64 0)))))⟩])
    (.seq (.seq (.region none [
      ⟨(some 9), none, (.op (.mov (.tmp 0)))⟩,
      ⟨(some 10), none, (.op (.len (.tmp 9)))⟩,
      ⟨(some 11), none, (.op (.mov (.dat (.lit (.int .i64 0)))))⟩])
    (.block 0
      (.loop
        (.seq (.region none [
          ⟨(some 12), none, (.op (.arith .lss (.tmp 11) (.tmp 10)))⟩])
        (.seq (.cond (.tmp 12)
          .skip
          (.exit 0))
        (.seq (.block 1
          (.seq (.region none [
            ⟨(some 13), none, (.op (.index 1 (.tmp 9) (.tmp 11)))⟩,
            ⟨(some 14), none, (.op (.load 1 false (.tmp 13)))⟩,
            ⟨(some 5), none, (.op (.mov (.tmp 14)))⟩])
          (.seq (.region none [
            ⟨(some 15), none, (.op (.mov (.tmp 3)))⟩,
            ⟨(some 16), none, (.op (.mov (.tmp 5)))⟩,
            ⟨(some 17), none, (.op (.len (.tmp 16)))⟩,
            ⟨(some 18), none, (.op (.arith .add (.tmp 15) (.tmp 17)))⟩,
            ⟨(some 3), none, (.op (.mov (.tmp 18)))⟩])
          (.seq (.region none [
            ⟨(some 19), none, (.op (.mov (.tmp 3)))⟩,
            ⟨(some 20), none, (.op (.arith .lss (.tmp 19) (.dat (.lit (.int .i64 0)))))⟩])
          (.cond (.tmp 20)
            (.sregion [
              ⟨(some 21), none, (.op (.ifc 9 (.dat (.lit (.string ⟨#[108, 101, 110, 32, 111, 117, 116, 32, 111, 102, 32, 114, 97, 110, 103, 101]⟩)))))⟩,
              ⟨none, none, (.panic (.tmp 21))⟩])
            .skip)))))
        (.region none [
          ⟨(some 22), none, (.op (.arith .add (.tmp 11) (.dat (.lit (.int .i64 1)))))⟩,
          ⟨(some 11), none, (.op (.mov (.tmp 22)))⟩])))))))
    (.seq (.sregion [
      ⟨(some 23), none, (.op (.mov (.tmp 3)))⟩,
      ⟨(some 24), none, (.icall (.dat (.fn (.func 43) [] [])) [(.dat (.nil 1)), (.tmp 23)])⟩,
      ⟨(some 6), none, (.op (.mov (.tmp 24)))⟩])
    (.seq (.seq (.region none [
      ⟨(some 25), none, (.op (.mov (.tmp 0)))⟩,
      ⟨(some 26), none, (.op (.len (.tmp 25)))⟩,
      ⟨(some 27), none, (.op (.mov (.dat (.lit (.int .i64 0)))))⟩])
    (.block 2
      (.loop
        (.seq (.region none [
          ⟨(some 28), none, (.op (.arith .lss (.tmp 27) (.tmp 26)))⟩])
        (.seq (.cond (.tmp 28)
          .skip
          (.exit 2))
        (.seq (.block 3
          (.seq (.region none [
            ⟨(some 29), none, (.op (.index 1 (.tmp 25) (.tmp 27)))⟩,
            ⟨(some 30), none, (.op (.load 1 false (.tmp 29)))⟩,
            ⟨(some 8), none, (.op (.mov (.tmp 30)))⟩])
          (.region none [
            ⟨(some 31), none, (.op (.mov (.tmp 6)))⟩,
            ⟨(some 32), none, (.op (.mov (.tmp 8)))⟩,
            ⟨(some 33), none, (.op (.append 1 1 (.tmp 31) (.tmp 32)))⟩,
            ⟨(some 6), none, (.op (.mov (.tmp 33)))⟩])))
        (.region none [
          ⟨(some 34), none, (.op (.arith .add (.tmp 27) (.dat (.lit (.int .i64 1)))))⟩,
          ⟨(some 27), none, (.op (.mov (.tmp 34)))⟩])))))))
    (.seq (.region none [
      ⟨(some 35), none, (.op (.mov (.tmp 6)))⟩,
      ⟨(some 2), none, (.op (.mov (.tmp 35)))⟩])
    .ret))))))
  res := [.tmp 2]
theorem c33 : CmpF Tryd.prog 33 a33 := chkF_cmp (F := Tryd.f33) (by kernel_rfl) mixed (by kernel_rfl)
/-- hansard/hansardref02.Tagged -/
def a34 : AF where
  nt := 15
  body := (.seq (.region none [
      ⟨(some 4), none, (.op (.alloc true [.lit (.int .u8 0), .lit (.int .u8 0), .lit (.int .u8 0), .lit (.int .u8 0), .lit (.int .u8 0), .lit (.int .u8 0), .lit (.int .u8 0), .lit (.int .u8 0), .lit (.int .u8 0), .lit (.int .u8 0), .lit (.int .u8 0), .lit (.int .u8 0), .lit (.int .u8 0), .lit (.int .u8 0), .lit (.int .u8 0), .lit (.int .u8 0), .lit (.int .u8 0), .lit (.int .u8 0), .lit (.int .u8 0), .lit (.int .u8 0), .lit (.int .u8 0), .lit (.int .u8 0), .lit (.int .u8 0), .lit (.int .u8 0), .lit (.int .u8 0), .lit (.int .u8 0), .lit (.int .u8 0), .lit (.int .u8 0), .lit (.int .u8 0), .lit (.int .u8 0), .lit (.int .u8 0), .lit (.int .u8 0)]))⟩])
    (.seq (.region none [
      ⟨(some 6), none, (.op (.mov (.tmp 0)))⟩,
      ⟨(some 7), none, (.op (.ext .strBytes [(.tmp 6)]))⟩,
      ⟨(some 8), none, (.call (.dat (.fn (.func 44) [] [])) [(.tmp 7)])⟩,
      ⟨(some 5), none, (.op (.alloc true [.lit (.int .u8 0), .lit (.int .u8 0), .lit (.int .u8 0), .lit (.int .u8 0), .lit (.int .u8 0), .lit (.int .u8 0), .lit (.int .u8 0), .lit (.int .u8 0), .lit (.int .u8 0), .lit (.int .u8 0), .lit (.int .u8 0), .lit (.int .u8 0), .lit (.int .u8 0), .lit (.int .u8 0), .lit (.int .u8 0), .lit (.int .u8 0), .lit (.int .u8 0), .lit (.int .u8 0), .lit (.int .u8 0), .lit (.int .u8 0), .lit (.int .u8 0), .lit (.int .u8 0), .lit (.int .u8 0), .lit (.int .u8 0), .lit (.int .u8 0), .lit (.int .u8 0), .lit (.int .u8 0), .lit (.int .u8 0), .lit (.int .u8 0), .lit (.int .u8 0), .lit (.int .u8 0), .lit (.int .u8 0)]))⟩,
      ⟨none, none, (.op (.store 32 (.tmp 5) (.tmp 8)))⟩])
    (.seq (.region none [
      ⟨(some 9), none, (.op (.mkslice 1 []))⟩,
      ⟨(some 10), none, (.op (.ext (.sliceA 32 1) [(.tmp 5)]))⟩,
      ⟨(some 11), none, (.op (.ext (.appendW 1 1) [(.tmp 9), (.tmp 10)]))⟩,
      ⟨(some 12), none, (.op (.mov (.tmp 1)))⟩,
      ⟨(some 13), none, (.op (.append 1 1 (.tmp 11) (.tmp 12)))⟩,
      ⟨(some 14), none, (.call (.dat (.fn (.func 44) [] [])) [(.tmp 13)])⟩,
      ⟨none, none, (.op (.store 32 (.tmp 4) (.tmp 14)))⟩])
    .ret)))
  res := [.cell 4 32 true]
theorem c34 : CmpF Tryd.prog 34 a34 := chkF_cmp (F := Tryd.f34) (by kernel_rfl) mixed (by kernel_rfl)
/-- hansard/codec.Check -/
def a35 : AF where
  nt := 16
  body := (.seq (.region none [
      ⟨(some 1), none, (.op (.box true (.tmp 0)))⟩,
      ⟨(some 2), none, (.op (.mov (.dat (.lit (.int .i64 0)))))⟩])
    (.seq (.region none [
      ⟨(some 6), none, (.op (.load 4 true (.tmp 1)))⟩,
      ⟨(some 7), none, (.call (.dat (.fn (.func 45) [] [])) [(.tmp 6)])⟩,
      ⟨(some 5), none, (.op (.mov (.tmp 7)))⟩,
      ⟨(some 8), none, (.op (.extract (.tmp 5) 0))⟩,
      ⟨(some 9), none, (.op (.extract (.tmp 5) 1))⟩,
      ⟨(some 3), none, (.op (.mov (.tmp 8)))⟩,
      ⟨(some 4), none, (.op (.mov (.tmp 9)))⟩])
    (.seq (.block 0
      (.seq (.region none [
        ⟨(some 11), none, (.op (.mov (.tmp 4)))⟩,
        ⟨(some 12), none, (.op (.not (.tmp 11)))⟩,
        ⟨(some 10), none, (.op (.mov (.tmp 12)))⟩])
      (.cond (.tmp 10)
        (.seq (.region none [
          ⟨(some 2), none, (.op (.mov (.dat (.lit (.int .i64 1)))))⟩])
        .ret)
        (.seq (.region none [
          ⟨(some 14), none, (.op (.mov (.tmp 3)))⟩,
          ⟨(some 15), none, (.op (.arith .gtr (.tmp 14) (.dat (.lit (.int .i64 16)))))⟩,
          ⟨(some 13), none, (.op (.mov (.tmp 15)))⟩])
        (.cond (.tmp 13)
          (.seq (.region none [
            ⟨(some 2), none, (.op (.mov (.dat (.lit (.int .i64 2)))))⟩])
          .ret)
          .skip)))))
    (.seq (.region none [
      ⟨(some 2), none, (.op (.mov (.dat (.lit (.int .i64 0)))))⟩])
    .ret))))
  res := [.tmp 2]
theorem c35 : CmpF Tryd.prog 35 a35 := chkF_cmp (F := Tryd.f35) (by kernel_rfl) mixed (by kernel_rfl)
/-- hansard/codec.newWriter -/
def a36 : AF where
  nt := 18
  body := (.seq (.region none [
      ⟨(some 0), none, (.op (.mov (.dat (.lit (.pointer none)))))⟩])
    (.seq (.region none [
      ⟨(some 2), none, (.op (.build [.lit (.nilFunc), .lit (.nilFunc), .lit (.nilFunc), .lit (.nilFunc)] []))⟩,
      ⟨(some 3), none, (.op (.box true (.tmp 2)))⟩,
      ⟨(some 1), none, (.op (.alloc false [.lit (.pointer none)]))⟩,
      ⟨none, none, (.op (.store 1 (.tmp 1) (.tmp 3)))⟩])
    (.seq (.region none [
      ⟨(some 4), none, (.op (.load 1 false (.tmp 1)))⟩,
      ⟨(some 5), none, (.op (.ext .nilChk [(.tmp 4)]))⟩,
      ⟨(some 6), none, (.op (.indexA 1 true 4 (.tmp 5) (.dat (.lit (.int .i64 1)))))⟩,
      ⟨(some 7), none, (.op (.field 0 1 false (.tmp 6)))⟩,
      ⟨none, none, (.op (.store 1 (.tmp 7) (.dat (.fn (.func 46) [] []))))⟩])
    (.seq (.region none [
      ⟨(some 8), none, (.op (.load 1 false (.tmp 1)))⟩,
      ⟨(some 9), none, (.op (.ext .nilChk [(.tmp 8)]))⟩,
      ⟨(some 10), none, (.op (.indexA 1 true 4 (.tmp 9) (.dat (.lit (.int .i64 2)))))⟩,
      ⟨(some 11), none, (.op (.field 0 1 false (.tmp 10)))⟩,
      ⟨none, none, (.op (.store 1 (.tmp 11) (.dat (.fn (.func 49) [] []))))⟩])
    (.seq (.region none [
      ⟨(some 12), none, (.op (.load 1 false (.tmp 1)))⟩,
      ⟨(some 13), none, (.op (.func (.func 50) [] [(.tmp 1)]))⟩,
      ⟨(some 14), none, (.op (.ext .nilChk [(.tmp 12)]))⟩,
      ⟨(some 15), none, (.op (.indexA 1 true 4 (.tmp 14) (.dat (.lit (.int .i64 3)))))⟩,
      ⟨(some 16), none, (.op (.field 0 1 false (.tmp 15)))⟩,
      ⟨none, none, (.op (.store 1 (.tmp 16) (.tmp 13)))⟩])
    (.seq (.region none [
      ⟨(some 17), none, (.op (.load 1 false (.tmp 1)))⟩,
      ⟨(some 0), none, (.op (.mov (.tmp 17)))⟩])
    .ret))))))
  res := [.tmp 0]
theorem c36 : CmpF Tryd.prog 36 a36 := chkF_cmp (F := Tryd.f36) (by kernel_rfl) mixed (by kernel_rfl)
/-- hansard/chain.beginnings$1 -/
def a37 : AF where
  nt := 21
  body := (.seq (.region none [
      ⟨(some 5), none, (.op (.load 1 false (.tmp 1)))⟩,
      ⟨(some 6), none, (.op (.len (.tmp 5)))⟩,
      ⟨(some 7), none, (.op (.mov (.dat (.lit (.int .i64 0)))))⟩])
    (.block 0
      (.loop
        (.seq (.region none [
          ⟨(some 8), none, (.op (.arith .lss (.tmp 7) (.tmp 6)))⟩])
        (.seq (.cond (.tmp 8)
          .skip
          (.exit 0))
        (.seq (.block 1
          (.seq (.region none [
            ⟨(some 9), none, (.op (.mov (.tmp 7)))⟩,
            ⟨(some 10), none, (.op (.index 35 (.tmp 5) (.tmp 7)))⟩,
            ⟨(some 11), none, (.op (.load 35 true (.tmp 10)))⟩,
            ⟨(some 4), none, (.op (.alloc true [.lit (.int .i64 0), .lit (.int .i64 0), .lit (.int .u8 0), .lit (.int .u8 0), .lit (.int .u8 0), .lit (.int .u8 0), .lit (.int .u8 0), .lit (.int .u8 0), .lit (.int .u8 0), .lit (.int .u8 0), .lit (.int .u8 0), .lit (.int .u8 0), .lit (.int .u8 0), .lit (.int .u8 0), .lit (.int .u8 0), .lit (.int .u8 0), .lit (.int .u8 0), .lit (.int .u8 0), .lit (.int .u8 0), .lit (.int .u8 0), .lit (.int .u8 0), .lit (.int .u8 0), .lit (.int .u8 0), .lit (.int .u8 0), .lit (.int .u8 0), .lit (.int .u8 0), .lit (.int .u8 0), .lit (.int .u8 0), .lit (.int .u8 0), .lit (.int .u8 0), .lit (.int .u8 0), .lit (.int .u8 0), .lit (.int .u8 0), .lit (.int .u8 0), .nil 1]))⟩,
            ⟨(some 3), none, (.op (.mov (.tmp 9)))⟩,
            ⟨none, none, (.op (.store 35 (.tmp 4) (.tmp 11)))⟩])
          (.seq (.dregion [[], [], [], [], [2, 3], [2, 3, 4], [0, 1, 2, 3, 4, 5], [0, 1, 2, 3, 4, 5, 6]] 6 [
            ⟨(some 12), none, (.op (.mov (.tmp 0)))⟩,
            ⟨(some 13), none, (.op (.load 35 true (.tmp 4)))⟩,
            ⟨(some 14), none, (.op (.load 1 false (.tmp 1)))⟩,
            ⟨(some 15), none, (.op (.mov (.tmp 3)))⟩,
            ⟨(some 16), none, (.op (.slice 35 (.tmp 14) none (some (.tmp 15))))⟩,
            ⟨(some 17), none, (.call (.dat (.fn (.func 15) [] [])) [(.tmp 16)])⟩,
            ⟨(some 18), none, (.ycall (.tmp 12) [(.tmp 13), (.tmp 17)])⟩,
            ⟨(some 19), none, (.op (.not (.tmp 18)))⟩])
          (.cond (.tmp 19)
            .ret
            .skip))))
        (.region none [
          ⟨(some 20), none, (.op (.arith .add (.tmp 7) (.dat (.lit (.int .i64 1)))))⟩,
          ⟨(some 7), none, (.op (.mov (.tmp 20)))⟩])))))))
  res := []
theorem c37 : CmpF Tryd.prog 37 a37 := chkF_cmp (F := Tryd.f37) (by kernel_rfl) mixed (by kernel_rfl)
/-- hansard/hansardref01.Encode -/
def a38 : AF where
  nt := 12
  body := (.seq (.region none [
      ⟨(some 1), none, (.op (.box true (.tmp 0)))⟩,
      ⟨(some 2), none, (.op (.mov (.dat (.nil 1))))⟩,
      ⟨(some 3), none, (.op (.mov (.dat (.lit (.int .i64 0)))))⟩])
    (.seq (.region none [
      ⟨(some 5), none, (.op (.load 4 true (.tmp 1)))⟩,
      ⟨(some 6), none, (.call (.dat (.fn (.func 51) [] [])) [(.tmp 5)])⟩,
      ⟨(some 4), none, (.op (.mov (.tmp 6)))⟩])
    (.seq (.seq (.region none [
      ⟨(some 7), none, (.op (.mov (.tmp 4)))⟩,
      ⟨(some 8), none, (.op (.arith .neq (.tmp 7) (.dat (.lit (.int .i64 0)))))⟩])
    (.cond (.tmp 8)
      (.seq (.region none [
        ⟨(some 9), none, (.op (.mov (.tmp 4)))⟩,
        ⟨(some 2), none, (.op (.mov (.dat (.nil 1))))⟩,
        ⟨(some 3), none, (.op (.mov (.tmp 9)))⟩])
      .ret)
      .skip))
    (.seq (.region none [
      ⟨(some 10), none, (.op (.load 4 true (.tmp 1)))⟩,
      ⟨(some 11), none, (.call (.dat (.fn (.func 52) [] [])) [(.tmp 10)])⟩,
      ⟨(some 2), none, (.op (.mov (.tmp 11)))⟩,
      ⟨(some 3), none, (.op (.mov (.dat (.lit (.int .i64 0)))))⟩])
    .ret))))
  res := [.tmp 2, .tmp 3]
theorem c38 : CmpF Tryd.prog 38 a38 := chkF_cmp (F := Tryd.f38) (by kernel_rfl) mixed (by kernel_rfl)
/-- hansard/hansardref08.number -/
def a39 : AF where
  nt := 5
  body := (.seq (.region none [
      ⟨(some 2), none, (.op (.alloc true [.lit (.int .i64 0), .lit (.int .i64 0), .lit (.string ⟨#[]⟩), .nil 4]))⟩])
    (.seq (.region none [
      ⟨(some 3), none, (.op (.mov (.tmp 0)))⟩,
      ⟨(some 4), none, (.op (.build [.lit (.int .i64 0), .lit (.int .i64 0), .lit (.string ⟨#[]⟩), .nil 4] [(0, 1, (.dat (.lit (.int .i64 1)))), (1, 1, (.tmp 3))]))⟩,
      ⟨none, none, (.op (.store 4 (.tmp 2) (.tmp 4)))⟩])
    .ret))
  res := [.cell 2 4 true]
theorem c39 : CmpF Tryd.prog 39 a39 := chkF_cmp (F := Tryd.f39) (by kernel_rfl) mixed (by kernel_rfl)
/-- hansard/hansardref08.text -/
def a40 : AF where
  nt := 6
  body := (.seq (.region none [
      ⟨(some 2), none, (.op (.alloc true [.lit (.int .i64 0), .lit (.int .i64 0), .lit (.string ⟨#[]⟩), .nil 4]))⟩])
    (.seq (.region none [
      ⟨(some 3), none, (.op (.mov (.tmp 0)))⟩,
      ⟨(some 4), none, (.op (.ext .bytesStr [(.tmp 3)]))⟩,
      ⟨(some 5), none, (.op (.build [.lit (.int .i64 0), .lit (.int .i64 0), .lit (.string ⟨#[]⟩), .nil 4] [(0, 1, (.dat (.lit (.int .i64 2)))), (2, 1, (.tmp 4))]))⟩,
      ⟨none, none, (.op (.store 4 (.tmp 2) (.tmp 5)))⟩])
    .ret))
  res := [.cell 2 4 true]
theorem c40 : CmpF Tryd.prog 40 a40 := chkF_cmp (F := Tryd.f40) (by kernel_rfl) mixed (by kernel_rfl)
/-- (*hansard/digest.state).absorb -/
def a41 : AF where
  nt := 144
  body := (.seq (.region none [
      ⟨(some 4), none, (.op (.alloc true [.lit (.int .u32 0), .lit (.int .u32 0), .lit (.int .u32 0), .lit (.int .u32 0), .lit (.int .u32 0), .lit (.int .u32 0), .lit (.int .u32 0), .lit (.int .u32 0), .lit (.int .u32 0), .lit (.int .u32 0), .lit (.int .u32 0), .lit (.int .u32 0), .lit (.int .u32 0), .lit (.int .u32 0), .lit (.int .u32 0), .lit (.int .u32 0), .lit (.int .u32 0), .lit (.int .u32 0), .lit (.int .u32 0), .lit (.int .u32 0), .lit (.int .u32 0), .lit (.int .u32 0), .lit (.int .u32 0), .lit (.int .u32 0), .lit (.int .u32 0), .lit (.int .u32 0), .lit (.int .u32 0), .lit (.int .u32 0), .lit (.int .u32 0), .lit (.int .u32 0), .lit (.int .u32 0), .lit (.int .u32 0), .lit (.int .u32 0), .lit (.int .u32 0), .lit (.int .u32 0), .lit (.int .u32 0), .lit (.int .u32 0), .lit (.int .u32 0), .lit (.int .u32 0), .lit (.int .u32 0), .lit (.int .u32 0), .lit (.int .u32 0), .lit (.int .u32 0), .lit (.int .u32 0), .lit (.int .u32 0), .lit (.int .u32 0), .lit (.int .u32 0), .lit (.int .u32 0), .lit (.int .u32 0), .lit (.int .u32 0), .lit (.int .u32 0), .lit (.int .u32 0), .lit (.int .u32 0), .lit (.int .u32 0), .lit (.int .u32 0), .lit (.int .u32 0), .lit (.int .u32 0), .lit (.int .u32 0), .lit (.int .u32 0), .lit (.int .u32 0), .lit (.int .u32 0), .lit (.int .u32 0), .lit (.int .u32 0), .lit (.int .u32 0)]))⟩])
    (.seq (.seq (.region none [
      ⟨(some 14), none, (.op (.mov (.dat (.lit (.int .i64 0)))))⟩])
    (.block 0
      (.loop
        (.seq (.region none [
          ⟨(some 15), none, (.op (.arith .lss (.tmp 14) (.dat (.lit (.int .i64 16)))))⟩])
        (.seq (.cond (.tmp 15)
          .skip
          (.exit 0))
        (.seq (.block 1
          (.seq (.region none [
            ⟨(some 16), none, (.op (.mov (.tmp 14)))⟩,
            ⟨(some 5), none, (.op (.mov (.tmp 16)))⟩])
          (.region none [
            ⟨(some 17), none, (.op (.mov (.tmp 5)))⟩,
            ⟨(some 18), none, (.op (.mov (.tmp 1)))⟩,
            ⟨(some 19), none, (.op (.mov (.tmp 5)))⟩,
            ⟨(some 20), none, (.op (.arith .mul (.dat (.lit (.int .i64 4))) (.tmp 19)))⟩,
            ⟨(some 21), none, (.op (.ext (.sliceB 1 true false) [(.tmp 18), (.tmp 20)]))⟩,
            ⟨(some 22), none, (.call (.dat (.fn (.func 53) [] [])) [(.tmp 21)])⟩,
            ⟨(some 23), none, (.op (.indexA 1 false 64 (.tmp 4) (.tmp 17)))⟩,
            ⟨none, none, (.op (.store 1 (.tmp 23) (.tmp 22)))⟩])))
        (.region none [
          ⟨(some 24), none, (.op (.arith .add (.tmp 14) (.dat (.lit (.int .i64 1)))))⟩,
          ⟨(some 14), none, (.op (.mov (.tmp 24)))⟩])))))))
    (.seq (.seq (.region none [
      ⟨(some 6), none, (.op (.mov (.dat (.lit (.int .i64 16)))))⟩])
    (.block 2
      (.loop
        (.seq (.seq (.region none [
          ⟨(some 25), none, (.op (.mov (.tmp 6)))⟩,
          ⟨(some 26), none, (.op (.arith .lss (.tmp 25) (.dat (.lit (.int .i64 64)))))⟩])
        (.cond (.tmp 26)
          .skip
          (.exit 2)))
        (.seq (.block 3
          (.seq (.region (some [[], [0], [0, 1], [0, 1, 2], [], [4], [4, 5], [4, 5, 6], [0, 1, 2, 3], [0, 1, 2, 3, 4, 5, 6, 7, 8]]) [
            ⟨(some 29), none, (.op (.mov (.tmp 6)))⟩,
            ⟨(some 30), none, (.op (.arith .sub (.tmp 29) (.dat (.lit (.int .i64 15)))))⟩,
            ⟨(some 31), none, (.op (.indexA 1 false 64 (.tmp 4) (.tmp 30)))⟩,
            ⟨(some 32), none, (.op (.load 1 false (.tmp 31)))⟩,
            ⟨(some 33), none, (.op (.mov (.tmp 6)))⟩,
            ⟨(some 34), none, (.op (.arith .sub (.tmp 33) (.dat (.lit (.int .i64 2)))))⟩,
            ⟨(some 35), none, (.op (.indexA 1 false 64 (.tmp 4) (.tmp 34)))⟩,
            ⟨(some 36), none, (.op (.load 1 false (.tmp 35)))⟩,
            ⟨(some 7), none, (.op (.mov (.tmp 32)))⟩,
            ⟨(some 8), none, (.op (.mov (.tmp 36)))⟩])
          (.region (some [[], [], [1], [1, 2], [1, 2, 3], [], [5], [], [5, 6, 7], [5, 6, 7, 8], [], [10], [5, 6, 7, 8, 9, 10, 11], [1, 2, 3, 4, 5, 6, 7, 8, 9, 10, 11, 12], [], [14], [14, 15], [14, 15, 16], [1, 2, 3, 4, 5, 6, 7, 8, 9, 10, 11, 12, 13, 14, 15, 16, 17], [], [5, 6, 7, 8, 19], [], [5, 6, 7, 8, 19, 20, 21], [5, 6, 7, 8, 19, 20, 21, 22], [], [24], [5, 6, 7, 8, 19, 20, 21, 22, 23, 24, 25], [1, 2, 3, 4, 5, 6, 7, 8, 9, 10, 11, 12, 13, 14, 15, 16, 17, 18, 19, 20, 21, 22, 23, 24, 25, 26], [0, 1, 2, 3, 4, 5, 6, 7, 8, 9, 10, 11, 12, 13, 14, 15, 16, 17, 18, 19, 20, 21, 22, 23, 24, 25, 26, 27], [0, 1, 2, 3, 4, 5, 6, 7, 8, 9, 10, 11, 12, 13, 14, 15, 16, 17, 18, 19, 20, 21, 22, 23, 24, 25, 26, 27, 28]]) [
            ⟨(some 37), none, (.op (.mov (.tmp 6)))⟩,
            ⟨(some 38), none, (.op (.mov (.tmp 6)))⟩,
            ⟨(some 39), none, (.op (.arith .sub (.tmp 38) (.dat (.lit (.int .i64 16)))))⟩,
            ⟨(some 40), none, (.op (.indexA 1 false 64 (.tmp 4) (.tmp 39)))⟩,
            ⟨(some 41), none, (.op (.load 1 false (.tmp 40)))⟩,
            ⟨(some 42), none, (.op (.mov (.tmp 7)))⟩,
            ⟨(some 43), none, (.call (.dat (.fn (.func 54) [] [])) [(.tmp 42), (.dat (.lit (.int .i64 (-7))))])⟩,
            ⟨(some 44), none, (.op (.mov (.tmp 7)))⟩,
            ⟨(some 45), none, (.call (.dat (.fn (.func 54) [] [])) [(.tmp 44), (.dat (.lit (.int .i64 (-18))))])⟩,
            ⟨(some 46), none, (.op (.arith .xor (.tmp 43) (.tmp 45)))⟩,
            ⟨(some 47), none, (.op (.mov (.tmp 7)))⟩,
            ⟨(some 48), none, (.op (.ext (.shift false) [(.tmp 47), (.dat (.lit (.int .u64 3)))]))⟩,
            ⟨(some 49), none, (.op (.arith .xor (.tmp 46) (.tmp 48)))⟩,
            ⟨(some 50), none, (.op (.arith .add (.tmp 41) (.tmp 49)))⟩,
            ⟨(some 51), none, (.op (.mov (.tmp 6)))⟩,
            ⟨(some 52), none, (.op (.arith .sub (.tmp 51) (.dat (.lit (.int .i64 7)))))⟩,
            ⟨(some 53), none, (.op (.indexA 1 false 64 (.tmp 4) (.tmp 52)))⟩,
            ⟨(some 54), none, (.op (.load 1 false (.tmp 53)))⟩,
            ⟨(some 55), none, (.op (.arith .add (.tmp 50) (.tmp 54)))⟩,
            ⟨(some 56), none, (.op (.mov (.tmp 8)))⟩,
            ⟨(some 57), none, (.call (.dat (.fn (.func 54) [] [])) [(.tmp 56), (.dat (.lit (.int .i64 (-17))))])⟩,
            ⟨(some 58), none, (.op (.mov (.tmp 8)))⟩,
            ⟨(some 59), none, (.call (.dat (.fn (.func 54) [] [])) [(.tmp 58), (.dat (.lit (.int .i64 (-19))))])⟩,
            ⟨(some 60), none, (.op (.arith .xor (.tmp 57) (.tmp 59)))⟩,
            ⟨(some 61), none, (.op (.mov (.tmp 8)))⟩,
            ⟨(some 62), none, (.op (.ext (.shift false) [(.tmp 61), (.dat (.lit (.int .u64 10)))]))⟩,
            ⟨(some 63), none, (.op (.arith .xor (.tmp 60) (.tmp 62)))⟩,
            ⟨(some 64), none, (.op (.arith .add (.tmp 55) (.tmp 63)))⟩,
            ⟨(some 65), none, (.op (.indexA 1 false 64 (.tmp 4) (.tmp 37)))⟩,
            ⟨none, none, (.op (.store 1 (.tmp 65) (.tmp 64)))⟩])))
        (.region none [
          ⟨(some 27), none, (.op (.mov (.tmp 6)))⟩,
          ⟨(some 28), none, (.op (.arith .add (.tmp 27) (.dat (.lit (.int .i64 1)))))⟩,
          ⟨(some 6), none, (.op (.mov (.tmp 28)))⟩]))))))
    (.seq (.region none [
      ⟨(some 66), none, (.op (.mov (.tmp 0)))⟩,
      ⟨(some 67), none, (.op (.ext .nilChk [(.tmp 66)]))⟩,
      ⟨(some 68), none, (.op (.load 8 true (.tmp 67)))⟩,
      ⟨(some 9), none, (.op (.alloc true [.lit (.int .u32 0), .lit (.int .u32 0), .lit (.int .u32 0), .lit (.int .u32 0), .lit (.int .u32 0), .lit (.int .u32 0), .lit (.int .u32 0), .lit (.int .u32 0)]))⟩,
      ⟨none, none, (.op (.store 8 (.tmp 9) (.tmp 68)))⟩])
    (.seq (.seq (.region none [
      ⟨(some 69), none, (.op (.mov (.dat (.lit (.int .i64 0)))))⟩])
    (.block 4
      (.loop
        (.seq (.region none [
          ⟨(some 70), none, (.op (.arith .lss (.tmp 69) (.dat (.lit (.int .i64 64)))))⟩])
        (.seq (.cond (.tmp 70)
          .skip
          (.exit 4))
        (.seq (.block 5
          (.seq (.region none [
            ⟨(some 71), none, (.op (.mov (.tmp 69)))⟩,
            ⟨(some 10), none, (.op (.mov (.tmp 71)))⟩])
          (.seq (.region (some [[], [0], [], [2], [2, 3], [0, 1, 2, 3, 4], [], [6], [], [8], [], [10], [], [12], [10, 11, 12, 13], [8, 9, 10, 11, 12, 13, 14], [6, 7, 8, 9, 10, 11, 12, 13, 14, 15], [0, 1, 2, 3, 4, 5, 6, 7, 8, 9, 10, 11, 12, 13, 14, 15, 16], [], [18], [18, 19], [0, 1, 2, 3, 4, 5, 6, 7, 8, 9, 10, 11, 12, 13, 14, 15, 16, 17, 18, 19, 20], [], [22], [22, 23], [0, 1, 2, 3, 4, 5, 6, 7, 8, 9, 10, 11, 12, 13, 14, 15, 16, 17, 18, 19, 20, 21, 22, 23, 24], [0, 1, 2, 3, 4, 5, 6, 7, 8, 9, 10, 11, 12, 13, 14, 15, 16, 17, 18, 19, 20, 21, 22, 23, 24, 25]]) [
            ⟨(some 72), none, (.op (.indexA 1 false 8 (.tmp 9) (.dat (.lit (.int .i64 7)))))⟩,
            ⟨(some 73), none, (.op (.load 1 false (.tmp 72)))⟩,
            ⟨(some 74), none, (.op (.indexA 1 false 8 (.tmp 9) (.dat (.lit (.int .i64 4)))))⟩,
            ⟨(some 75), none, (.op (.load 1 false (.tmp 74)))⟩,
            ⟨(some 76), none, (.call (.dat (.fn (.func 55) [] [])) [(.tmp 75), (.dat (.lit (.int .i64 6))), (.dat (.lit (.int .i64 11))), (.dat (.lit (.int .i64 25)))])⟩,
            ⟨(some 77), none, (.op (.arith .add (.tmp 73) (.tmp 76)))⟩,
            ⟨(some 78), none, (.op (.indexA 1 false 8 (.tmp 9) (.dat (.lit (.int .i64 6)))))⟩,
            ⟨(some 79), none, (.op (.load 1 false (.tmp 78)))⟩,
            ⟨(some 80), none, (.op (.indexA 1 false 8 (.tmp 9) (.dat (.lit (.int .i64 4)))))⟩,
            ⟨(some 81), none, (.op (.load 1 false (.tmp 80)))⟩,
            ⟨(some 82), none, (.op (.indexA 1 false 8 (.tmp 9) (.dat (.lit (.int .i64 5)))))⟩,
            ⟨(some 83), none, (.op (.load 1 false (.tmp 82)))⟩,
            ⟨(some 84), none, (.op (.indexA 1 false 8 (.tmp 9) (.dat (.lit (.int .i64 6)))))⟩,
            ⟨(some 85), none, (.op (.load 1 false (.tmp 84)))⟩,
            ⟨(some 86), none, (.op (.arith .xor (.tmp 83) (.tmp 85)))⟩,
            ⟨(some 87), none, (.op (.arith .and (.tmp 81) (.tmp 86)))⟩,
            ⟨(some 88), none, (.op (.arith .xor (.tmp 79) (.tmp 87)))⟩,
            ⟨(some 89), none, (.op (.arith .add (.tmp 77) (.tmp 88)))⟩,
            ⟨(some 90), none, (.op (.mov (.tmp 10)))⟩,
            ⟨(some 91), none, (.op (.indexA 1 false 64 (.glob 1) (.tmp 90)))⟩,
            ⟨(some 92), none, (.op (.load 1 false (.tmp 91)))⟩,
            ⟨(some 93), none, (.op (.arith .add (.tmp 89) (.tmp 92)))⟩,
            ⟨(some 94), none, (.op (.mov (.tmp 10)))⟩,
            ⟨(some 95), none, (.op (.indexA 1 false 64 (.tmp 4) (.tmp 94)))⟩,
            ⟨(some 96), none, (.op (.load 1 false (.tmp 95)))⟩,
            ⟨(some 97), none, (.op (.arith .add (.tmp 93) (.tmp 96)))⟩,
            ⟨(some 11), none, (.op (.mov (.tmp 97)))⟩])
          (.seq (.region (some [[], [0], [0, 1], [], [3], [], [5], [3, 4, 5, 6], [], [8], [], [10], [], [12], [10, 11, 12, 13], [8, 9, 10, 11, 12, 13, 14], [3, 4, 5, 6, 7, 8, 9, 10, 11, 12, 13, 14, 15], [0, 1, 2, 3, 4, 5, 6, 7, 8, 9, 10, 11, 12, 13, 14, 15, 16], [0, 1, 2, 3, 4, 5, 6, 7, 8, 9, 10, 11, 12, 13, 14, 15, 16, 17]]) [
            ⟨(some 98), none, (.op (.indexA 1 false 8 (.tmp 9) (.dat (.lit (.int .i64 0)))))⟩,
            ⟨(some 99), none, (.op (.load 1 false (.tmp 98)))⟩,
            ⟨(some 100), none, (.call (.dat (.fn (.func 55) [] [])) [(.tmp 99), (.dat (.lit (.int .i64 2))), (.dat (.lit (.int .i64 13))), (.dat (.lit (.int .i64 22)))])⟩,
            ⟨(some 101), none, (.op (.indexA 1 false 8 (.tmp 9) (.dat (.lit (.int .i64 0)))))⟩,
            ⟨(some 102), none, (.op (.load 1 false (.tmp 101)))⟩,
            ⟨(some 103), none, (.op (.indexA 1 false 8 (.tmp 9) (.dat (.lit (.int .i64 1)))))⟩,
            ⟨(some 104), none, (.op (.load 1 false (.tmp 103)))⟩,
            ⟨(some 105), none, (.op (.arith .and (.tmp 102) (.tmp 104)))⟩,
            ⟨(some 106), none, (.op (.indexA 1 false 8 (.tmp 9) (.dat (.lit (.int .i64 2)))))⟩,
            ⟨(some 107), none, (.op (.load 1 false (.tmp 106)))⟩,
            ⟨(some 108), none, (.op (.indexA 1 false 8 (.tmp 9) (.dat (.lit (.int .i64 0)))))⟩,
            ⟨(some 109), none, (.op (.load 1 false (.tmp 108)))⟩,
            ⟨(some 110), none, (.op (.indexA 1 false 8 (.tmp 9) (.dat (.lit (.int .i64 1)))))⟩,
            ⟨(some 111), none, (.op (.load 1 false (.tmp 110)))⟩,
            ⟨(some 112), none, (.op (.arith .or (.tmp 109) (.tmp 111)))⟩,
            ⟨(some 113), none, (.op (.arith .and (.tmp 107) (.tmp 112)))⟩,
            ⟨(some 114), none, (.op (.arith .or (.tmp 105) (.tmp 113)))⟩,
            ⟨(some 115), none, (.op (.arith .add (.tmp 100) (.tmp 114)))⟩,
            ⟨(some 12), none, (.op (.mov (.tmp 115)))⟩])
          (.seq (.region (some [[], [], [0, 1]]) [
            ⟨(some 116), none, (.op (.ext (.sliceAB 8 1 true false) [(.tmp 9), (.dat (.lit (.int .i64 1)))]))⟩,
            ⟨(some 117), none, (.op (.ext (.sliceAB 8 1 false true) [(.tmp 9), (.dat (.lit (.int .i64 7)))]))⟩,
            ⟨(some 118), none, (.op (.ext .copyB [(.tmp 116), (.tmp 117)]))⟩])
          (.seq (.region none [
            ⟨(some 119), none, (.op (.indexA 1 false 8 (.tmp 9) (.dat (.lit (.int .i64 4)))))⟩,
            ⟨(some 120), none, (.op (.load 1 false (.tmp 119)))⟩,
            ⟨(some 121), none, (.op (.mov (.tmp 11)))⟩,
            ⟨(some 122), none, (.op (.arith .add (.tmp 120) (.tmp 121)))⟩,
            ⟨(some 123), none, (.op (.indexA 1 false 8 (.tmp 9) (.dat (.lit (.int .i64 4)))))⟩,
            ⟨none, none, (.op (.store 1 (.tmp 123) (.tmp 122)))⟩])
          (.region none [
            ⟨(some 124), none, (.op (.mov (.tmp 11)))⟩,
            ⟨(some 125), none, (.op (.mov (.tmp 12)))⟩,
            ⟨(some 126), none, (.op (.arith .add (.tmp 124) (.tmp 125)))⟩,
            ⟨(some 127), none, (.op (.indexA 1 false 8 (.tmp 9) (.dat (.lit (.int .i64 0)))))⟩,
            ⟨none, none, (.op (.store 1 (.tmp 127) (.tmp 126)))⟩])))))))
        (.region none [
          ⟨(some 128), none, (.op (.arith .add (.tmp 69) (.dat (.lit (.int .i64 1)))))⟩,
          ⟨(some 69), none, (.op (.mov (.tmp 128)))⟩])))))))
    (.seq (.region none [
      ⟨(some 129), none, (.op (.mov (.dat (.lit (.int .i64 0)))))⟩])
    (.block 6
      (.loop
        (.seq (.region none [
          ⟨(some 130), none, (.op (.arith .lss (.tmp 129) (.dat (.lit (.int .i64 8)))))⟩])
        (.seq (.cond (.tmp 130)
          .skip
          (.exit 6))
        (.seq (.block 7
          (.seq (.region none [
            ⟨(some 131), none, (.op (.mov (.tmp 129)))⟩,
            ⟨(some 13), none, (.op (.mov (.tmp 131)))⟩])
          (.region (some [[], [], [0], [0, 1, 2], [0, 1, 2, 3], [], [5], [5, 6], [0, 1, 2, 3, 4, 5, 6, 7], [0], [0, 1, 2, 3, 4, 5, 6, 7, 8, 9], [0, 1, 2, 3, 4, 5, 6, 7, 8, 9, 10]]) [
            ⟨(some 132), none, (.op (.mov (.tmp 0)))⟩,
            ⟨(some 133), none, (.op (.mov (.tmp 13)))⟩,
            ⟨(some 134), none, (.op (.ext .nilChk [(.tmp 132)]))⟩,
            ⟨(some 135), none, (.op (.indexA 1 false 8 (.tmp 134) (.tmp 133)))⟩,
            ⟨(some 136), none, (.op (.load 1 false (.tmp 135)))⟩,
            ⟨(some 137), none, (.op (.mov (.tmp 13)))⟩,
            ⟨(some 138), none, (.op (.indexA 1 false 8 (.tmp 9) (.tmp 137)))⟩,
            ⟨(some 139), none, (.op (.load 1 false (.tmp 138)))⟩,
            ⟨(some 140), none, (.op (.arith .add (.tmp 136) (.tmp 139)))⟩,
            ⟨(some 141), none, (.op (.ext .nilChk [(.tmp 132)]))⟩,
            ⟨(some 142), none, (.op (.indexA 1 false 8 (.tmp 141) (.tmp 133)))⟩,
            ⟨none, none, (.op (.store 1 (.tmp 142) (.tmp 140)))⟩])))
        (.region none [
          ⟨(some 143), none, (.op (.arith .add (.tmp 129) (.dat (.lit (.int .i64 1)))))⟩,
          ⟨(some 129), none, (.op (.mov (.tmp 143)))⟩]))))))))))))
  res := []
theorem c41 : CmpF Tryd.prog 41 a41 := chkF_cmp (F := Tryd.f41) (by kernel_rfl) mixed (by kernel_rfl)
/-- hansard/digest.put -/
def a42 : AF where
  nt := 23
  body := (.seq (.region none [
      ⟨(some 5), none, (.op (.mov (.tmp 0)))⟩,
      ⟨(some 6), none, (.op (.ext .lenB [(.tmp 5)]))⟩,
      ⟨(some 7), none, (.op (.mov (.dat (.lit (.int .i64 0)))))⟩])
    (.block 0
      (.loop
        (.seq (.region none [
          ⟨(some 8), none, (.op (.arith .lss (.tmp 7) (.tmp 6)))⟩])
        (.seq (.cond (.tmp 8)
          .skip
          (.exit 0))
        (.seq (.block 1
          (.seq (.region none [
            ⟨(some 9), none, (.op (.mov (.tmp 7)))⟩,
            ⟨(some 4), none, (.op (.mov (.tmp 9)))⟩])
          (.region none [
            ⟨(some 10), none, (.op (.mov (.tmp 0)))⟩,
            ⟨(some 11), none, (.op (.mov (.tmp 0)))⟩,
            ⟨(some 12), none, (.op (.ext .lenB [(.tmp 11)]))⟩,
            ⟨(some 13), none, (.op (.arith .sub (.tmp 12) (.dat (.lit (.int .i64 1)))))⟩,
            ⟨(some 14), none, (.op (.mov (.tmp 4)))⟩,
            ⟨(some 15), none, (.op (.arith .sub (.tmp 13) (.tmp 14)))⟩,
            ⟨(some 16), none, (.op (.mov (.tmp 1)))⟩,
            ⟨(some 17), none, (.op (.mov (.tmp 4)))⟩,
            ⟨(some 18), none, (.op (.arith .mul (.dat (.lit (.int .i64 8))) (.tmp 17)))⟩,
            ⟨(some 19), none, (.op (.ext (.shift false) [(.tmp 16), (.tmp 18)]))⟩,
            ⟨(some 20), none, (.op (.conv .u8 (.tmp 19)))⟩,
            ⟨(some 21), none, (.op (.ext (.idxB 1) [(.tmp 10), (.tmp 15)]))⟩,
            ⟨none, none, (.op (.store 1 (.tmp 21) (.tmp 20)))⟩])))
        (.region none [
          ⟨(some 22), none, (.op (.arith .add (.tmp 7) (.dat (.lit (.int .i64 1)))))⟩,
          ⟨(some 7), none, (.op (.mov (.tmp 22)))⟩])))))))
  res := []
theorem c42 : CmpF Tryd.prog 42 a42 := chkF_cmp (F := Tryd.f42) (by kernel_rfl) mixed (by kernel_rfl)
/-- slices.Grow(()byte,byte) -/
def a43 : AF where
  nt := 27
  body := (.seq (.region none [
      ⟨(some 4), none, (.op (.mov (.dat (.nil 1))))⟩])
    (.seq (.seq (.region none [
      ⟨(some 5), none, (.op (.mov (.tmp 1)))⟩,
      ⟨(some 6), none, (.op (.arith .lss (.tmp 5) (.dat (.lit (.int .i64 0)))))⟩])
    (.cond (.tmp 6)
      (.sregion [
        ⟨(some 7), none, (.op (.ifc 9 (.dat (.lit (.string ⟨#[99, 97, 110, 110, 111, 116, 32, 98, 101, 32, 110, 101, 103, 97, 116, 105, 118, 101]⟩)))))⟩,
        ⟨none, none, (.panic (.tmp 7))⟩])
      .skip))
    (.seq (.seq (.region none [
      ⟨(some 8), none, (.op (.mov (.tmp 1)))⟩,
      ⟨(some 9), none, (.op (.mov (.tmp 0)))⟩,
      ⟨(some 10), none, (.op (.ext .capNil [(.tmp 9)]))⟩,
      ⟨(some 11), none, (.op (.mov (.tmp 0)))⟩,
      ⟨(some 12), none, (.op (.len (.tmp 11)))⟩,
      ⟨(some 13), none, (.op (.arith .sub (.tmp 10) (.tmp 12)))⟩,
      ⟨(some 14), none, (.op (.arith .sub (.tmp 8) (.tmp 13)))⟩,
      ⟨(some 1), none, (.op (.mov (.tmp 14)))⟩])
    (.seq (.region none [
      ⟨(some 15), none, (.op (.mov (.tmp 1)))⟩,
      ⟨(some 16), none, (.op (.arith .gtr (.tmp 15) (.dat (.lit (.int .i64 0)))))⟩])
    (.cond (.tmp 16)
      (.region none [
        ⟨(some 17), none, (.op (.mov (.tmp 0)))⟩,
        ⟨(some 18), none, (.op (.mov (.tmp 0)))⟩,
        ⟨(some 19), none, (.op (.ext .capNil [(.tmp 18)]))⟩,
        ⟨(some 20), none, (.op (.slice 1 (.tmp 17) none (some (.tmp 19))))⟩,
        ⟨(some 21), none, (.op (.mov (.tmp 1)))⟩,
        ⟨(some 22), none, (.op (.ext (.appendN 1 1) [(.tmp 20), (.tmp 21)]))⟩,
        ⟨(some 23), none, (.op (.mov (.tmp 0)))⟩,
        ⟨(some 24), none, (.op (.len (.tmp 23)))⟩,
        ⟨(some 25), none, (.op (.slice 1 (.tmp 22) none (some (.tmp 24))))⟩,
        ⟨(some 0), none, (.op (.mov (.tmp 25)))⟩])
      .skip)))
    (.seq (.region none [
      ⟨(some 26), none, (.op (.mov (.tmp 0)))⟩,
      ⟨(some 4), none, (.op (.mov (.tmp 26)))⟩])
    .ret))))
  res := [.tmp 4]
theorem c43 : CmpF Tryd.prog 43 a43 := chkF_cmp (F := Tryd.f43) (by kernel_rfl) mixed (by kernel_rfl)
/-- hansard/hansardref02.Sum -/
def a44 : AF where
  nt := 42
  body := (.seq (.region none [
      ⟨(some 2), none, (.op (.alloc true [.lit (.int .u8 0), .lit (.int .u8 0), .lit (.int .u8 0), .lit (.int .u8 0), .lit (.int .u8 0), .lit (.int .u8 0), .lit (.int .u8 0), .lit (.int .u8 0), .lit (.int .u8 0), .lit (.int .u8 0), .lit (.int .u8 0), .lit (.int .u8 0), .lit (.int .u8 0), .lit (.int .u8 0), .lit (.int .u8 0), .lit (.int .u8 0), .lit (.int .u8 0), .lit (.int .u8 0), .lit (.int .u8 0), .lit (.int .u8 0), .lit (.int .u8 0), .lit (.int .u8 0), .lit (.int .u8 0), .lit (.int .u8 0), .lit (.int .u8 0), .lit (.int .u8 0), .lit (.int .u8 0), .lit (.int .u8 0), .lit (.int .u8 0), .lit (.int .u8 0), .lit (.int .u8 0), .lit (.int .u8 0)]))⟩])
    (.seq (.region none [
      ⟨(some 8), none, (.op (.build [.lit (.int .u32 0), .lit (.int .u32 0), .lit (.int .u32 0), .lit (.int .u32 0), .lit (.int .u32 0), .lit (.int .u32 0), .lit (.int .u32 0), .lit (.int .u32 0)] [(0, 1, (.dat (.lit (.int .u32 1779033703)))), (1, 1, (.dat (.lit (.int .u32 3144134277)))), (2, 1, (.dat (.lit (.int .u32 1013904242)))), (3, 1, (.dat (.lit (.int .u32 2773480762)))), (4, 1, (.dat (.lit (.int .u32 1359893119)))), (5, 1, (.dat (.lit (.int .u32 2600822924)))), (6, 1, (.dat (.lit (.int .u32 528734635)))), (7, 1, (.dat (.lit (.int .u32 1541459225))))]))⟩,
      ⟨(some 3), none, (.op (.alloc true [.lit (.int .u32 0), .lit (.int .u32 0), .lit (.int .u32 0), .lit (.int .u32 0), .lit (.int .u32 0), .lit (.int .u32 0), .lit (.int .u32 0), .lit (.int .u32 0)]))⟩,
      ⟨none, none, (.op (.store 8 (.tmp 3) (.tmp 8)))⟩])
    (.seq (.region none [
      ⟨(some 9), none, (.op (.mov (.tmp 0)))⟩,
      ⟨(some 10), none, (.call (.dat (.fn (.func 56) [] [])) [(.tmp 9)])⟩,
      ⟨(some 4), none, (.op (.mov (.tmp 10)))⟩])
    (.seq (.seq (.region none [
      ⟨(some 5), none, (.op (.mov (.dat (.lit (.int .i64 0)))))⟩])
    (.block 0
      (.loop
        (.seq (.seq (.region none [
          ⟨(some 11), none, (.op (.mov (.tmp 5)))⟩,
          ⟨(some 12), none, (.op (.mov (.tmp 4)))⟩,
          ⟨(some 13), none, (.op (.len (.tmp 12)))⟩,
          ⟨(some 14), none, (.op (.arith .lss (.tmp 11) (.tmp 13)))⟩])
        (.cond (.tmp 14)
          .skip
          (.exit 0)))
        (.seq (.block 1
          (.region (some [[], [], [], [], [3], [1, 2, 3, 4], [0, 1, 2, 3, 4, 5], [0, 1, 2, 3, 4, 5, 6]]) [
            ⟨(some 17), none, (.op (.load 8 true (.tmp 3)))⟩,
            ⟨(some 18), none, (.op (.mov (.tmp 4)))⟩,
            ⟨(some 19), none, (.op (.mov (.tmp 5)))⟩,
            ⟨(some 20), none, (.op (.mov (.tmp 5)))⟩,
            ⟨(some 21), none, (.op (.arith .add (.tmp 20) (.dat (.lit (.int .i64 64)))))⟩,
            ⟨(some 22), none, (.op (.slice 1 (.tmp 18) (some (.tmp 19)) (some (.tmp 21))))⟩,
            ⟨(some 23), none, (.call (.dat (.fn (.func 57) [] [])) [(.tmp 17), (.tmp 22)])⟩,
            ⟨none, none, (.op (.store 8 (.tmp 3) (.tmp 23)))⟩]))
        (.region none [
          ⟨(some 15), none, (.op (.mov (.tmp 5)))⟩,
          ⟨(some 16), none, (.op (.arith .add (.tmp 15) (.dat (.lit (.int .i64 64)))))⟩,
          ⟨(some 5), none, (.op (.mov (.tmp 16)))⟩]))))))
    (.seq (.region none [
      ⟨(some 24), none, (.op (.build [.lit (.int .u8 0), .lit (.int .u8 0), .lit (.int .u8 0), .lit (.int .u8 0), .lit (.int .u8 0), .lit (.int .u8 0), .lit (.int .u8 0), .lit (.int .u8 0), .lit (.int .u8 0), .lit (.int .u8 0), .lit (.int .u8 0), .lit (.int .u8 0), .lit (.int .u8 0), .lit (.int .u8 0), .lit (.int .u8 0), .lit (.int .u8 0), .lit (.int .u8 0), .lit (.int .u8 0), .lit (.int .u8 0), .lit (.int .u8 0), .lit (.int .u8 0), .lit (.int .u8 0), .lit (.int .u8 0), .lit (.int .u8 0), .lit (.int .u8 0), .lit (.int .u8 0), .lit (.int .u8 0), .lit (.int .u8 0), .lit (.int .u8 0), .lit (.int .u8 0), .lit (.int .u8 0), .lit (.int .u8 0)] []))⟩,
      ⟨(some 6), none, (.op (.alloc true [.lit (.int .u8 0), .lit (.int .u8 0), .lit (.int .u8 0), .lit (.int .u8 0), .lit (.int .u8 0), .lit (.int .u8 0), .lit (.int .u8 0), .lit (.int .u8 0), .lit (.int .u8 0), .lit (.int .u8 0), .lit (.int .u8 0), .lit (.int .u8 0), .lit (.int .u8 0), .lit (.int .u8 0), .lit (.int .u8 0), .lit (.int .u8 0), .lit (.int .u8 0), .lit (.int .u8 0), .lit (.int .u8 0), .lit (.int .u8 0), .lit (.int .u8 0), .lit (.int .u8 0), .lit (.int .u8 0), .lit (.int .u8 0), .lit (.int .u8 0), .lit (.int .u8 0), .lit (.int .u8 0), .lit (.int .u8 0), .lit (.int .u8 0), .lit (.int .u8 0), .lit (.int .u8 0), .lit (.int .u8 0)]))⟩,
      ⟨none, none, (.op (.store 32 (.tmp 6) (.tmp 24)))⟩])
    (.seq (.seq (.region none [
      ⟨(some 7), none, (.op (.mov (.dat (.lit (.int .i64 0)))))⟩])
    (.block 2
      (.loop
        (.seq (.seq (.region none [
          ⟨(some 25), none, (.op (.mov (.tmp 7)))⟩,
          ⟨(some 26), none, (.op (.arith .lss (.tmp 25) (.dat (.lit (.int .i64 32)))))⟩])
        (.cond (.tmp 26)
          .skip
          (.exit 2)))
        (.seq (.block 3
          (.region none [
            ⟨(some 29), none, (.op (.mov (.tmp 7)))⟩,
            ⟨(some 30), none, (.op (.mov (.tmp 7)))⟩,
            ⟨(some 31), none, (.op (.arith .quo (.tmp 30) (.dat (.lit (.int .i64 4)))))⟩,
            ⟨(some 32), none, (.op (.indexA 1 false 8 (.tmp 3) (.tmp 31)))⟩,
            ⟨(some 33), none, (.op (.load 1 false (.tmp 32)))⟩,
            ⟨(some 34), none, (.op (.mov (.tmp 7)))⟩,
            ⟨(some 35), none, (.op (.arith .rem (.tmp 34) (.dat (.lit (.int .i64 4)))))⟩,
            ⟨(some 36), none, (.op (.arith .mul (.dat (.lit (.int .i64 8))) (.tmp 35)))⟩,
            ⟨(some 37), none, (.op (.arith .sub (.dat (.lit (.int .i64 24))) (.tmp 36)))⟩,
            ⟨(some 38), none, (.op (.ext (.shift false) [(.tmp 33), (.tmp 37)]))⟩,
            ⟨(some 39), none, (.op (.conv .u8 (.tmp 38)))⟩,
            ⟨(some 40), none, (.op (.indexA 1 false 32 (.tmp 6) (.tmp 29)))⟩,
            ⟨none, none, (.op (.store 1 (.tmp 40) (.tmp 39)))⟩]))
        (.region none [
          ⟨(some 27), none, (.op (.mov (.tmp 7)))⟩,
          ⟨(some 28), none, (.op (.arith .add (.tmp 27) (.dat (.lit (.int .i64 1)))))⟩,
          ⟨(some 7), none, (.op (.mov (.tmp 28)))⟩]))))))
    (.seq (.region none [
      ⟨(some 41), none, (.op (.load 32 true (.tmp 6)))⟩,
      ⟨none, none, (.op (.store 32 (.tmp 2) (.tmp 41)))⟩])
    .ret)))))))
  res := [.cell 2 32 true]
theorem c44 : CmpF Tryd.prog 44 a44 := chkF_cmp (F := Tryd.f44) (by kernel_rfl) mixed (by kernel_rfl)
/-- hansard/codec.formed -/
def a45 : AF where
  nt := 74
  body := (.seq (.region none [
      ⟨(some 1), none, (.op (.box true (.tmp 0)))⟩,
      ⟨(some 2), none, (.op (.mov (.dat (.lit (.int .i64 0)))))⟩,
      ⟨(some 3), none, (.op (.mov (.dat (.lit (.bool false)))))⟩])
    (.seq (.region none [
      ⟨(some 9), none, (.op (.field 2 1 false (.tmp 1)))⟩,
      ⟨(some 10), none, (.op (.load 1 false (.tmp 9)))⟩,
      ⟨(some 11), none, (.op (.arith .eql (.tmp 10) (.dat (.lit (.string ⟨#[]⟩)))))⟩,
      ⟨(some 12), none, (.op (.mov (.tmp 11)))⟩,
      ⟨(some 13), (some (12, true)), (.op (.field 3 1 false (.tmp 1)))⟩,
      ⟨(some 14), (some (12, true)), (.op (.load 1 false (.tmp 13)))⟩,
      ⟨(some 15), (some (12, true)), (.op (.len (.tmp 14)))⟩,
      ⟨(some 16), (some (12, true)), (.op (.arith .eql (.tmp 15) (.dat (.lit (.int .i64 0)))))⟩,
      ⟨(some 17), none, (.op (.pick (.tmp 12) (.tmp 16) (.dat (.lit (.bool false)))))⟩,
      ⟨(some 18), none, (.op (.field 1 1 false (.tmp 1)))⟩,
      ⟨(some 19), none, (.op (.load 1 false (.tmp 18)))⟩,
      ⟨(some 20), none, (.op (.arith .eql (.tmp 19) (.dat (.lit (.int .i64 0)))))⟩,
      ⟨(some 21), none, (.op (.mov (.tmp 20)))⟩,
      ⟨(some 22), (some (21, true)), (.op (.field 3 1 false (.tmp 1)))⟩,
      ⟨(some 23), (some (21, true)), (.op (.load 1 false (.tmp 22)))⟩,
      ⟨(some 24), (some (21, true)), (.op (.len (.tmp 23)))⟩,
      ⟨(some 25), (some (21, true)), (.op (.arith .eql (.tmp 24) (.dat (.lit (.int .i64 0)))))⟩,
      ⟨(some 26), none, (.op (.pick (.tmp 21) (.tmp 25) (.dat (.lit (.bool false)))))⟩,
      ⟨(some 27), none, (.op (.field 1 1 false (.tmp 1)))⟩,
      ⟨(some 28), none, (.op (.load 1 false (.tmp 27)))⟩,
      ⟨(some 29), none, (.op (.arith .eql (.tmp 28) (.dat (.lit (.int .i64 0)))))⟩,
      ⟨(some 30), none, (.op (.mov (.tmp 29)))⟩,
      ⟨(some 31), (some (30, true)), (.op (.field 2 1 false (.tmp 1)))⟩,
      ⟨(some 32), (some (30, true)), (.op (.load 1 false (.tmp 31)))⟩,
      ⟨(some 33), (some (30, true)), (.op (.arith .eql (.tmp 32) (.dat (.lit (.string ⟨#[]⟩)))))⟩,
      ⟨(some 34), none, (.op (.pick (.tmp 30) (.tmp 33) (.dat (.lit (.bool false)))))⟩,
      ⟨(some 35), none, (.op (.build [.lit (.bool false), .lit (.bool false), .lit (.bool false), .lit (.bool false)] [(1, 1, (.tmp 17)), (2, 1, (.tmp 26)), (3, 1, (.tmp 34))]))⟩,
      ⟨(some 4), none, (.op (.alloc true [.lit (.bool false), .lit (.bool false), .lit (.bool false), .lit (.bool false)]))⟩,
      ⟨none, none, (.op (.store 4 (.tmp 4) (.tmp 35)))⟩])
    (.seq (.seq (.region none [
      ⟨(some 36), none, (.op (.field 0 1 false (.tmp 1)))⟩,
      ⟨(some 37), none, (.op (.load 1 false (.tmp 36)))⟩,
      ⟨(some 38), none, (.op (.arith .lss (.tmp 37) (.dat (.lit (.int .i64 1)))))⟩,
      ⟨(some 39), none, (.op (.mov (.tmp 38)))⟩,
      ⟨(some 40), (some (39, false)), (.op (.field 0 1 false (.tmp 1)))⟩,
      ⟨(some 41), (some (39, false)), (.op (.load 1 false (.tmp 40)))⟩,
      ⟨(some 42), (some (39, false)), (.op (.arith .gtr (.tmp 41) (.dat (.lit (.int .i64 3)))))⟩,
      ⟨(some 43), none, (.op (.pick (.tmp 39) (.dat (.lit (.bool true))) (.tmp 42)))⟩,
      ⟨(some 44), none, (.op (.mov (.tmp 43)))⟩,
      ⟨(some 45), (some (44, false)), (.op (.field 0 1 false (.tmp 1)))⟩,
      ⟨(some 46), (some (44, false)), (.op (.load 1 false (.tmp 45)))⟩,
      ⟨(some 47), (some (44, false)), (.op (.indexA 1 false 4 (.tmp 4) (.tmp 46)))⟩,
      ⟨(some 48), (some (44, false)), (.op (.load 1 false (.tmp 47)))⟩,
      ⟨(some 49), (some (44, false)), (.op (.not (.tmp 48)))⟩,
      ⟨(some 50), none, (.op (.pick (.tmp 44) (.dat (.lit (.bool true))) (.tmp 49)))⟩])
    (.cond (.tmp 50)
      (.seq (.region none [
        ⟨(some 2), none, (.op (.mov (.dat (.lit (.int .i64 0)))))⟩,
        ⟨(some 3), none, (.op (.mov (.dat (.lit (.bool false)))))⟩])
      .ret)
      .skip))
    (.seq (.seq (.region none [
      ⟨(some 51), none, (.op (.field 0 1 false (.tmp 1)))⟩,
      ⟨(some 52), none, (.op (.load 1 false (.tmp 51)))⟩,
      ⟨(some 53), none, (.op (.arith .lss (.tmp 52) (.dat (.lit (.int .i64 3)))))⟩])
    (.cond (.tmp 53)
      (.seq (.region none [
        ⟨(some 2), none, (.op (.mov (.dat (.lit (.int .i64 0)))))⟩,
        ⟨(some 3), none, (.op (.mov (.dat (.lit (.bool true)))))⟩])
      .ret)
      .skip))
    (.seq (.seq (.region none [
      ⟨(some 54), none, (.op (.field 3 1 false (.tmp 1)))⟩,
      ⟨(some 55), none, (.op (.load 1 false (.tmp 54)))⟩,
      ⟨(some 56), none, (.op (.len (.tmp 55)))⟩,
      ⟨(some 57), none, (.op (.mov (.dat (.lit (.int .i64 0)))))⟩])
    (.block 0
      (.loop
        (.seq (.region none [
          ⟨(some 58), none, (.op (.arith .lss (.tmp 57) (.tmp 56)))⟩])
        (.seq (.cond (.tmp 58)
          .skip
          (.exit 0))
        (.seq (.block 1
          (.seq (.region none [
            ⟨(some 59), none, (.op (.index 4 (.tmp 55) (.tmp 57)))⟩,
            ⟨(some 60), none, (.op (.load 4 true (.tmp 59)))⟩,
            ⟨(some 6), none, (.op (.alloc true [.lit (.int .i64 0), .lit (.int .i64 0), .lit (.string ⟨#[]⟩), .nil 4]))⟩,
            ⟨none, none, (.op (.store 4 (.tmp 6) (.tmp 60)))⟩])
          (.seq (.region none [
            ⟨(some 62), none, (.op (.load 4 true (.tmp 6)))⟩,
            ⟨(some 63), none, (.call (.dat (.fn (.func 45) [] [])) [(.tmp 62)])⟩,
            ⟨(some 61), none, (.op (.mov (.tmp 63)))⟩,
            ⟨(some 64), none, (.op (.extract (.tmp 61) 0))⟩,
            ⟨(some 65), none, (.op (.extract (.tmp 61) 1))⟩,
            ⟨(some 7), none, (.op (.mov (.tmp 64)))⟩,
            ⟨(some 8), none, (.op (.mov (.tmp 65)))⟩])
          (.seq (.seq (.region none [
            ⟨(some 66), none, (.op (.mov (.tmp 8)))⟩,
            ⟨(some 67), none, (.op (.not (.tmp 66)))⟩])
          (.cond (.tmp 67)
            (.seq (.region none [
              ⟨(some 2), none, (.op (.mov (.dat (.lit (.int .i64 0)))))⟩,
              ⟨(some 3), none, (.op (.mov (.dat (.lit (.bool false)))))⟩])
            .ret)
            .skip))
          (.region none [
            ⟨(some 68), none, (.op (.mov (.tmp 2)))⟩,
            ⟨(some 69), none, (.op (.mov (.tmp 7)))⟩,
            ⟨(some 70), none, (.op (.minmax true (.tmp 68) (.tmp 69)))⟩,
            ⟨(some 2), none, (.op (.mov (.tmp 70)))⟩])))))
        (.region none [
          ⟨(some 71), none, (.op (.arith .add (.tmp 57) (.dat (.lit (.int .i64 1)))))⟩,
          ⟨(some 57), none, (.op (.mov (.tmp 71)))⟩])))))))
    (.seq (.region none [
      ⟨(some 72), none, (.op (.mov (.tmp 2)))⟩,
      ⟨(some 73), none, (.op (.arith .add (.tmp 72) (.dat (.lit (.int .i64 1)))))⟩,
      ⟨(some 2), none, (.op (.mov (.tmp 73)))⟩,
      ⟨(some 3), none, (.op (.mov (.dat (.lit (.bool true)))))⟩])
    .ret))))))
  res := [.tmp 2, .tmp 3]
theorem c45 : CmpF Tryd.prog 45 a45 := chkF_cmp (F := Tryd.f45) (by kernel_rfl) mixed (by kernel_rfl)
/-- hansard/codec.newWriter$1 -/
def a46 : AF where
  nt := 12
  body := (.seq (.region none [
      ⟨(some 3), none, (.op (.box true (.tmp 1)))⟩,
      ⟨(some 4), none, (.op (.mov (.dat (.nil 1))))⟩])
    (.seq (.region (some [[], [], [0, 1], [], [3], [0, 1, 2, 3, 4], [0, 1, 2, 3, 4, 5], [0, 1, 2, 3, 4, 5, 6]]) [
      ⟨(some 5), none, (.op (.mov (.tmp 0)))⟩,
      ⟨(some 6), none, (.op (.mkslice 1 [(.dat (.lit (.int .u8 1)))]))⟩,
      ⟨(some 7), none, (.op (.append 1 1 (.tmp 5) (.tmp 6)))⟩,
      ⟨(some 8), none, (.op (.field 1 1 false (.tmp 3)))⟩,
      ⟨(some 9), none, (.op (.load 1 false (.tmp 8)))⟩,
      ⟨(some 10), none, (.call (.dat (.fn (.func 48) [] [])) [(.tmp 9)])⟩,
      ⟨(some 11), none, (.acall (.dat (.fn (.func 47) [] [])) [(.tmp 7), (.tmp 10)])⟩,
      ⟨(some 4), none, (.op (.mov (.tmp 11)))⟩])
    .ret))
  res := [.tmp 4]
theorem c46 : CmpF Tryd.prog 46 a46 := chkF_cmp (F := Tryd.f46) (by kernel_rfl) mixed (by kernel_rfl)
/-- hansard/codec.numeral -/
def a47 : AF where
  nt := 20
  body := (.seq (.region none [
      ⟨(some 4), none, (.op (.mov (.dat (.nil 1))))⟩])
    (.seq (.block 0
      (.loop
        (.seq (.seq (.region none [
          ⟨(some 5), none, (.op (.mov (.tmp 1)))⟩,
          ⟨(some 6), none, (.op (.arith .geq (.tmp 5) (.dat (.lit (.int .u64 128)))))⟩])
        (.cond (.tmp 6)
          .skip
          (.exit 0)))
        (.seq (.block 1
          (.region none [
            ⟨(some 9), none, (.op (.mov (.tmp 0)))⟩,
            ⟨(some 10), none, (.op (.mov (.tmp 1)))⟩,
            ⟨(some 11), none, (.op (.conv .u8 (.tmp 10)))⟩,
            ⟨(some 12), none, (.op (.arith .or (.tmp 11) (.dat (.lit (.int .u8 128)))))⟩,
            ⟨(some 13), none, (.op (.mkslice 1 [(.tmp 12)]))⟩,
            ⟨(some 14), none, (.op (.append 1 1 (.tmp 9) (.tmp 13)))⟩,
            ⟨(some 0), none, (.op (.mov (.tmp 14)))⟩]))
        (.region none [
          ⟨(some 7), none, (.op (.mov (.tmp 1)))⟩,
          ⟨(some 8), none, (.op (.ext (.shift false) [(.tmp 7), (.dat (.lit (.int .u64 7)))]))⟩,
          ⟨(some 1), none, (.op (.mov (.tmp 8)))⟩])))))
    (.seq (.region none [
      ⟨(some 15), none, (.op (.mov (.tmp 0)))⟩,
      ⟨(some 16), none, (.op (.mov (.tmp 1)))⟩,
      ⟨(some 17), none, (.op (.conv .u8 (.tmp 16)))⟩,
      ⟨(some 18), none, (.op (.mkslice 1 [(.tmp 17)]))⟩,
      ⟨(some 19), none, (.op (.append 1 1 (.tmp 15) (.tmp 18)))⟩,
      ⟨(some 4), none, (.op (.mov (.tmp 19)))⟩])
    .ret)))
  res := [.tmp 4]
theorem c47 : CmpF Tryd.prog 47 a47 := chkF_cmp (F := Tryd.f47) (by kernel_rfl) mixed (by kernel_rfl)
/-- hansard/codec.unsigned -/
def a48 : AF where
  nt := 10
  body := (.seq (.region none [
      ⟨(some 2), none, (.op (.mov (.dat (.lit (.int .u64 0)))))⟩])
    (.seq (.region none [
      ⟨(some 3), none, (.op (.mov (.tmp 0)))⟩,
      ⟨(some 4), none, (.op (.conv .u64 (.tmp 3)))⟩,
      ⟨(some 5), none, (.op (.ext (.shift true) [(.tmp 4), (.dat (.lit (.int .u64 1)))]))⟩,
      ⟨(some 6), none, (.op (.mov (.tmp 0)))⟩,
      ⟨(some 7), none, (.op (.ext (.shift false) [(.tmp 6), (.dat (.lit (.int .u64 63)))]))⟩,
      ⟨(some 8), none, (.op (.conv .u64 (.tmp 7)))⟩,
      ⟨(some 9), none, (.op (.arith .xor (.tmp 5) (.tmp 8)))⟩,
      ⟨(some 2), none, (.op (.mov (.tmp 9)))⟩])
    .ret))
  res := [.tmp 2]
theorem c48 : CmpF Tryd.prog 48 a48 := chkF_cmp (F := Tryd.f48) (by kernel_rfl) mixed (by kernel_rfl)
/-- hansard/codec.newWriter$2 -/
def a49 : AF where
  nt := 16
  body := (.seq (.region none [
      ⟨(some 3), none, (.op (.box true (.tmp 1)))⟩,
      ⟨(some 4), none, (.op (.mov (.dat (.nil 1))))⟩])
    (.seq (.region (some [[], [], [0, 1], [], [3], [3, 4], [3, 4, 5], [0, 1, 2, 3, 4, 5, 6], [], [8], [0, 1, 2, 3, 4, 5, 6, 7, 8, 9], [0, 1, 2, 3, 4, 5, 6, 7, 8, 9, 10]]) [
      ⟨(some 5), none, (.op (.mov (.tmp 0)))⟩,
      ⟨(some 6), none, (.op (.mkslice 1 [(.dat (.lit (.int .u8 2)))]))⟩,
      ⟨(some 7), none, (.op (.append 1 1 (.tmp 5) (.tmp 6)))⟩,
      ⟨(some 8), none, (.op (.field 2 1 false (.tmp 3)))⟩,
      ⟨(some 9), none, (.op (.load 1 false (.tmp 8)))⟩,
      ⟨(some 10), none, (.op (.lenS (.tmp 9)))⟩,
      ⟨(some 11), none, (.op (.conv .u64 (.tmp 10)))⟩,
      ⟨(some 12), none, (.acall (.dat (.fn (.func 47) [] [])) [(.tmp 7), (.tmp 11)])⟩,
      ⟨(some 13), none, (.op (.field 2 1 false (.tmp 3)))⟩,
      ⟨(some 14), none, (.op (.load 1 false (.tmp 13)))⟩,
      ⟨(some 15), none, (.op (.ext (.appendS 1) [(.tmp 12), (.tmp 14)]))⟩,
      ⟨(some 4), none, (.op (.mov (.tmp 15)))⟩])
    .ret))
  res := [.tmp 4]
theorem c49 : CmpF Tryd.prog 49 a49 := chkF_cmp (F := Tryd.f49) (by kernel_rfl) mixed (by kernel_rfl)
/-- hansard/codec.newWriter$3 -/
def a50 : AF where
  nt := 35
  body := (.seq (.region none [
      ⟨(some 4), none, (.op (.box true (.tmp 1)))⟩,
      ⟨(some 5), none, (.op (.mov (.dat (.nil 1))))⟩])
    (.seq (.region (some [[], [], [0, 1], [], [3], [3, 4], [3, 4, 5], [0, 1, 2, 3, 4, 5, 6], [0, 1, 2, 3, 4, 5, 6, 7]]) [
      ⟨(some 8), none, (.op (.mov (.tmp 0)))⟩,
      ⟨(some 9), none, (.op (.mkslice 1 [(.dat (.lit (.int .u8 3)))]))⟩,
      ⟨(some 10), none, (.op (.append 1 1 (.tmp 8) (.tmp 9)))⟩,
      ⟨(some 11), none, (.op (.field 3 1 false (.tmp 4)))⟩,
      ⟨(some 12), none, (.op (.load 1 false (.tmp 11)))⟩,
      ⟨(some 13), none, (.op (.len (.tmp 12)))⟩,
      ⟨(some 14), none, (.op (.conv .u64 (.tmp 13)))⟩,
      ⟨(some 15), none, (.acall (.dat (.fn (.func 47) [] [])) [(.tmp 10), (.tmp 14)])⟩,
      ⟨(some 0), none, (.op (.mov (.tmp 15)))⟩])
    (.seq (.seq (.region none [
      ⟨(some 16), none, (.op (.field 3 1 false (.tmp 4)))⟩,
      ⟨(some 17), none, (.op (.load 1 false (.tmp 16)))⟩,
      ⟨(some 18), none, (.op (.len (.tmp 17)))⟩,
      ⟨(some 19), none, (.op (.mov (.dat (.lit (.int .i64 0)))))⟩])
    (.block 0
      (.loop
        (.seq (.region none [
          ⟨(some 20), none, (.op (.arith .lss (.tmp 19) (.tmp 18)))⟩])
        (.seq (.cond (.tmp 20)
          .skip
          (.exit 0))
        (.seq (.block 1
          (.seq (.region none [
            ⟨(some 21), none, (.op (.index 4 (.tmp 17) (.tmp 19)))⟩,
            ⟨(some 22), none, (.op (.load 4 true (.tmp 21)))⟩,
            ⟨(some 7), none, (.op (.alloc true [.lit (.int .i64 0), .lit (.int .i64 0), .lit (.string ⟨#[]⟩), .nil 4]))⟩,
            ⟨none, none, (.op (.store 4 (.tmp 7) (.tmp 22)))⟩])
          (.region (some [[], [], [1], [0], [0, 1, 2, 3], [0, 1, 2, 3, 4], [0, 1, 2, 3, 4, 5], [], [], [0, 1, 2, 3, 4, 5, 6, 7, 8], [0, 1, 2, 3, 4, 5, 6, 7, 8, 9]]) [
            ⟨(some 23), none, (.op (.load 1 false (.tmp 2)))⟩,
            ⟨(some 24), none, (.op (.field 0 1 false (.tmp 7)))⟩,
            ⟨(some 25), none, (.op (.load 1 false (.tmp 24)))⟩,
            ⟨(some 26), none, (.op (.ext .nilChk [(.tmp 23)]))⟩,
            ⟨(some 27), none, (.op (.indexA 1 true 4 (.tmp 26) (.tmp 25)))⟩,
            ⟨(some 28), none, (.op (.field 0 1 false (.tmp 27)))⟩,
            ⟨(some 29), none, (.op (.load 1 false (.tmp 28)))⟩,
            ⟨(some 30), none, (.op (.mov (.tmp 0)))⟩,
            ⟨(some 31), none, (.op (.load 4 true (.tmp 7)))⟩,
            ⟨(some 32), none, (.acall (.tmp 29) [(.tmp 30), (.tmp 31)])⟩,
            ⟨(some 0), none, (.op (.mov (.tmp 32)))⟩])))
        (.region none [
          ⟨(some 33), none, (.op (.arith .add (.tmp 19) (.dat (.lit (.int .i64 1)))))⟩,
          ⟨(some 19), none, (.op (.mov (.tmp 33)))⟩])))))))
    (.seq (.region none [
      ⟨(some 34), none, (.op (.mov (.tmp 0)))⟩,
      ⟨(some 5), none, (.op (.mov (.tmp 34)))⟩])
    .ret))))
  res := [.tmp 5]
theorem c50 : CmpF Tryd.prog 50 a50 := chkF_cmp (F := Tryd.f50) (by kernel_rfl) mixed (by kernel_rfl)
/-- hansard/hansardref01.Check -/
def a51 : AF where
  nt := 9
  body := (.seq (.region none [
      ⟨(some 1), none, (.op (.box true (.tmp 0)))⟩,
      ⟨(some 2), none, (.op (.mov (.dat (.lit (.int .i64 0)))))⟩])
    (.seq (.seq (.region none [
      ⟨(some 3), none, (.op (.load 4 true (.tmp 1)))⟩,
      ⟨(some 4), none, (.call (.dat (.fn (.func 58) [] [])) [(.tmp 3)])⟩,
      ⟨(some 5), none, (.op (.not (.tmp 4)))⟩])
    (.cond (.tmp 5)
      (.seq (.region none [
        ⟨(some 2), none, (.op (.mov (.dat (.lit (.int .i64 1)))))⟩])
      .ret)
      .skip))
    (.seq (.seq (.region none [
      ⟨(some 6), none, (.op (.load 4 true (.tmp 1)))⟩,
      ⟨(some 7), none, (.call (.dat (.fn (.func 59) [] [])) [(.tmp 6)])⟩,
      ⟨(some 8), none, (.op (.arith .gtr (.tmp 7) (.dat (.lit (.int .i64 16)))))⟩])
    (.cond (.tmp 8)
      (.seq (.region none [
        ⟨(some 2), none, (.op (.mov (.dat (.lit (.int .i64 2)))))⟩])
      .ret)
      .skip))
    (.seq (.region none [
      ⟨(some 2), none, (.op (.mov (.dat (.lit (.int .i64 0)))))⟩])
    .ret))))
  res := [.tmp 2]
theorem c51 : CmpF Tryd.prog 51 a51 := chkF_cmp (F := Tryd.f51) (by kernel_rfl) mixed (by kernel_rfl)
/-- hansard/hansardref01.encode -/
def a52 : AF where
  nt := 50
  body := (.seq (.region none [
      ⟨(some 1), none, (.op (.box true (.tmp 0)))⟩,
      ⟨(some 2), none, (.op (.mov (.dat (.nil 1))))⟩])
    (.seq (.seq (.region none [
      ⟨(some 5), none, (.op (.field 0 1 false (.tmp 1)))⟩,
      ⟨(some 6), none, (.op (.load 1 false (.tmp 5)))⟩])
    (.block 0
      (.seq (.region none [
        ⟨(some 8), none, (.op (.arith .eql (.tmp 6) (.dat (.lit (.int .i64 1)))))⟩,
        ⟨(some 7), none, (.op (.mov (.tmp 8)))⟩])
      (.cond (.tmp 7)
        (.seq (.region none [
          ⟨(some 9), none, (.op (.mkslice 1 [(.dat (.lit (.int .u8 1)))]))⟩,
          ⟨(some 10), none, (.op (.field 1 1 false (.tmp 1)))⟩,
          ⟨(some 11), none, (.op (.load 1 false (.tmp 10)))⟩,
          ⟨(some 12), none, (.call (.dat (.fn (.func 61) [] [])) [(.tmp 11)])⟩,
          ⟨(some 13), none, (.call (.dat (.fn (.func 60) [] [])) [(.tmp 12)])⟩,
          ⟨(some 14), none, (.op (.append 1 1 (.tmp 9) (.tmp 13)))⟩,
          ⟨(some 2), none, (.op (.mov (.tmp 14)))⟩])
        .ret)
        (.seq (.region none [
          ⟨(some 16), none, (.op (.arith .eql (.tmp 6) (.dat (.lit (.int .i64 2)))))⟩,
          ⟨(some 15), none, (.op (.mov (.tmp 16)))⟩])
        (.cond (.tmp 15)
          (.seq (.region (some [[], [], [1], [1, 2], [1, 2, 3], [1, 2, 3, 4], [0, 1, 2, 3, 4, 5], [], [7], [0, 1, 2, 3, 4, 5, 6, 7, 8], [0, 1, 2, 3, 4, 5, 6, 7, 8, 9]]) [
            ⟨(some 17), none, (.op (.mkslice 1 [(.dat (.lit (.int .u8 2)))]))⟩,
            ⟨(some 18), none, (.op (.field 2 1 false (.tmp 1)))⟩,
            ⟨(some 19), none, (.op (.load 1 false (.tmp 18)))⟩,
            ⟨(some 20), none, (.op (.lenS (.tmp 19)))⟩,
            ⟨(some 21), none, (.op (.conv .u64 (.tmp 20)))⟩,
            ⟨(some 22), none, (.call (.dat (.fn (.func 60) [] [])) [(.tmp 21)])⟩,
            ⟨(some 23), none, (.op (.append 1 1 (.tmp 17) (.tmp 22)))⟩,
            ⟨(some 24), none, (.op (.field 2 1 false (.tmp 1)))⟩,
            ⟨(some 25), none, (.op (.load 1 false (.tmp 24)))⟩,
            ⟨(some 26), none, (.op (.ext (.appendS 1) [(.tmp 23), (.tmp 25)]))⟩,
            ⟨(some 2), none, (.op (.mov (.tmp 26)))⟩])
          .ret)
          .skip))))))
    (.seq (.region none [
      ⟨(some 27), none, (.op (.mkslice 1 [(.dat (.lit (.int .u8 3)))]))⟩,
      ⟨(some 28), none, (.op (.field 3 1 false (.tmp 1)))⟩,
      ⟨(some 29), none, (.op (.load 1 false (.tmp 28)))⟩,
      ⟨(some 30), none, (.op (.len (.tmp 29)))⟩,
      ⟨(some 31), none, (.op (.conv .u64 (.tmp 30)))⟩,
      ⟨(some 32), none, (.call (.dat (.fn (.func 60) [] [])) [(.tmp 31)])⟩,
      ⟨(some 33), none, (.op (.append 1 1 (.tmp 27) (.tmp 32)))⟩,
      ⟨(some 3), none, (.op (.mov (.tmp 33)))⟩])
    (.seq (.seq (.region none [
      ⟨(some 4), none, (.op (.mov (.dat (.lit (.int .i64 0)))))⟩])
    (.block 1
      (.loop
        (.seq (.seq (.region none [
          ⟨(some 34), none, (.op (.mov (.tmp 4)))⟩,
          ⟨(some 35), none, (.op (.field 3 1 false (.tmp 1)))⟩,
          ⟨(some 36), none, (.op (.load 1 false (.tmp 35)))⟩,
          ⟨(some 37), none, (.op (.len (.tmp 36)))⟩,
          ⟨(some 38), none, (.op (.arith .lss (.tmp 34) (.tmp 37)))⟩])
        (.cond (.tmp 38)
          .skip
          (.exit 1)))
        (.seq (.block 2
          (.region none [
            ⟨(some 41), none, (.op (.mov (.tmp 3)))⟩,
            ⟨(some 42), none, (.op (.field 3 1 false (.tmp 1)))⟩,
            ⟨(some 43), none, (.op (.load 1 false (.tmp 42)))⟩,
            ⟨(some 44), none, (.op (.mov (.tmp 4)))⟩,
            ⟨(some 45), none, (.op (.index 4 (.tmp 43) (.tmp 44)))⟩,
            ⟨(some 46), none, (.op (.load 4 true (.tmp 45)))⟩,
            ⟨(some 47), none, (.call (.dat (.fn (.func 52) [] [])) [(.tmp 46)])⟩,
            ⟨(some 48), none, (.op (.append 1 1 (.tmp 41) (.tmp 47)))⟩,
            ⟨(some 3), none, (.op (.mov (.tmp 48)))⟩]))
        (.region none [
          ⟨(some 39), none, (.op (.mov (.tmp 4)))⟩,
          ⟨(some 40), none, (.op (.arith .add (.tmp 39) (.dat (.lit (.int .i64 1)))))⟩,
          ⟨(some 4), none, (.op (.mov (.tmp 40)))⟩]))))))
    (.seq (.region none [
      ⟨(some 49), none, (.op (.mov (.tmp 3)))⟩,
      ⟨(some 2), none, (.op (.mov (.tmp 49)))⟩])
    .ret)))))
  res := [.tmp 2]
theorem c52 : CmpF Tryd.prog 52 a52 := chkF_cmp (F := Tryd.f52) (by kernel_rfl) mixed (by kernel_rfl)
/-- hansard/digest.word -/
def a53 : AF where
  nt := 19
  body := (.seq (.region none [
      ⟨(some 2), none, (.op (.mov (.dat (.lit (.int .u32 0)))))⟩])
    (.seq (.seq (.region none [
      ⟨(some 5), none, (.op (.mov (.tmp 0)))⟩,
      ⟨(some 6), none, (.op (.slice 1 (.tmp 5) none (some (.dat (.lit (.int .i64 4))))))⟩,
      ⟨(some 7), none, (.op (.len (.tmp 6)))⟩,
      ⟨(some 8), none, (.op (.mov (.dat (.lit (.int .i64 0)))))⟩])
    (.block 0
      (.loop
        (.seq (.region none [
          ⟨(some 9), none, (.op (.arith .lss (.tmp 8) (.tmp 7)))⟩])
        (.seq (.cond (.tmp 9)
          .skip
          (.exit 0))
        (.seq (.block 1
          (.seq (.region none [
            ⟨(some 10), none, (.op (.index 1 (.tmp 6) (.tmp 8)))⟩,
            ⟨(some 11), none, (.op (.load 1 false (.tmp 10)))⟩,
            ⟨(some 4), none, (.op (.mov (.tmp 11)))⟩])
          (.region none [
            ⟨(some 12), none, (.op (.mov (.tmp 2)))⟩,
            ⟨(some 13), none, (.op (.ext (.shift true) [(.tmp 12), (.dat (.lit (.int .u64 8)))]))⟩,
            ⟨(some 14), none, (.op (.mov (.tmp 4)))⟩,
            ⟨(some 15), none, (.op (.conv .u32 (.tmp 14)))⟩,
            ⟨(some 16), none, (.op (.arith .or (.tmp 13) (.tmp 15)))⟩,
            ⟨(some 2), none, (.op (.mov (.tmp 16)))⟩])))
        (.region none [
          ⟨(some 17), none, (.op (.arith .add (.tmp 8) (.dat (.lit (.int .i64 1)))))⟩,
          ⟨(some 8), none, (.op (.mov (.tmp 17)))⟩])))))))
    (.seq (.region none [
      ⟨(some 18), none, (.op (.mov (.tmp 2)))⟩,
      ⟨(some 2), none, (.op (.mov (.tmp 18)))⟩])
    .ret)))
  res := [.tmp 2]
theorem c53 : CmpF Tryd.prog 53 a53 := chkF_cmp (F := Tryd.f53) (by kernel_rfl) mixed (by kernel_rfl)
/-- math/bits.RotateLeft32 -/
def a54 : AF where
  nt := 17
  body := (.seq (.region none [
      ⟨(some 4), none, (.op (.mov (.dat (.lit (.int .u32 0)))))⟩])
    (.seq (.region none [
      ⟨(some 6), none, (.op (.mov (.tmp 1)))⟩,
      ⟨(some 7), none, (.op (.conv .u64 (.tmp 6)))⟩,
      ⟨(some 8), none, (.op (.arith .and (.tmp 7) (.dat (.lit (.int .u64 31)))))⟩,
      ⟨(some 5), none, (.op (.mov (.tmp 8)))⟩])
    (.seq (.region none [
      ⟨(some 9), none, (.op (.mov (.tmp 0)))⟩,
      ⟨(some 10), none, (.op (.mov (.tmp 5)))⟩,
      ⟨(some 11), none, (.op (.ext (.shift true) [(.tmp 9), (.tmp 10)]))⟩,
      ⟨(some 12), none, (.op (.mov (.tmp 0)))⟩,
      ⟨(some 13), none, (.op (.mov (.tmp 5)))⟩,
      ⟨(some 14), none, (.op (.arith .sub (.dat (.lit (.int .u64 32))) (.tmp 13)))⟩,
      ⟨(some 15), none, (.op (.ext (.shift false) [(.tmp 12), (.tmp 14)]))⟩,
      ⟨(some 16), none, (.op (.arith .or (.tmp 11) (.tmp 15)))⟩,
      ⟨(some 4), none, (.op (.mov (.tmp 16)))⟩])
    .ret)))
  res := [.tmp 4]
theorem c54 : CmpF Tryd.prog 54 a54 := chkF_cmp (F := Tryd.f54) (by kernel_rfl) mixed (by kernel_rfl)
/-- hansard/digest.rotated -/
def a55 : AF where
  nt := 23
  body := (.seq (.region none [
      ⟨(some 8), none, (.op (.mov (.dat (.lit (.int .u32 0)))))⟩])
    (.seq (.region none [
      ⟨(some 9), none, (.op (.mov (.tmp 0)))⟩,
      ⟨(some 10), none, (.op (.mov (.tmp 1)))⟩,
      ⟨(some 11), none, (.op (.ext .uneg [(.tmp 10)]))⟩,
      ⟨(some 12), none, (.call (.dat (.fn (.func 54) [] [])) [(.tmp 9), (.tmp 11)])⟩,
      ⟨(some 13), none, (.op (.mov (.tmp 0)))⟩,
      ⟨(some 14), none, (.op (.mov (.tmp 2)))⟩,
      ⟨(some 15), none, (.op (.ext .uneg [(.tmp 14)]))⟩,
      ⟨(some 16), none, (.call (.dat (.fn (.func 54) [] [])) [(.tmp 13), (.tmp 15)])⟩,
      ⟨(some 17), none, (.op (.arith .xor (.tmp 12) (.tmp 16)))⟩,
      ⟨(some 18), none, (.op (.mov (.tmp 0)))⟩,
      ⟨(some 19), none, (.op (.mov (.tmp 3)))⟩,
      ⟨(some 20), none, (.op (.ext .uneg [(.tmp 19)]))⟩,
      ⟨(some 21), none, (.call (.dat (.fn (.func 54) [] [])) [(.tmp 18), (.tmp 20)])⟩,
      ⟨(some 22), none, (.op (.arith .xor (.tmp 17) (.tmp 21)))⟩,
      ⟨(some 8), none, (.op (.mov (.tmp 22)))⟩])
    .ret))
  res := [.tmp 8]
theorem c55 : CmpF Tryd.prog 55 a55 := chkF_cmp (F := Tryd.f55) (by kernel_rfl) mixed (by kernel_rfl)
/-- hansard/hansardref02.padded -/
def a56 : AF where
  nt := 35
  body := (.seq (.region none [
      ⟨(some 2), none, (.op (.mov (.dat (.nil 1))))⟩])
    (.seq (.region none [
      ⟨(some 6), none, (.op (.mkslice 1 []))⟩,
      ⟨(some 7), none, (.op (.mov (.tmp 0)))⟩,
      ⟨(some 8), none, (.op (.append 1 1 (.tmp 6) (.tmp 7)))⟩,
      ⟨(some 9), none, (.op (.mkslice 1 [(.dat (.lit (.int .u8 128)))]))⟩,
      ⟨(some 10), none, (.op (.append 1 1 (.tmp 8) (.tmp 9)))⟩,
      ⟨(some 3), none, (.op (.mov (.tmp 10)))⟩])
    (.seq (.block 0
      (.loop
        (.seq (.seq (.region none [
          ⟨(some 11), none, (.op (.mov (.tmp 3)))⟩,
          ⟨(some 12), none, (.op (.len (.tmp 11)))⟩,
          ⟨(some 13), none, (.op (.arith .rem (.tmp 12) (.dat (.lit (.int .i64 64)))))⟩,
          ⟨(some 14), none, (.op (.arith .neq (.tmp 13) (.dat (.lit (.int .i64 56)))))⟩])
        (.cond (.tmp 14)
          .skip
          (.exit 0)))
        (.block 1
          (.region none [
            ⟨(some 15), none, (.op (.mov (.tmp 3)))⟩,
            ⟨(some 16), none, (.op (.mkslice 1 [(.dat (.lit (.int .u8 0)))]))⟩,
            ⟨(some 17), none, (.op (.append 1 1 (.tmp 15) (.tmp 16)))⟩,
            ⟨(some 3), none, (.op (.mov (.tmp 17)))⟩])))))
    (.seq (.region none [
      ⟨(some 18), none, (.op (.mov (.tmp 0)))⟩,
      ⟨(some 19), none, (.op (.len (.tmp 18)))⟩,
      ⟨(some 20), none, (.op (.conv .u64 (.tmp 19)))⟩,
      ⟨(some 21), none, (.op (.arith .mul (.tmp 20) (.dat (.lit (.int .u64 8)))))⟩,
      ⟨(some 4), none, (.op (.mov (.tmp 21)))⟩])
    (.seq (.seq (.region none [
      ⟨(some 5), none, (.op (.mov (.dat (.lit (.int .i64 7)))))⟩])
    (.block 2
      (.loop
        (.seq (.seq (.region none [
          ⟨(some 22), none, (.op (.mov (.tmp 5)))⟩,
          ⟨(some 23), none, (.op (.arith .geq (.tmp 22) (.dat (.lit (.int .i64 0)))))⟩])
        (.cond (.tmp 23)
          .skip
          (.exit 2)))
        (.seq (.block 3
          (.region none [
            ⟨(some 26), none, (.op (.mov (.tmp 3)))⟩,
            ⟨(some 27), none, (.op (.mov (.tmp 4)))⟩,
            ⟨(some 28), none, (.op (.mov (.tmp 5)))⟩,
            ⟨(some 29), none, (.op (.arith .mul (.dat (.lit (.int .i64 8))) (.tmp 28)))⟩,
            ⟨(some 30), none, (.op (.ext (.shift false) [(.tmp 27), (.tmp 29)]))⟩,
            ⟨(some 31), none, (.op (.conv .u8 (.tmp 30)))⟩,
            ⟨(some 32), none, (.op (.mkslice 1 [(.tmp 31)]))⟩,
            ⟨(some 33), none, (.op (.append 1 1 (.tmp 26) (.tmp 32)))⟩,
            ⟨(some 3), none, (.op (.mov (.tmp 33)))⟩]))
        (.region none [
          ⟨(some 24), none, (.op (.mov (.tmp 5)))⟩,
          ⟨(some 25), none, (.op (.arith .sub (.tmp 24) (.dat (.lit (.int .i64 1)))))⟩,
          ⟨(some 5), none, (.op (.mov (.tmp 25)))⟩]))))))
    (.seq (.region none [
      ⟨(some 34), none, (.op (.mov (.tmp 3)))⟩,
      ⟨(some 2), none, (.op (.mov (.tmp 34)))⟩])
    .ret))))))
  res := [.tmp 2]
theorem c56 : CmpF Tryd.prog 56 a56 := chkF_cmp (F := Tryd.f56) (by kernel_rfl) mixed (by kernel_rfl)
/-- hansard/hansardref02.block -/
def a57 : AF where
  nt := 191
  body := (.seq (.region none [
      ⟨(some 2), none, (.op (.box true (.tmp 0)))⟩,
      ⟨(some 4), none, (.op (.alloc true [.lit (.int .u32 0), .lit (.int .u32 0), .lit (.int .u32 0), .lit (.int .u32 0), .lit (.int .u32 0), .lit (.int .u32 0), .lit (.int .u32 0), .lit (.int .u32 0)]))⟩])
    (.seq (.region none [
      ⟨(some 22), none, (.op (.build [.lit (.int .u32 0), .lit (.int .u32 0), .lit (.int .u32 0), .lit (.int .u32 0), .lit (.int .u32 0), .lit (.int .u32 0), .lit (.int .u32 0), .lit (.int .u32 0), .lit (.int .u32 0), .lit (.int .u32 0), .lit (.int .u32 0), .lit (.int .u32 0), .lit (.int .u32 0), .lit (.int .u32 0), .lit (.int .u32 0), .lit (.int .u32 0), .lit (.int .u32 0), .lit (.int .u32 0), .lit (.int .u32 0), .lit (.int .u32 0), .lit (.int .u32 0), .lit (.int .u32 0), .lit (.int .u32 0), .lit (.int .u32 0), .lit (.int .u32 0), .lit (.int .u32 0), .lit (.int .u32 0), .lit (.int .u32 0), .lit (.int .u32 0), .lit (.int .u32 0), .lit (.int .u32 0), .lit (.int .u32 0), .lit (.int .u32 0), .lit (.int .u32 0), .lit (.int .u32 0), .lit (.int .u32 0), .lit (.int .u32 0), .lit (.int .u32 0), .lit (.int .u32 0), .lit (.int .u32 0), .lit (.int .u32 0), .lit (.int .u32 0), .lit (.int .u32 0), .lit (.int .u32 0), .lit (.int .u32 0), .lit (.int .u32 0), .lit (.int .u32 0), .lit (.int .u32 0), .lit (.int .u32 0), .lit (.int .u32 0), .lit (.int .u32 0), .lit (.int .u32 0), .lit (.int .u32 0), .lit (.int .u32 0), .lit (.int .u32 0), .lit (.int .u32 0), .lit (.int .u32 0), .lit (.int .u32 0), .lit (.int .u32 0), .lit (.int .u32 0), .lit (.int .u32 0), .lit (.int .u32 0), .lit (.int .u32 0), .lit (.int .u32 0)] []))⟩,
      ⟨(some 5), none, (.op (.alloc true [.lit (.int .u32 0), .lit (.int .u32 0), .lit (.int .u32 0), .lit (.int .u32 0), .lit (.int .u32 0), .lit (.int .u32 0), .lit (.int .u32 0), .lit (.int .u32 0), .lit (.int .u32 0), .lit (.int .u32 0), .lit (.int .u32 0), .lit (.int .u32 0), .lit (.int .u32 0), .lit (.int .u32 0), .lit (.int .u32 0), .lit (.int .u32 0), .lit (.int .u32 0), .lit (.int .u32 0), .lit (.int .u32 0), .lit (.int .u32 0), .lit (.int .u32 0), .lit (.int .u32 0), .lit (.int .u32 0), .lit (.int .u32 0), .lit (.int .u32 0), .lit (.int .u32 0), .lit (.int .u32 0), .lit (.int .u32 0), .lit (.int .u32 0), .lit (.int .u32 0), .lit (.int .u32 0), .lit (.int .u32 0), .lit (.int .u32 0), .lit (.int .u32 0), .lit (.int .u32 0), .lit (.int .u32 0), .lit (.int .u32 0), .lit (.int .u32 0), .lit (.int .u32 0), .lit (.int .u32 0), .lit (.int .u32 0), .lit (.int .u32 0), .lit (.int .u32 0), .lit (.int .u32 0), .lit (.int .u32 0), .lit (.int .u32 0), .lit (.int .u32 0), .lit (.int .u32 0), .lit (.int .u32 0), .lit (.int .u32 0), .lit (.int .u32 0), .lit (.int .u32 0), .lit (.int .u32 0), .lit (.int .u32 0), .lit (.int .u32 0), .lit (.int .u32 0), .lit (.int .u32 0), .lit (.int .u32 0), .lit (.int .u32 0), .lit (.int .u32 0), .lit (.int .u32 0), .lit (.int .u32 0), .lit (.int .u32 0), .lit (.int .u32 0)]))⟩,
      ⟨none, none, (.op (.store 64 (.tmp 5) (.tmp 22)))⟩])
    (.seq (.seq (.region none [
      ⟨(some 6), none, (.op (.mov (.dat (.lit (.int .i64 0)))))⟩])
    (.block 0
      (.loop
        (.seq (.seq (.region none [
          ⟨(some 23), none, (.op (.mov (.tmp 6)))⟩,
          ⟨(some 24), none, (.op (.arith .lss (.tmp 23) (.dat (.lit (.int .i64 16)))))⟩])
        (.cond (.tmp 24)
          .skip
          (.exit 0)))
        (.seq (.block 1
          (.region none [
            ⟨(some 27), none, (.op (.mov (.tmp 6)))⟩,
            ⟨(some 28), none, (.op (.mov (.tmp 1)))⟩,
            ⟨(some 29), none, (.op (.mov (.tmp 6)))⟩,
            ⟨(some 30), none, (.op (.arith .mul (.dat (.lit (.int .i64 4))) (.tmp 29)))⟩,
            ⟨(some 31), none, (.op (.mov (.tmp 6)))⟩,
            ⟨(some 32), none, (.op (.arith .mul (.dat (.lit (.int .i64 4))) (.tmp 31)))⟩,
            ⟨(some 33), none, (.op (.arith .add (.tmp 32) (.dat (.lit (.int .i64 4)))))⟩,
            ⟨(some 34), none, (.op (.slice 1 (.tmp 28) (some (.tmp 30)) (some (.tmp 33))))⟩,
            ⟨(some 35), none, (.call (.dat (.fn (.func 62) [] [])) [(.tmp 34)])⟩,
            ⟨(some 36), none, (.op (.indexA 1 false 64 (.tmp 5) (.tmp 27)))⟩,
            ⟨none, none, (.op (.store 1 (.tmp 36) (.tmp 35)))⟩]))
        (.region none [
          ⟨(some 25), none, (.op (.mov (.tmp 6)))⟩,
          ⟨(some 26), none, (.op (.arith .add (.tmp 25) (.dat (.lit (.int .i64 1)))))⟩,
          ⟨(some 6), none, (.op (.mov (.tmp 26)))⟩]))))))
    (.seq (.seq (.region none [
      ⟨(some 7), none, (.op (.mov (.dat (.lit (.int .i64 16)))))⟩])
    (.block 2
      (.loop
        (.seq (.seq (.region none [
          ⟨(some 37), none, (.op (.mov (.tmp 7)))⟩,
          ⟨(some 38), none, (.op (.arith .lss (.tmp 37) (.dat (.lit (.int .i64 64)))))⟩])
        (.cond (.tmp 38)
          .skip
          (.exit 2)))
        (.seq (.block 3
          (.seq (.region none [
            ⟨(some 41), none, (.op (.mov (.tmp 7)))⟩,
            ⟨(some 42), none, (.op (.arith .sub (.tmp 41) (.dat (.lit (.int .i64 15)))))⟩,
            ⟨(some 43), none, (.op (.indexA 1 false 64 (.tmp 5) (.tmp 42)))⟩,
            ⟨(some 44), none, (.op (.load 1 false (.tmp 43)))⟩,
            ⟨(some 8), none, (.op (.mov (.tmp 44)))⟩])
          (.seq (.region none [
            ⟨(some 45), none, (.op (.mov (.tmp 7)))⟩,
            ⟨(some 46), none, (.op (.arith .sub (.tmp 45) (.dat (.lit (.int .i64 2)))))⟩,
            ⟨(some 47), none, (.op (.indexA 1 false 64 (.tmp 5) (.tmp 46)))⟩,
            ⟨(some 48), none, (.op (.load 1 false (.tmp 47)))⟩,
            ⟨(some 9), none, (.op (.mov (.tmp 48)))⟩])
          (.region (some [[], [], [1], [1, 2], [1, 2, 3], [], [5], [], [5, 6, 7], [5, 6, 7, 8], [], [10], [5, 6, 7, 8, 9, 10, 11], [1, 2, 3, 4, 5, 6, 7, 8, 9, 10, 11, 12], [], [14], [14, 15], [14, 15, 16], [1, 2, 3, 4, 5, 6, 7, 8, 9, 10, 11, 12, 13, 14, 15, 16, 17], [], [5, 6, 7, 8, 19], [], [5, 6, 7, 8, 19, 20, 21], [5, 6, 7, 8, 19, 20, 21, 22], [], [24], [5, 6, 7, 8, 19, 20, 21, 22, 23, 24, 25], [1, 2, 3, 4, 5, 6, 7, 8, 9, 10, 11, 12, 13, 14, 15, 16, 17, 18, 19, 20, 21, 22, 23, 24, 25, 26], [0, 1, 2, 3, 4, 5, 6, 7, 8, 9, 10, 11, 12, 13, 14, 15, 16, 17, 18, 19, 20, 21, 22, 23, 24, 25, 26, 27], [0, 1, 2, 3, 4, 5, 6, 7, 8, 9, 10, 11, 12, 13, 14, 15, 16, 17, 18, 19, 20, 21, 22, 23, 24, 25, 26, 27, 28]]) [
            ⟨(some 49), none, (.op (.mov (.tmp 7)))⟩,
            ⟨(some 50), none, (.op (.mov (.tmp 7)))⟩,
            ⟨(some 51), none, (.op (.arith .sub (.tmp 50) (.dat (.lit (.int .i64 16)))))⟩,
            ⟨(some 52), none, (.op (.indexA 1 false 64 (.tmp 5) (.tmp 51)))⟩,
            ⟨(some 53), none, (.op (.load 1 false (.tmp 52)))⟩,
            ⟨(some 54), none, (.op (.mov (.tmp 8)))⟩,
            ⟨(some 55), none, (.call (.dat (.fn (.func 63) [] [])) [(.tmp 54), (.dat (.lit (.int .i64 7)))])⟩,
            ⟨(some 56), none, (.op (.mov (.tmp 8)))⟩,
            ⟨(some 57), none, (.call (.dat (.fn (.func 63) [] [])) [(.tmp 56), (.dat (.lit (.int .i64 18)))])⟩,
            ⟨(some 58), none, (.op (.arith .xor (.tmp 55) (.tmp 57)))⟩,
            ⟨(some 59), none, (.op (.mov (.tmp 8)))⟩,
            ⟨(some 60), none, (.op (.ext (.shift false) [(.tmp 59), (.dat (.lit (.int .u64 3)))]))⟩,
            ⟨(some 61), none, (.op (.arith .xor (.tmp 58) (.tmp 60)))⟩,
            ⟨(some 62), none, (.op (.arith .add (.tmp 53) (.tmp 61)))⟩,
            ⟨(some 63), none, (.op (.mov (.tmp 7)))⟩,
            ⟨(some 64), none, (.op (.arith .sub (.tmp 63) (.dat (.lit (.int .i64 7)))))⟩,
            ⟨(some 65), none, (.op (.indexA 1 false 64 (.tmp 5) (.tmp 64)))⟩,
            ⟨(some 66), none, (.op (.load 1 false (.tmp 65)))⟩,
            ⟨(some 67), none, (.op (.arith .add (.tmp 62) (.tmp 66)))⟩,
            ⟨(some 68), none, (.op (.mov (.tmp 9)))⟩,
            ⟨(some 69), none, (.call (.dat (.fn (.func 63) [] [])) [(.tmp 68), (.dat (.lit (.int .i64 17)))])⟩,
            ⟨(some 70), none, (.op (.mov (.tmp 9)))⟩,
            ⟨(some 71), none, (.call (.dat (.fn (.func 63) [] [])) [(.tmp 70), (.dat (.lit (.int .i64 19)))])⟩,
            ⟨(some 72), none, (.op (.arith .xor (.tmp 69) (.tmp 71)))⟩,
            ⟨(some 73), none, (.op (.mov (.tmp 9)))⟩,
            ⟨(some 74), none, (.op (.ext (.shift false) [(.tmp 73), (.dat (.lit (.int .u64 10)))]))⟩,
            ⟨(some 75), none, (.op (.arith .xor (.tmp 72) (.tmp 74)))⟩,
            ⟨(some 76), none, (.op (.arith .add (.tmp 67) (.tmp 75)))⟩,
            ⟨(some 77), none, (.op (.indexA 1 false 64 (.tmp 5) (.tmp 49)))⟩,
            ⟨none, none, (.op (.store 1 (.tmp 77) (.tmp 76)))⟩]))))
        (.region none [
          ⟨(some 39), none, (.op (.mov (.tmp 7)))⟩,
          ⟨(some 40), none, (.op (.arith .add (.tmp 39) (.dat (.lit (.int .i64 1)))))⟩,
          ⟨(some 7), none, (.op (.mov (.tmp 40)))⟩]))))))
    (.seq (.region none [
      ⟨(some 78), none, (.call (.dat (.fn (.func 64) [] [])) [])⟩,
      ⟨(some 10), none, (.op (.alloc true [.lit (.int .u32 0), .lit (.int .u32 0), .lit (.int .u32 0), .lit (.int .u32 0), .lit (.int .u32 0), .lit (.int .u32 0), .lit (.int .u32 0), .lit (.int .u32 0), .lit (.int .u32 0), .lit (.int .u32 0), .lit (.int .u32 0), .lit (.int .u32 0), .lit (.int .u32 0), .lit (.int .u32 0), .lit (.int .u32 0), .lit (.int .u32 0), .lit (.int .u32 0), .lit (.int .u32 0), .lit (.int .u32 0), .lit (.int .u32 0), .lit (.int .u32 0), .lit (.int .u32 0), .lit (.int .u32 0), .lit (.int .u32 0), .lit (.int .u32 0), .lit (.int .u32 0), .lit (.int .u32 0), .lit (.int .u32 0), .lit (.int .u32 0), .lit (.int .u32 0), .lit (.int .u32 0), .lit (.int .u32 0), .lit (.int .u32 0), .lit (.int .u32 0), .lit (.int .u32 0), .lit (.int .u32 0), .lit (.int .u32 0), .lit (.int .u32 0), .lit (.int .u32 0), .lit (.int .u32 0), .lit (.int .u32 0), .lit (.int .u32 0), .lit (.int .u32 0), .lit (.int .u32 0), .lit (.int .u32 0), .lit (.int .u32 0), .lit (.int .u32 0), .lit (.int .u32 0), .lit (.int .u32 0), .lit (.int .u32 0), .lit (.int .u32 0), .lit (.int .u32 0), .lit (.int .u32 0), .lit (.int .u32 0), .lit (.int .u32 0), .lit (.int .u32 0), .lit (.int .u32 0), .lit (.int .u32 0), .lit (.int .u32 0), .lit (.int .u32 0), .lit (.int .u32 0), .lit (.int .u32 0), .lit (.int .u32 0), .lit (.int .u32 0)]))⟩,
      ⟨none, none, (.op (.store 64 (.tmp 10) (.tmp 78)))⟩])
    (.seq (.region (some [[], [0], [], [2], [], [4], [], [6], [], [8], [], [10], [], [12], [], [14], [0, 1], [0, 1, 2, 3, 16], [0, 1, 2, 3, 4, 5, 16, 17], [0, 1, 2, 3, 4, 5, 6, 7, 16, 17, 18], [0, 1, 2, 3, 4, 5, 6, 7, 8, 9, 16, 17, 18, 19], [0, 1, 2, 3, 4, 5, 6, 7, 8, 9, 10, 11, 16, 17, 18, 19, 20], [0, 1, 2, 3, 4, 5, 6, 7, 8, 9, 10, 11, 12, 13, 16, 17, 18, 19, 20, 21], [0, 1, 2, 3, 4, 5, 6, 7, 8, 9, 10, 11, 12, 13, 14, 15, 16, 17, 18, 19, 20, 21, 22]]) [
      ⟨(some 79), none, (.op (.indexA 1 false 8 (.tmp 2) (.dat (.lit (.int .i64 0)))))⟩,
      ⟨(some 80), none, (.op (.load 1 false (.tmp 79)))⟩,
      ⟨(some 81), none, (.op (.indexA 1 false 8 (.tmp 2) (.dat (.lit (.int .i64 1)))))⟩,
      ⟨(some 82), none, (.op (.load 1 false (.tmp 81)))⟩,
      ⟨(some 83), none, (.op (.indexA 1 false 8 (.tmp 2) (.dat (.lit (.int .i64 2)))))⟩,
      ⟨(some 84), none, (.op (.load 1 false (.tmp 83)))⟩,
      ⟨(some 85), none, (.op (.indexA 1 false 8 (.tmp 2) (.dat (.lit (.int .i64 3)))))⟩,
      ⟨(some 86), none, (.op (.load 1 false (.tmp 85)))⟩,
      ⟨(some 87), none, (.op (.indexA 1 false 8 (.tmp 2) (.dat (.lit (.int .i64 4)))))⟩,
      ⟨(some 88), none, (.op (.load 1 false (.tmp 87)))⟩,
      ⟨(some 89), none, (.op (.indexA 1 false 8 (.tmp 2) (.dat (.lit (.int .i64 5)))))⟩,
      ⟨(some 90), none, (.op (.load 1 false (.tmp 89)))⟩,
      ⟨(some 91), none, (.op (.indexA 1 false 8 (.tmp 2) (.dat (.lit (.int .i64 6)))))⟩,
      ⟨(some 92), none, (.op (.load 1 false (.tmp 91)))⟩,
      ⟨(some 93), none, (.op (.indexA 1 false 8 (.tmp 2) (.dat (.lit (.int .i64 7)))))⟩,
      ⟨(some 94), none, (.op (.load 1 false (.tmp 93)))⟩,
      ⟨(some 11), none, (.op (.mov (.tmp 80)))⟩,
      ⟨(some 12), none, (.op (.mov (.tmp 82)))⟩,
      ⟨(some 13), none, (.op (.mov (.tmp 84)))⟩,
      ⟨(some 14), none, (.op (.mov (.tmp 86)))⟩,
      ⟨(some 15), none, (.op (.mov (.tmp 88)))⟩,
      ⟨(some 16), none, (.op (.mov (.tmp 90)))⟩,
      ⟨(some 17), none, (.op (.mov (.tmp 92)))⟩,
      ⟨(some 18), none, (.op (.mov (.tmp 94)))⟩])
    (.seq (.seq (.region none [
      ⟨(some 19), none, (.op (.mov (.dat (.lit (.int .i64 0)))))⟩])
    (.block 4
      (.loop
        (.seq (.seq (.region none [
          ⟨(some 95), none, (.op (.mov (.tmp 19)))⟩,
          ⟨(some 96), none, (.op (.arith .lss (.tmp 95) (.dat (.lit (.int .i64 64)))))⟩])
        (.cond (.tmp 96)
          .skip
          (.exit 4)))
        (.seq (.block 5
          (.seq (.region (some [[], [], [1], [], [1, 2, 3], [1, 2, 3, 4], [], [1, 2, 3, 4, 6], [1, 2, 3, 4, 5, 6, 7], [0, 1, 2, 3, 4, 5, 6, 7, 8], [], [], [10, 11], [], [13], [], [13, 14, 15], [10, 11, 12, 13, 14, 15, 16], [0, 1, 2, 3, 4, 5, 6, 7, 8, 9, 10, 11, 12, 13, 14, 15, 16, 17], [], [19], [19, 20], [0, 1, 2, 3, 4, 5, 6, 7, 8, 9, 10, 11, 12, 13, 14, 15, 16, 17, 18, 19, 20, 21], [], [23], [23, 24], [0, 1, 2, 3, 4, 5, 6, 7, 8, 9, 10, 11, 12, 13, 14, 15, 16, 17, 18, 19, 20, 21, 22, 23, 24, 25], [0, 1, 2, 3, 4, 5, 6, 7, 8, 9, 10, 11, 12, 13, 14, 15, 16, 17, 18, 19, 20, 21, 22, 23, 24, 25, 26]]) [
            ⟨(some 99), none, (.op (.mov (.tmp 18)))⟩,
            ⟨(some 100), none, (.op (.mov (.tmp 15)))⟩,
            ⟨(some 101), none, (.call (.dat (.fn (.func 63) [] [])) [(.tmp 100), (.dat (.lit (.int .i64 6)))])⟩,
            ⟨(some 102), none, (.op (.mov (.tmp 15)))⟩,
            ⟨(some 103), none, (.call (.dat (.fn (.func 63) [] [])) [(.tmp 102), (.dat (.lit (.int .i64 11)))])⟩,
            ⟨(some 104), none, (.op (.arith .xor (.tmp 101) (.tmp 103)))⟩,
            ⟨(some 105), none, (.op (.mov (.tmp 15)))⟩,
            ⟨(some 106), none, (.call (.dat (.fn (.func 63) [] [])) [(.tmp 105), (.dat (.lit (.int .i64 25)))])⟩,
            ⟨(some 107), none, (.op (.arith .xor (.tmp 104) (.tmp 106)))⟩,
            ⟨(some 108), none, (.op (.arith .add (.tmp 99) (.tmp 107)))⟩,
            ⟨(some 109), none, (.op (.mov (.tmp 15)))⟩,
            ⟨(some 110), none, (.op (.mov (.tmp 16)))⟩,
            ⟨(some 111), none, (.op (.arith .and (.tmp 109) (.tmp 110)))⟩,
            ⟨(some 112), none, (.op (.mov (.tmp 15)))⟩,
            ⟨(some 113), none, (.op (.ext .ucompl [(.tmp 112)]))⟩,
            ⟨(some 114), none, (.op (.mov (.tmp 17)))⟩,
            ⟨(some 115), none, (.op (.arith .and (.tmp 113) (.tmp 114)))⟩,
            ⟨(some 116), none, (.op (.arith .xor (.tmp 111) (.tmp 115)))⟩,
            ⟨(some 117), none, (.op (.arith .add (.tmp 108) (.tmp 116)))⟩,
            ⟨(some 118), none, (.op (.mov (.tmp 19)))⟩,
            ⟨(some 119), none, (.op (.indexA 1 false 64 (.tmp 10) (.tmp 118)))⟩,
            ⟨(some 120), none, (.op (.load 1 false (.tmp 119)))⟩,
            ⟨(some 121), none, (.op (.arith .add (.tmp 117) (.tmp 120)))⟩,
            ⟨(some 122), none, (.op (.mov (.tmp 19)))⟩,
            ⟨(some 123), none, (.op (.indexA 1 false 64 (.tmp 5) (.tmp 122)))⟩,
            ⟨(some 124), none, (.op (.load 1 false (.tmp 123)))⟩,
            ⟨(some 125), none, (.op (.arith .add (.tmp 121) (.tmp 124)))⟩,
            ⟨(some 20), none, (.op (.mov (.tmp 125)))⟩])
          (.seq (.region none [
            ⟨(some 126), none, (.op (.mov (.tmp 11)))⟩,
            ⟨(some 127), none, (.call (.dat (.fn (.func 63) [] [])) [(.tmp 126), (.dat (.lit (.int .i64 2)))])⟩,
            ⟨(some 128), none, (.op (.mov (.tmp 11)))⟩,
            ⟨(some 129), none, (.call (.dat (.fn (.func 63) [] [])) [(.tmp 128), (.dat (.lit (.int .i64 13)))])⟩,
            ⟨(some 130), none, (.op (.arith .xor (.tmp 127) (.tmp 129)))⟩,
            ⟨(some 131), none, (.op (.mov (.tmp 11)))⟩,
            ⟨(some 132), none, (.call (.dat (.fn (.func 63) [] [])) [(.tmp 131), (.dat (.lit (.int .i64 22)))])⟩,
            ⟨(some 133), none, (.op (.arith .xor (.tmp 130) (.tmp 132)))⟩,
            ⟨(some 134), none, (.op (.mov (.tmp 11)))⟩,
            ⟨(some 135), none, (.op (.mov (.tmp 12)))⟩,
            ⟨(some 136), none, (.op (.arith .and (.tmp 134) (.tmp 135)))⟩,
            ⟨(some 137), none, (.op (.mov (.tmp 11)))⟩,
            ⟨(some 138), none, (.op (.mov (.tmp 13)))⟩,
            ⟨(some 139), none, (.op (.arith .and (.tmp 137) (.tmp 138)))⟩,
            ⟨(some 140), none, (.op (.arith .xor (.tmp 136) (.tmp 139)))⟩,
            ⟨(some 141), none, (.op (.mov (.tmp 12)))⟩,
            ⟨(some 142), none, (.op (.mov (.tmp 13)))⟩,
            ⟨(some 143), none, (.op (.arith .and (.tmp 141) (.tmp 142)))⟩,
            ⟨(some 144), none, (.op (.arith .xor (.tmp 140) (.tmp 143)))⟩,
            ⟨(some 145), none, (.op (.arith .add (.tmp 133) (.tmp 144)))⟩,
            ⟨(some 21), none, (.op (.mov (.tmp 145)))⟩])
          (.region none [
            ⟨(some 146), none, (.op (.mov (.tmp 17)))⟩,
            ⟨(some 147), none, (.op (.mov (.tmp 16)))⟩,
            ⟨(some 148), none, (.op (.mov (.tmp 15)))⟩,
            ⟨(some 149), none, (.op (.mov (.tmp 14)))⟩,
            ⟨(some 150), none, (.op (.mov (.tmp 20)))⟩,
            ⟨(some 151), none, (.op (.arith .add (.tmp 149) (.tmp 150)))⟩,
            ⟨(some 152), none, (.op (.mov (.tmp 13)))⟩,
            ⟨(some 153), none, (.op (.mov (.tmp 12)))⟩,
            ⟨(some 154), none, (.op (.mov (.tmp 11)))⟩,
            ⟨(some 155), none, (.op (.mov (.tmp 20)))⟩,
            ⟨(some 156), none, (.op (.mov (.tmp 21)))⟩,
            ⟨(some 157), none, (.op (.arith .add (.tmp 155) (.tmp 156)))⟩,
            ⟨(some 18), none, (.op (.mov (.tmp 146)))⟩,
            ⟨(some 17), none, (.op (.mov (.tmp 147)))⟩,
            ⟨(some 16), none, (.op (.mov (.tmp 148)))⟩,
            ⟨(some 15), none, (.op (.mov (.tmp 151)))⟩,
            ⟨(some 14), none, (.op (.mov (.tmp 152)))⟩,
            ⟨(some 13), none, (.op (.mov (.tmp 153)))⟩,
            ⟨(some 12), none, (.op (.mov (.tmp 154)))⟩,
            ⟨(some 11), none, (.op (.mov (.tmp 157)))⟩]))))
        (.region none [
          ⟨(some 97), none, (.op (.mov (.tmp 19)))⟩,
          ⟨(some 98), none, (.op (.arith .add (.tmp 97) (.dat (.lit (.int .i64 1)))))⟩,
          ⟨(some 19), none, (.op (.mov (.tmp 98)))⟩]))))))
    (.seq (.region none [
      ⟨(some 158), none, (.op (.indexA 1 false 8 (.tmp 2) (.dat (.lit (.int .i64 0)))))⟩,
      ⟨(some 159), none, (.op (.load 1 false (.tmp 158)))⟩,
      ⟨(some 160), none, (.op (.mov (.tmp 11)))⟩,
      ⟨(some 161), none, (.op (.arith .add (.tmp 159) (.tmp 160)))⟩,
      ⟨(some 162), none, (.op (.indexA 1 false 8 (.tmp 2) (.dat (.lit (.int .i64 1)))))⟩,
      ⟨(some 163), none, (.op (.load 1 false (.tmp 162)))⟩,
      ⟨(some 164), none, (.op (.mov (.tmp 12)))⟩,
      ⟨(some 165), none, (.op (.arith .add (.tmp 163) (.tmp 164)))⟩,
      ⟨(some 166), none, (.op (.indexA 1 false 8 (.tmp 2) (.dat (.lit (.int .i64 2)))))⟩,
      ⟨(some 167), none, (.op (.load 1 false (.tmp 166)))⟩,
      ⟨(some 168), none, (.op (.mov (.tmp 13)))⟩,
      ⟨(some 169), none, (.op (.arith .add (.tmp 167) (.tmp 168)))⟩,
      ⟨(some 170), none, (.op (.indexA 1 false 8 (.tmp 2) (.dat (.lit (.int .i64 3)))))⟩,
      ⟨(some 171), none, (.op (.load 1 false (.tmp 170)))⟩,
      ⟨(some 172), none, (.op (.mov (.tmp 14)))⟩,
      ⟨(some 173), none, (.op (.arith .add (.tmp 171) (.tmp 172)))⟩,
      ⟨(some 174), none, (.op (.indexA 1 false 8 (.tmp 2) (.dat (.lit (.int .i64 4)))))⟩,
      ⟨(some 175), none, (.op (.load 1 false (.tmp 174)))⟩,
      ⟨(some 176), none, (.op (.mov (.tmp 15)))⟩,
      ⟨(some 177), none, (.op (.arith .add (.tmp 175) (.tmp 176)))⟩,
      ⟨(some 178), none, (.op (.indexA 1 false 8 (.tmp 2) (.dat (.lit (.int .i64 5)))))⟩,
      ⟨(some 179), none, (.op (.load 1 false (.tmp 178)))⟩,
      ⟨(some 180), none, (.op (.mov (.tmp 16)))⟩,
      ⟨(some 181), none, (.op (.arith .add (.tmp 179) (.tmp 180)))⟩,
      ⟨(some 182), none, (.op (.indexA 1 false 8 (.tmp 2) (.dat (.lit (.int .i64 6)))))⟩,
      ⟨(some 183), none, (.op (.load 1 false (.tmp 182)))⟩,
      ⟨(some 184), none, (.op (.mov (.tmp 17)))⟩,
      ⟨(some 185), none, (.op (.arith .add (.tmp 183) (.tmp 184)))⟩,
      ⟨(some 186), none, (.op (.indexA 1 false 8 (.tmp 2) (.dat (.lit (.int .i64 7)))))⟩,
      ⟨(some 187), none, (.op (.load 1 false (.tmp 186)))⟩,
      ⟨(some 188), none, (.op (.mov (.tmp 18)))⟩,
      ⟨(some 189), none, (.op (.arith .add (.tmp 187) (.tmp 188)))⟩,
      ⟨(some 190), none, (.op (.build [.lit (.int .u32 0), .lit (.int .u32 0), .lit (.int .u32 0), .lit (.int .u32 0), .lit (.int .u32 0), .lit (.int .u32 0), .lit (.int .u32 0), .lit (.int .u32 0)] [(0, 1, (.tmp 161)), (1, 1, (.tmp 165)), (2, 1, (.tmp 169)), (3, 1, (.tmp 173)), (4, 1, (.tmp 177)), (5, 1, (.tmp 181)), (6, 1, (.tmp 185)), (7, 1, (.tmp 189))]))⟩,
      ⟨none, none, (.op (.store 8 (.tmp 4) (.tmp 190)))⟩])
    .ret))))))))
  res := [.cell 4 8 true]
theorem c57 : CmpF Tryd.prog 57 a57 := chkF_cmp (F := Tryd.f57) (by kernel_rfl) mixed (by kernel_rfl)
/-- hansard/hansardref01.Formed -/
def a58 : AF where
  nt := 52
  body := (.seq (.region none [
      ⟨(some 1), none, (.op (.box true (.tmp 0)))⟩,
      ⟨(some 2), none, (.op (.mov (.dat (.lit (.bool false)))))⟩])
    (.seq (.seq (.region none [
      ⟨(some 4), none, (.op (.field 0 1 false (.tmp 1)))⟩,
      ⟨(some 5), none, (.op (.load 1 false (.tmp 4)))⟩])
    (.block 0
      (.seq (.region none [
        ⟨(some 7), none, (.op (.arith .eql (.tmp 5) (.dat (.lit (.int .i64 1)))))⟩,
        ⟨(some 6), none, (.op (.mov (.tmp 7)))⟩])
      (.cond (.tmp 6)
        (.seq (.region none [
          ⟨(some 8), none, (.op (.field 2 1 false (.tmp 1)))⟩,
          ⟨(some 9), none, (.op (.load 1 false (.tmp 8)))⟩,
          ⟨(some 10), none, (.op (.arith .eql (.tmp 9) (.dat (.lit (.string ⟨#[]⟩)))))⟩,
          ⟨(some 11), none, (.op (.mov (.tmp 10)))⟩,
          ⟨(some 12), (some (11, true)), (.op (.field 3 1 false (.tmp 1)))⟩,
          ⟨(some 13), (some (11, true)), (.op (.load 1 false (.tmp 12)))⟩,
          ⟨(some 14), (some (11, true)), (.op (.len (.tmp 13)))⟩,
          ⟨(some 15), (some (11, true)), (.op (.arith .eql (.tmp 14) (.dat (.lit (.int .i64 0)))))⟩,
          ⟨(some 16), none, (.op (.pick (.tmp 11) (.tmp 15) (.dat (.lit (.bool false)))))⟩,
          ⟨(some 2), none, (.op (.mov (.tmp 16)))⟩])
        .ret)
        (.seq (.region none [
          ⟨(some 18), none, (.op (.arith .eql (.tmp 5) (.dat (.lit (.int .i64 2)))))⟩,
          ⟨(some 17), none, (.op (.mov (.tmp 18)))⟩])
        (.cond (.tmp 17)
          (.seq (.region none [
            ⟨(some 19), none, (.op (.field 1 1 false (.tmp 1)))⟩,
            ⟨(some 20), none, (.op (.load 1 false (.tmp 19)))⟩,
            ⟨(some 21), none, (.op (.arith .eql (.tmp 20) (.dat (.lit (.int .i64 0)))))⟩,
            ⟨(some 22), none, (.op (.mov (.tmp 21)))⟩,
            ⟨(some 23), (some (22, true)), (.op (.field 3 1 false (.tmp 1)))⟩,
            ⟨(some 24), (some (22, true)), (.op (.load 1 false (.tmp 23)))⟩,
            ⟨(some 25), (some (22, true)), (.op (.len (.tmp 24)))⟩,
            ⟨(some 26), (some (22, true)), (.op (.arith .eql (.tmp 25) (.dat (.lit (.int .i64 0)))))⟩,
            ⟨(some 27), none, (.op (.pick (.tmp 22) (.tmp 26) (.dat (.lit (.bool false)))))⟩,
            ⟨(some 2), none, (.op (.mov (.tmp 27)))⟩])
          .ret)
          (.seq (.region none [
            ⟨(some 29), none, (.op (.arith .eql (.tmp 5) (.dat (.lit (.int .i64 3)))))⟩,
            ⟨(some 28), none, (.op (.mov (.tmp 29)))⟩])
          (.cond (.tmp 28)
            (.seq (.seq (.region none [
              ⟨(some 3), none, (.op (.mov (.dat (.lit (.int .i64 0)))))⟩])
            (.block 1
              (.loop
                (.seq (.seq (.region none [
                  ⟨(some 30), none, (.op (.mov (.tmp 3)))⟩,
                  ⟨(some 31), none, (.op (.field 3 1 false (.tmp 1)))⟩,
                  ⟨(some 32), none, (.op (.load 1 false (.tmp 31)))⟩,
                  ⟨(some 33), none, (.op (.len (.tmp 32)))⟩,
                  ⟨(some 34), none, (.op (.arith .lss (.tmp 30) (.tmp 33)))⟩])
                (.cond (.tmp 34)
                  .skip
                  (.exit 1)))
                (.seq (.block 2
                  (.seq (.region none [
                    ⟨(some 37), none, (.op (.field 3 1 false (.tmp 1)))⟩,
                    ⟨(some 38), none, (.op (.load 1 false (.tmp 37)))⟩,
                    ⟨(some 39), none, (.op (.mov (.tmp 3)))⟩,
                    ⟨(some 40), none, (.op (.index 4 (.tmp 38) (.tmp 39)))⟩,
                    ⟨(some 41), none, (.op (.load 4 true (.tmp 40)))⟩,
                    ⟨(some 42), none, (.call (.dat (.fn (.func 58) [] [])) [(.tmp 41)])⟩,
                    ⟨(some 43), none, (.op (.not (.tmp 42)))⟩])
                  (.cond (.tmp 43)
                    (.seq (.region none [
                      ⟨(some 2), none, (.op (.mov (.dat (.lit (.bool false)))))⟩])
                    .ret)
                    .skip)))
                (.region none [
                  ⟨(some 35), none, (.op (.mov (.tmp 3)))⟩,
                  ⟨(some 36), none, (.op (.arith .add (.tmp 35) (.dat (.lit (.int .i64 1)))))⟩,
                  ⟨(some 3), none, (.op (.mov (.tmp 36)))⟩]))))))
            (.seq (.region none [
              ⟨(some 44), none, (.op (.field 1 1 false (.tmp 1)))⟩,
              ⟨(some 45), none, (.op (.load 1 false (.tmp 44)))⟩,
              ⟨(some 46), none, (.op (.arith .eql (.tmp 45) (.dat (.lit (.int .i64 0)))))⟩,
              ⟨(some 47), none, (.op (.mov (.tmp 46)))⟩,
              ⟨(some 48), (some (47, true)), (.op (.field 2 1 false (.tmp 1)))⟩,
              ⟨(some 49), (some (47, true)), (.op (.load 1 false (.tmp 48)))⟩,
              ⟨(some 50), (some (47, true)), (.op (.arith .eql (.tmp 49) (.dat (.lit (.string ⟨#[]⟩)))))⟩,
              ⟨(some 51), none, (.op (.pick (.tmp 47) (.tmp 50) (.dat (.lit (.bool false)))))⟩,
              ⟨(some 2), none, (.op (.mov (.tmp 51)))⟩])
            .ret))
            .skip))))))))
    (.seq (.region none [
      ⟨(some 2), none, (.op (.mov (.dat (.lit (.bool false)))))⟩])
    .ret)))
  res := [.tmp 2]
theorem c58 : CmpF Tryd.prog 58 a58 := chkF_cmp (F := Tryd.f58) (by kernel_rfl) mixed (by kernel_rfl)
/-- hansard/hansardref01.Depth -/
def a59 : AF where
  nt := 25
  body := (.seq (.region none [
      ⟨(some 1), none, (.op (.box true (.tmp 0)))⟩,
      ⟨(some 2), none, (.op (.mov (.dat (.lit (.int .i64 0)))))⟩])
    (.seq (.seq (.region none [
      ⟨(some 5), none, (.op (.field 0 1 false (.tmp 1)))⟩,
      ⟨(some 6), none, (.op (.load 1 false (.tmp 5)))⟩,
      ⟨(some 7), none, (.op (.arith .neq (.tmp 6) (.dat (.lit (.int .i64 3)))))⟩])
    (.cond (.tmp 7)
      (.seq (.region none [
        ⟨(some 2), none, (.op (.mov (.dat (.lit (.int .i64 0)))))⟩])
      .ret)
      .skip))
    (.seq (.region none [
      ⟨(some 3), none, (.op (.mov (.dat (.lit (.int .i64 0)))))⟩])
    (.seq (.seq (.region none [
      ⟨(some 4), none, (.op (.mov (.dat (.lit (.int .i64 0)))))⟩])
    (.block 0
      (.loop
        (.seq (.seq (.region none [
          ⟨(some 8), none, (.op (.mov (.tmp 4)))⟩,
          ⟨(some 9), none, (.op (.field 3 1 false (.tmp 1)))⟩,
          ⟨(some 10), none, (.op (.load 1 false (.tmp 9)))⟩,
          ⟨(some 11), none, (.op (.len (.tmp 10)))⟩,
          ⟨(some 12), none, (.op (.arith .lss (.tmp 8) (.tmp 11)))⟩])
        (.cond (.tmp 12)
          .skip
          (.exit 0)))
        (.seq (.block 1
          (.region none [
            ⟨(some 15), none, (.op (.mov (.tmp 3)))⟩,
            ⟨(some 16), none, (.op (.field 3 1 false (.tmp 1)))⟩,
            ⟨(some 17), none, (.op (.load 1 false (.tmp 16)))⟩,
            ⟨(some 18), none, (.op (.mov (.tmp 4)))⟩,
            ⟨(some 19), none, (.op (.index 4 (.tmp 17) (.tmp 18)))⟩,
            ⟨(some 20), none, (.op (.load 4 true (.tmp 19)))⟩,
            ⟨(some 21), none, (.call (.dat (.fn (.func 59) [] [])) [(.tmp 20)])⟩,
            ⟨(some 22), none, (.op (.minmax true (.tmp 15) (.tmp 21)))⟩,
            ⟨(some 3), none, (.op (.mov (.tmp 22)))⟩]))
        (.region none [
          ⟨(some 13), none, (.op (.mov (.tmp 4)))⟩,
          ⟨(some 14), none, (.op (.arith .add (.tmp 13) (.dat (.lit (.int .i64 1)))))⟩,
          ⟨(some 4), none, (.op (.mov (.tmp 14)))⟩]))))))
    (.seq (.region none [
      ⟨(some 23), none, (.op (.mov (.tmp 3)))⟩,
      ⟨(some 24), none, (.op (.arith .add (.tmp 23) (.dat (.lit (.int .i64 1)))))⟩,
      ⟨(some 2), none, (.op (.mov (.tmp 24)))⟩])
    .ret)))))
  res := [.tmp 2]
theorem c59 : CmpF Tryd.prog 59 a59 := chkF_cmp (F := Tryd.f59) (by kernel_rfl) mixed (by kernel_rfl)
/-- hansard/hansardref01.numeral -/
def a60 : AF where
  nt := 17
  body := (.seq (.region none [
      ⟨(some 2), none, (.op (.mov (.dat (.nil 1))))⟩])
    (.seq (.seq (.region none [
      ⟨(some 3), none, (.op (.mov (.tmp 0)))⟩,
      ⟨(some 4), none, (.op (.arith .lss (.tmp 3) (.dat (.lit (.int .u64 128)))))⟩])
    (.cond (.tmp 4)
      (.seq (.region none [
        ⟨(some 5), none, (.op (.mov (.tmp 0)))⟩,
        ⟨(some 6), none, (.op (.conv .u8 (.tmp 5)))⟩,
        ⟨(some 7), none, (.op (.mkslice 1 [(.tmp 6)]))⟩,
        ⟨(some 2), none, (.op (.mov (.tmp 7)))⟩])
      .ret)
      .skip))
    (.seq (.region none [
      ⟨(some 8), none, (.op (.mov (.tmp 0)))⟩,
      ⟨(some 9), none, (.op (.arith .rem (.tmp 8) (.dat (.lit (.int .u64 128)))))⟩,
      ⟨(some 10), none, (.op (.arith .add (.tmp 9) (.dat (.lit (.int .u64 128)))))⟩,
      ⟨(some 11), none, (.op (.conv .u8 (.tmp 10)))⟩,
      ⟨(some 12), none, (.op (.mkslice 1 [(.tmp 11)]))⟩,
      ⟨(some 13), none, (.op (.mov (.tmp 0)))⟩,
      ⟨(some 14), none, (.op (.arith .quo (.tmp 13) (.dat (.lit (.int .u64 128)))))⟩,
      ⟨(some 15), none, (.call (.dat (.fn (.func 60) [] [])) [(.tmp 14)])⟩,
      ⟨(some 16), none, (.op (.append 1 1 (.tmp 12) (.tmp 15)))⟩,
      ⟨(some 2), none, (.op (.mov (.tmp 16)))⟩])
    .ret)))
  res := [.tmp 2]
theorem c60 : CmpF Tryd.prog 60 a60 := chkF_cmp (F := Tryd.f60) (by kernel_rfl) mixed (by kernel_rfl)
/-- hansard/hansardref01.unsigned -/
def a61 : AF where
  nt := 14
  body := (.seq (.region none [
      ⟨(some 2), none, (.op (.mov (.dat (.lit (.int .u64 0)))))⟩])
    (.seq (.seq (.region none [
      ⟨(some 3), none, (.op (.mov (.tmp 0)))⟩,
      ⟨(some 4), none, (.op (.arith .geq (.tmp 3) (.dat (.lit (.int .i64 0)))))⟩])
    (.cond (.tmp 4)
      (.seq (.region none [
        ⟨(some 5), none, (.op (.mov (.tmp 0)))⟩,
        ⟨(some 6), none, (.op (.conv .u64 (.tmp 5)))⟩,
        ⟨(some 7), none, (.op (.arith .mul (.dat (.lit (.int .u64 2))) (.tmp 6)))⟩,
        ⟨(some 2), none, (.op (.mov (.tmp 7)))⟩])
      .ret)
      .skip))
    (.seq (.region none [
      ⟨(some 8), none, (.op (.mov (.tmp 0)))⟩,
      ⟨(some 9), none, (.op (.arith .add (.tmp 8) (.dat (.lit (.int .i64 1)))))⟩,
      ⟨(some 10), none, (.op (.ext .uneg [(.tmp 9)]))⟩,
      ⟨(some 11), none, (.op (.conv .u64 (.tmp 10)))⟩,
      ⟨(some 12), none, (.op (.arith .mul (.dat (.lit (.int .u64 2))) (.tmp 11)))⟩,
      ⟨(some 13), none, (.op (.arith .add (.tmp 12) (.dat (.lit (.int .u64 1)))))⟩,
      ⟨(some 2), none, (.op (.mov (.tmp 13)))⟩])
    .ret)))
  res := [.tmp 2]
theorem c61 : CmpF Tryd.prog 61 a61 := chkF_cmp (F := Tryd.f61) (by kernel_rfl) mixed (by kernel_rfl)
/-- hansard/hansardref02.word -/
def a62 : AF where
  nt := 25
  body := (.seq (.region none [
      ⟨(some 2), none, (.op (.mov (.dat (.lit (.int .u32 0)))))⟩])
    (.seq (.region (some [[], [0], [0, 1], [0, 1, 2], [0, 1, 2, 3], [], [5], [5, 6], [5, 6, 7], [5, 6, 7, 8], [0, 1, 2, 3, 4, 5, 6, 7, 8, 9], [], [11], [11, 12], [11, 12, 13], [11, 12, 13, 14], [0, 1, 2, 3, 4, 5, 6, 7, 8, 9, 10, 11, 12, 13, 14, 15], [], [17], [17, 18], [17, 18, 19], [0, 1, 2, 3, 4, 5, 6, 7, 8, 9, 10, 11, 12, 13, 14, 15, 16, 17, 18, 19, 20], [0, 1, 2, 3, 4, 5, 6, 7, 8, 9, 10, 11, 12, 13, 14, 15, 16, 17, 18, 19, 20, 21]]) [
      ⟨(some 3), none, (.op (.mov (.tmp 0)))⟩,
      ⟨(some 4), none, (.op (.index 1 (.tmp 3) (.dat (.lit (.int .i64 0)))))⟩,
      ⟨(some 5), none, (.op (.load 1 false (.tmp 4)))⟩,
      ⟨(some 6), none, (.op (.conv .u32 (.tmp 5)))⟩,
      ⟨(some 7), none, (.op (.ext (.shift true) [(.tmp 6), (.dat (.lit (.int .u64 24)))]))⟩,
      ⟨(some 8), none, (.op (.mov (.tmp 0)))⟩,
      ⟨(some 9), none, (.op (.index 1 (.tmp 8) (.dat (.lit (.int .i64 1)))))⟩,
      ⟨(some 10), none, (.op (.load 1 false (.tmp 9)))⟩,
      ⟨(some 11), none, (.op (.conv .u32 (.tmp 10)))⟩,
      ⟨(some 12), none, (.op (.ext (.shift true) [(.tmp 11), (.dat (.lit (.int .u64 16)))]))⟩,
      ⟨(some 13), none, (.op (.arith .or (.tmp 7) (.tmp 12)))⟩,
      ⟨(some 14), none, (.op (.mov (.tmp 0)))⟩,
      ⟨(some 15), none, (.op (.index 1 (.tmp 14) (.dat (.lit (.int .i64 2)))))⟩,
      ⟨(some 16), none, (.op (.load 1 false (.tmp 15)))⟩,
      ⟨(some 17), none, (.op (.conv .u32 (.tmp 16)))⟩,
      ⟨(some 18), none, (.op (.ext (.shift true) [(.tmp 17), (.dat (.lit (.int .u64 8)))]))⟩,
      ⟨(some 19), none, (.op (.arith .or (.tmp 13) (.tmp 18)))⟩,
      ⟨(some 20), none, (.op (.mov (.tmp 0)))⟩,
      ⟨(some 21), none, (.op (.index 1 (.tmp 20) (.dat (.lit (.int .i64 3)))))⟩,
      ⟨(some 22), none, (.op (.load 1 false (.tmp 21)))⟩,
      ⟨(some 23), none, (.op (.conv .u32 (.tmp 22)))⟩,
      ⟨(some 24), none, (.op (.arith .or (.tmp 19) (.tmp 23)))⟩,
      ⟨(some 2), none, (.op (.mov (.tmp 24)))⟩])
    .ret))
  res := [.tmp 2]
theorem c62 : CmpF Tryd.prog 62 a62 := chkF_cmp (F := Tryd.f62) (by kernel_rfl) mixed (by kernel_rfl)
/-- hansard/hansardref02.ror -/
def a63 : AF where
  nt := 13
  body := (.seq (.region none [
      ⟨(some 4), none, (.op (.mov (.dat (.lit (.int .u32 0)))))⟩])
    (.seq (.region (some [[], [], [0, 1], [], [], [4], [3, 4, 5], [0, 1, 2, 3, 4, 5, 6], [0, 1, 2, 3, 4, 5, 6, 7]]) [
      ⟨(some 5), none, (.op (.mov (.tmp 0)))⟩,
      ⟨(some 6), none, (.op (.mov (.tmp 1)))⟩,
      ⟨(some 7), none, (.op (.ext (.shift false) [(.tmp 5), (.tmp 6)]))⟩,
      ⟨(some 8), none, (.op (.mov (.tmp 0)))⟩,
      ⟨(some 9), none, (.op (.mov (.tmp 1)))⟩,
      ⟨(some 10), none, (.op (.arith .sub (.dat (.lit (.int .i64 32))) (.tmp 9)))⟩,
      ⟨(some 11), none, (.op (.ext (.shift true) [(.tmp 8), (.tmp 10)]))⟩,
      ⟨(some 12), none, (.op (.arith .or (.tmp 7) (.tmp 11)))⟩,
      ⟨(some 4), none, (.op (.mov (.tmp 12)))⟩])
    .ret))
  res := [.tmp 4]
theorem c63 : CmpF Tryd.prog 63 a63 := chkF_cmp (F := Tryd.f63) (by kernel_rfl) mixed (by kernel_rfl)
/-- hansard/hansardref02.numbers -/
def a64 : AF where
  nt := 2
  body := (.seq (.region none [
      ⟨(some 0), none, (.op (.alloc true [.lit (.int .u32 0), .lit (.int .u32 0), .lit (.int .u32 0), .lit (.int .u32 0), .lit (.int .u32 0), .lit (.int .u32 0), .lit (.int .u32 0), .lit (.int .u32 0), .lit (.int .u32 0), .lit (.int .u32 0), .lit (.int .u32 0), .lit (.int .u32 0), .lit (.int .u32 0), .lit (.int .u32 0), .lit (.int .u32 0), .lit (.int .u32 0), .lit (.int .u32 0), .lit (.int .u32 0), .lit (.int .u32 0), .lit (.int .u32 0), .lit (.int .u32 0), .lit (.int .u32 0), .lit (.int .u32 0), .lit (.int .u32 0), .lit (.int .u32 0), .lit (.int .u32 0), .lit (.int .u32 0), .lit (.int .u32 0), .lit (.int .u32 0), .lit (.int .u32 0), .lit (.int .u32 0), .lit (.int .u32 0), .lit (.int .u32 0), .lit (.int .u32 0), .lit (.int .u32 0), .lit (.int .u32 0), .lit (.int .u32 0), .lit (.int .u32 0), .lit (.int .u32 0), .lit (.int .u32 0), .lit (.int .u32 0), .lit (.int .u32 0), .lit (.int .u32 0), .lit (.int .u32 0), .lit (.int .u32 0), .lit (.int .u32 0), .lit (.int .u32 0), .lit (.int .u32 0), .lit (.int .u32 0), .lit (.int .u32 0), .lit (.int .u32 0), .lit (.int .u32 0), .lit (.int .u32 0), .lit (.int .u32 0), .lit (.int .u32 0), .lit (.int .u32 0), .lit (.int .u32 0), .lit (.int .u32 0), .lit (.int .u32 0), .lit (.int .u32 0), .lit (.int .u32 0), .lit (.int .u32 0), .lit (.int .u32 0), .lit (.int .u32 0)]))⟩])
    (.seq (.region none [
      ⟨(some 1), none, (.op (.build [.lit (.int .u32 0), .lit (.int .u32 0), .lit (.int .u32 0), .lit (.int .u32 0), .lit (.int .u32 0), .lit (.int .u32 0), .lit (.int .u32 0), .lit (.int .u32 0), .lit (.int .u32 0), .lit (.int .u32 0), .lit (.int .u32 0), .lit (.int .u32 0), .lit (.int .u32 0), .lit (.int .u32 0), .lit (.int .u32 0), .lit (.int .u32 0), .lit (.int .u32 0), .lit (.int .u32 0), .lit (.int .u32 0), .lit (.int .u32 0), .lit (.int .u32 0), .lit (.int .u32 0), .lit (.int .u32 0), .lit (.int .u32 0), .lit (.int .u32 0), .lit (.int .u32 0), .lit (.int .u32 0), .lit (.int .u32 0), .lit (.int .u32 0), .lit (.int .u32 0), .lit (.int .u32 0), .lit (.int .u32 0), .lit (.int .u32 0), .lit (.int .u32 0), .lit (.int .u32 0), .lit (.int .u32 0), .lit (.int .u32 0), .lit (.int .u32 0), .lit (.int .u32 0), .lit (.int .u32 0), .lit (.int .u32 0), .lit (.int .u32 0), .lit (.int .u32 0), .lit (.int .u32 0), .lit (.int .u32 0), .lit (.int .u32 0), .lit (.int .u32 0), .lit (.int .u32 0), .lit (.int .u32 0), .lit (.int .u32 0), .lit (.int .u32 0), .lit (.int .u32 0), .lit (.int .u32 0), .lit (.int .u32 0), .lit (.int .u32 0), .lit (.int .u32 0), .lit (.int .u32 0), .lit (.int .u32 0), .lit (.int .u32 0), .lit (.int .u32 0), .lit (.int .u32 0), .lit (.int .u32 0), .lit (.int .u32 0), .lit (.int .u32 0)] [(0, 1, (.dat (.lit (.int .u32 1116352408)))), (1, 1, (.dat (.lit (.int .u32 1899447441)))), (2, 1, (.dat (.lit (.int .u32 3049323471)))), (3, 1, (.dat (.lit (.int .u32 3921009573)))), (4, 1, (.dat (.lit (.int .u32 961987163)))), (5, 1, (.dat (.lit (.int .u32 1508970993)))), (6, 1, (.dat (.lit (.int .u32 2453635748)))), (7, 1, (.dat (.lit (.int .u32 2870763221)))), (8, 1, (.dat (.lit (.int .u32 3624381080)))), (9, 1, (.dat (.lit (.int .u32 310598401)))), (10, 1, (.dat (.lit (.int .u32 607225278)))), (11, 1, (.dat (.lit (.int .u32 1426881987)))), (12, 1, (.dat (.lit (.int .u32 1925078388)))), (13, 1, (.dat (.lit (.int .u32 2162078206)))), (14, 1, (.dat (.lit (.int .u32 2614888103)))), (15, 1, (.dat (.lit (.int .u32 3248222580)))), (16, 1, (.dat (.lit (.int .u32 3835390401)))), (17, 1, (.dat (.lit (.int .u32 4022224774)))), (18, 1, (.dat (.lit (.int .u32 264347078)))), (19, 1, (.dat (.lit (.int .u32 604807628)))), (20, 1, (.dat (.lit (.int .u32 770255983)))), (21, 1, (.dat (.lit (.int .u32 1249150122)))), (22, 1, (.dat (.lit (.int .u32 1555081692)))), (23, 1, (.dat (.lit (.int .u32 1996064986)))), (24, 1, (.dat (.lit (.int .u32 2554220882)))), (25, 1, (.dat (.lit (.int .u32 2821834349)))), (26, 1, (.dat (.lit (.int .u32 2952996808)))), (27, 1, (.dat (.lit (.int .u32 3210313671)))), (28, 1, (.dat (.lit (.int .u32 3336571891)))), (29, 1, (.dat (.lit (.int .u32 3584528711)))), (30, 1, (.dat (.lit (.int .u32 113926993)))), (31, 1, (.dat (.lit (.int .u32 338241895)))), (32, 1, (.dat (.lit (.int .u32 666307205)))), (33, 1, (.dat (.lit (.int .u32 773529912)))), (34, 1, (.dat (.lit (.int .u32 1294757372)))), (35, 1, (.dat (.lit (.int .u32 1396182291)))), (36, 1, (.dat (.lit (.int .u32 1695183700)))), (37, 1, (.dat (.lit (.int .u32 1986661051)))), (38, 1, (.dat (.lit (.int .u32 2177026350)))), (39, 1, (.dat (.lit (.int .u32 2456956037)))), (40, 1, (.dat (.lit (.int .u32 2730485921)))), (41, 1, (.dat (.lit (.int .u32 2820302411)))), (42, 1, (.dat (.lit (.int .u32 3259730800)))), (43, 1, (.dat (.lit (.int .u32 3345764771)))), (44, 1, (.dat (.lit (.int .u32 3516065817)))), (45, 1, (.dat (.lit (.int .u32 3600352804)))), (46, 1, (.dat (.lit (.int .u32 4094571909)))), (47, 1, (.dat (.lit (.int .u32 275423344)))), (48, 1, (.dat (.lit (.int .u32 430227734)))), (49, 1, (.dat (.lit (.int .u32 506948616)))), (50, 1, (.dat (.lit (.int .u32 659060556)))), (51, 1, (.dat (.lit (.int .u32 883997877)))), (52, 1, (.dat (.lit (.int .u32 958139571)))), (53, 1, (.dat (.lit (.int .u32 1322822218)))), (54, 1, (.dat (.lit (.int .u32 1537002063)))), (55, 1, (.dat (.lit (.int .u32 1747873779)))), (56, 1, (.dat (.lit (.int .u32 1955562222)))), (57, 1, (.dat (.lit (.int .u32 2024104815)))), (58, 1, (.dat (.lit (.int .u32 2227730452)))), (59, 1, (.dat (.lit (.int .u32 2361852424)))), (60, 1, (.dat (.lit (.int .u32 2428436474)))), (61, 1, (.dat (.lit (.int .u32 2756734187)))), (62, 1, (.dat (.lit (.int .u32 3204031479)))), (63, 1, (.dat (.lit (.int .u32 3329325298))))]))⟩,
      ⟨none, none, (.op (.store 64 (.tmp 0) (.tmp 1)))⟩])
    .ret))
  res := [.cell 0 64 true]
theorem c64 : CmpF Tryd.prog 64 a64 := chkF_cmp (F := Tryd.f64) (by kernel_rfl) mixed (by kernel_rfl)
end Go.Proofs.YtfegfnekphobmaaDoor
end

section
namespace Go.Proofs.YtfegfnekphobmaaDoor
open Go Go.Proofs.YtfegfnekphobmaaDoor.AL
/-! Bytes and values of the codec. -/
def bz (b : List UInt8) : ByteArray := ⟨b.toArray⟩
def dZ (b : List UInt8) : D := .lit (.string (bz b))
def dBy (b : List UInt8) : D := .sl 1 (b.map dU)
theorem bz_size (b : List UInt8) : (bz b).size = b.length := by simp [ByteArray.size, bz]
theorem bz_data (b : List UInt8) : (bz b).data.toList = b := by simp [bz]
theorem bz_toList (b : List UInt8) : (bz b).toList = b := by rw [ByteArray.toList_eq, bz_data]
theorem bz_inj {a b : List UInt8} : bz a = bz b ↔ a = b := ⟨fun h => by have := congrArg (fun x => x.data.toList) h; simpa [bz] using this, fun h => by rw [h]⟩
theorem dZ_cells (x : List UInt8) : (dZ x).cells = [dZ x] := rfl
theorem dZ_one (x : List UInt8) : (dZ x).one = true := rfl
theorem dZ_nt (b : List UInt8) (ds : List D) : (dZ b = .tup ds) = False := by simp [dZ]
theorem dZ_noTup (x : List UInt8) : (AV.d (dZ x)).noTup = true := rfl
theorem dZ_agg (x : List UInt8) : (dZ x).isAgg = false := rfl
theorem dZ_eq (b : List UInt8) : dZ b = .lit (.string (bz b)) := rfl
theorem strD_bz (b : List UInt8) : strD (bz b) = b.map dU := by simp [strD, bz, dU]
theorem dZ_nil : (D.lit (.string ⟨#[]⟩)) = dZ [] := rfl
theorem bytesOf_map (b : List UInt8) : bytesOf (b.map dU) = bz b := by
  unfold bytesOf strOfNums bz
  congr 1
  apply Array.ext'
  simp only [List.map_map]
  rw [List.map_congr_left (g := id)]
  · simp
  · intro x _
    simp [dU, D.num]
inductive Vl where
  | mk (k n : Int) (s : List UInt8) (l : List Vl)
  deriving Inhabited
def Vl.k : Vl → Int | .mk k _ _ _ => k
def Vl.n : Vl → Int | .mk _ n _ _ => n
def Vl.s : Vl → List UInt8 | .mk _ _ s _ => s
def Vl.l : Vl → List Vl | .mk _ _ _ l => l
mutual
def dV : Vl → D
  | .mk k n s l => .agg [dI k, dI n, dZ s, .sl 4 (dVs l)]
def dVs : List Vl → List D
  | [] => []
  | v :: r => dV v :: dVs r
end
theorem dVs_map : ∀ l : List Vl, dVs l = l.map dV
  | [] => by simp [dVs]
  | v :: r => by simp [dVs, dVs_map r]
theorem dV_eq (k n : Int) (s : List UInt8) (l : List Vl) : dV (.mk k n s l) = .agg [dI k, dI n, dZ s, .sl 4 (l.map dV)] := by rw [dV, dVs_map]
theorem dV_cells (v : Vl) : (dV v).cells = [dI v.k, dI v.n, dZ v.s, .sl 4 (v.l.map dV)] := by cases v; rw [dV_eq]; rfl
theorem dV_isAgg (v : Vl) : (dV v).isAgg = true := by cases v; rw [dV_eq]; rfl
theorem dV_noTup (v : Vl) : (AV.d (dV v)).noTup = true := by cases v; rw [dV_eq]; rfl
theorem dV_nt (v : Vl) (ds : List D) : (dV v = .tup ds) = False := by cases v; rw [dV_eq]; simp
theorem dV_agg (v : Vl) : dV v = .agg [dI v.k, dI v.n, dZ v.s, .sl 4 (v.l.map dV)] := by cases v; rw [dV_eq]; rfl
mutual
def okV : Vl → Bool
  | .mk k n s l => (k == 1 && s.isEmpty && l.isEmpty) || (k == 2 && n == 0 && l.isEmpty) || (k == 3 && n == 0 && s.isEmpty && okVs l)
def okVs : List Vl → Bool
  | [] => true
  | v :: r => okV v && okVs r
end
mutual
def dpV : Vl → Nat
  | .mk k _ _ l => if k = 3 then dpVs l + 1 else 0
def dpVs : List Vl → Nat
  | [] => 0
  | v :: r => max (dpV v) (dpVs r)
end
def numL (u : Nat) : List UInt8 := if u < 128 then [UInt8.ofNat u] else UInt8.ofNat (u % 128 + 128) :: numL (u / 128)
def zz (n : Int) : Nat := if 0 ≤ n then (2 * n).toNat else (-(2 * n) - 1).toNat
mutual
def encV : Vl → List UInt8
  | .mk k n s l => if k = 1 then 1 :: numL (zz n) else if k = 2 then 2 :: (numL s.length ++ s) else 3 :: (numL l.length ++ encVs l)
def encVs : List Vl → List UInt8
  | [] => []
  | v :: r => encV v ++ encVs r
end
/-- What Check answers. -/
def eV (v : Vl) : Int := if okV v = true then (if dpV v ≤ 16 then 0 else 2) else 1
theorem okVs_all : ∀ l : List Vl, okVs l = l.all okV
  | [] => by simp [okVs]
  | v :: r => by simp [okVs, okVs_all r]
theorem dpVs_le : ∀ (l : List Vl) (v : Vl), v ∈ l → dpV v ≤ dpVs l
  | x :: r, v, h => by
    rw [dpVs]
    rcases List.mem_cons.1 h with rfl | h
    · omega
    · have := dpVs_le r v h; omega
theorem numL_length : ∀ (k u : Nat), u < 128 ^ k → 0 < k → (numL u).length ≤ k
  | 0, _, _, h => by omega
  | k + 1, u, h, _ => by
    rw [numL]
    split
    · simp
    · rcases Nat.eq_zero_or_pos k with rfl | hk
      · simp at h; omega
      · have := numL_length k (u / 128) (by rw [Nat.pow_succ] at h; omega) hk
        simp; omega
theorem encVs_append : ∀ (a b : List Vl), encVs (a ++ b) = encVs a ++ encVs b
  | [], b => by simp [encVs]
  | v :: r, b => by simp [encVs, encVs_append r b]
theorem encVs_take (l : List Vl) (i : Nat) (h : i < l.length) : encVs (l.take (i + 1)) = encVs (l.take i) ++ encV l[i] := by
  rw [← List.take_append_getElem h, encVs_append]; simp [encVs]
theorem encVs_le (l : List Vl) (i : Nat) : (encVs (l.take i)).length ≤ (encVs l).length := by
  conv => rhs; rw [← List.take_append_drop i l, encVs_append, List.length_append]
  omega
end Go.Proofs.YtfegfnekphobmaaDoor
end

section
namespace Go.Proofs.YtfegfnekphobmaaDoor
open Go Go.Proofs.YtfegfnekphobmaaDoor.AL
attribute [local simp] dZ_agg dZ_nt dZ_noTup dZ_cells dZ_one bz_toList bz_size strV dV_cells dV_isAgg dV_noTup dV_nt
set_option maxRecDepth 8000
set_option maxHeartbeats 4000000
theorem empty_toList : (ByteArray.mk #[]).toList = [] := by rw [ByteArray.toList_eq]
attribute [local simp] empty_toList
/-- What formed says. -/
def fV (v : Vl) : D := .tup [dI (if okV v = true then dpV v else 0), dB (okV v)]
inductive C301 (l : List Vl) : FuncId → List D → Out → Prop
  | sub (v : Vl) (h : v ∈ l) : C301 l 45 [dV v] (.ret (fV v))
theorem okVs_take (l : List Vl) (i : Nat) (h : i < l.length) : okVs (l.take (i + 1)) = (okVs (l.take i) && okV l[i]) := by
  rw [okVs_all, okVs_all, ← List.take_append_getElem h, List.all_append]; simp
theorem dpVs_take : ∀ (l : List Vl) (i : Nat) (h : i < l.length), dpVs (l.take (i + 1)) = max (dpVs (l.take i)) (dpV l[i])
  | v :: r, 0, _ => by simp [dpVs]
  | v :: r, i + 1, h => by
    have := dpVs_take r i (by simpa using h)
    simp only [List.take_succ_cons, dpVs, this, List.getElem_cons_succ]
    omega
theorem okV3 (l : List Vl) : okV (.mk 3 0 [] l) = okVs l := by simp [okV]
theorem dpV3 (n : Int) (s : List UInt8) (l : List Vl) : dpV (.mk 3 n s l) = dpVs l + 1 := by simp [dpV]
theorem okVs_bad {l : List Vl} {i : Nat} (h : i < l.length) (hb : okV l[i] = false) : okVs l = false := by
  rw [okVs_all, List.all_eq_false]
  exact ⟨l[i], List.getElem_mem h, by simp [hb]⟩
theorem formed_step (k n : Int) (s : List UInt8) (l : List Vl) (hd : k = 3 → dpVs l < 4611686018427387904) {C : FuncId → List D → Out → Prop} (hC : ∀ f ds out, C f ds out → PCall Tryd.prog f ds out) (hS : k = 3 → ∀ v ∈ l, C 45 [dV v] (.ret (fV v))) : PCall Tryd.prog 45 [dV (.mk k n s l)] (.ret (fV (.mk k n s l))) := by
  refine pcall_of_vc hC c45 (by simp [a45]) fun hr => ?_
  have hlen := ((hr _ (List.mem_singleton.2 rfl)))
  rw [dV_eq] at hlen
  have hlen := (Real.sl (hlen.agg (.sl 4 (l.map dV)) (by simp)).2).1
  simp only [List.length_map] at hlen
  simp [a45, dV_eq, dZ_eq]
  refine vc_path [] ?_
  by_cases h3 : k = 3 ∧ n = 0 ∧ s = []
  · obtain ⟨rfl, rfl, rfl⟩ := h3
    have hd := hd rfl
    simp
    refine vc_path [] ?_
    simp
    refine vc_loopK [55, 56] Nat (fun i => [(57, true, .d (dI i)), (2, true, .d (dI (dpVs (l.take i))))]) (fun i => []) (fun i => i ≤ l.length ∧ okVs (l.take i) = true) (fun i => l.length - i) 0 (by simp [okVs]) ⟨[], [], ?_⟩ (fun i hi => ?_)
    · simp [dpVs]
    obtain ⟨h1, h2⟩ := hi
    simp
    refine ⟨fun hlt => ?_, fun hge => ?_⟩
    · simp [hlt]
      have hc := hS rfl l[i] (List.getElem_mem hlt)
      have ho := okVs_take l i hlt
      have hp := dpVs_take l i hlt
      rw [h2, Bool.true_and] at ho
      unfold fV at hc
      cases hv : okV l[i] with
      | false =>
        rw [hv] at hc
        refine vc_path [.ret (.tup [dI 0, dB false])] ?_
        simp
        refine ⟨by rw [dV_agg] at hc; simpa using hc, ?_⟩
        unfold fV
        rw [okV3, okVs_bad hlt hv]
        simp
      | true => 
        rw [hv] at hc
        simp only [if_true] at hc
        generalize hm : dpV l[i] = m at hc hp
        refine vc_path [.ret (.tup [dI m, dB true])] ?_
        have hm2 : m ≤ dpVs l := by rw [← hm]; exact dpVs_le l _ (List.getElem_mem hlt)
        have hw : IntKind.i64.wrap ((i : Int) + 1) = ((i + 1 : Nat) : Int) := by rw [wrap64 (by omega)]; omega
        have hmx : (if dpVs (l.take i) < m then (m : Int) else (dpVs (l.take i) : Int)) = ((dpVs (l.take (i + 1)) : Nat) : Int) := by
          rw [hp]; split <;> omega
        simp [hw, hmx]
        refine ⟨by rw [dV_agg] at hc; simpa using hc, i + 1, ⟨by omega, by rw [ho, hv]⟩, by omega, [], [], ?_⟩
        simp
    · have hi : i = l.length := by omega
      subst hi
      rw [List.take_length] at h2 ⊢
      unfold fV
      rw [okV3, h2, dpV3]
      have hw : IntKind.i64.wrap ((dpVs l : Int) + 1) = ((dpVs l + 1 : Nat) : Int) := by rw [wrap64 (by omega)]; omega
      simp [hw]
  have hk : k = 1 ∨ k = 2 ∨ k = 3 ∨ (k < 1 ∨ k > 3) := by omega
  have hbad : okV (.mk k n s l) = false → leA noRen noNew noOk 3 (AV.tup [AV.d (D.lit (Value.int IntKind.i64 0)), AV.d (D.lit (Value.bool false))]) (AV.d (fV (.mk k n s l))) := fun h => by unfold fV; rw [h]; simp
  have hgood : okV (.mk k n s l) = true → dpV (.mk k n s l) = 0 → leA noRen noNew noOk 3 (AV.tup [AV.d (D.lit (Value.int IntKind.i64 0)), AV.d (D.lit (Value.bool true))]) (AV.d (fV (.mk k n s l))) := fun h h' => by unfold fV; rw [h, h']; simp
  have hkb : (k < 1 ∨ k > 3) → okV (.mk k n s l) = false := fun h => by
    have e1 : k ≠ 1 := by omega
    have e2 : k ≠ 2 := by omega
    have e3 : k ≠ 3 := by omega
    simp [okV, e1, e2, e3]
  have hl0 : ∀ m : Nat, ((m : Int) + 1 == 0) = false := fun m => by simp; omega
  have hl1 : ∀ m : Nat, ((m : Int) + 1 = 0) = False := fun m => by simp; omega
  rcases hk with rfl | rfl | rfl | hk | hk
  · rcases Decidable.em (n = 0) with rfl | hn <;> rcases s with _ | ⟨c, s⟩ <;> rcases l with _ | ⟨v, l⟩
    all_goals first | exact absurd ⟨rfl, rfl, rfl⟩ h3 | skip
    all_goals first | simp [hn, hl0, hl1] | simp [hl0, hl1]
    all_goals refine vc_path [] ?_
    all_goals simp [hl0, hl1]
    all_goals first | (refine hbad ?_; simp [okV]; done) | (refine hbad ?_; simp [okV, hn]; done) | (refine hgood ?_ ?_ <;> simp [okV, dpV]; done)
  · rcases Decidable.em (n = 0) with rfl | hn <;> rcases s with _ | ⟨c, s⟩ <;> rcases l with _ | ⟨v, l⟩
    all_goals first | exact absurd ⟨rfl, rfl, rfl⟩ h3 | skip
    all_goals first | simp [hn, hl0, hl1] | simp [hl0, hl1]
    all_goals refine vc_path [] ?_
    all_goals simp [hl0, hl1]
    all_goals first | (refine hbad ?_; simp [okV]; done) | (refine hbad ?_; simp [okV, hn]; done) | (refine hgood ?_ ?_ <;> simp [okV, dpV]; done)
  · rcases Decidable.em (n = 0) with rfl | hn <;> rcases s with _ | ⟨c, s⟩ <;> rcases l with _ | ⟨v, l⟩
    all_goals first | exact absurd ⟨rfl, rfl, rfl⟩ h3 | skip
    all_goals first | simp [hn, hl0, hl1] | simp [hl0, hl1]
    all_goals refine vc_path [] ?_
    all_goals simp [hl0, hl1]
    all_goals first | (refine hbad ?_; simp [okV]; done) | (refine hbad ?_; simp [okV, hn]; done) | (refine hgood ?_ ?_ <;> simp [okV, dpV]; done)
  · rcases Decidable.em (n = 0) with rfl | hn <;> rcases s with _ | ⟨c, s⟩ <;> rcases l with _ | ⟨v, l⟩
    all_goals first | simp [hn, hl0, hl1] | simp [hl0, hl1]
    all_goals refine vc_path [] ?_
    all_goals simp [hl0, hl1, hk]
    all_goals exact hbad (hkb (.inl hk))
  · rcases Decidable.em (n = 0) with rfl | hn <;> rcases s with _ | ⟨c, s⟩ <;> rcases l with _ | ⟨v, l⟩
    all_goals first | simp [hn, hl0, hl1] | simp [hl0, hl1]
    all_goals refine vc_path [] ?_
    all_goals simp [hl0, hl1, hk, show ¬ k < 1 by omega]
    all_goals exact hbad (hkb (.inr hk))
/-- formed answers. -/
theorem formed_ok : ∀ (v : Vl), dpV v < 4611686018427387904 → PCall Tryd.prog 45 [dV v] (.ret (fV v))
  | .mk k n s l, h => by
    by_cases hk : k = 3
    · subst hk
      rw [dpV3] at h
      refine formed_step 3 n s l (fun _ => by omega) (C := C301 l) (fun f ds out hc => ?_) (fun _ v hv => .sub v hv)
      cases hc with
      | sub v hv => exact formed_ok v (by have := dpVs_le l v hv; omega)
    · exact formed_step k n s l (fun h => absurd h hk) noC (fun h => absurd h hk)
termination_by v => SizeOf.sizeOf v
decreasing_by
  have := List.sizeOf_lt_of_mem hv
  simp; omega
end Go.Proofs.YtfegfnekphobmaaDoor
end

section
namespace Go.Proofs.YtfegfnekphobmaaDoor
open Go Go.Proofs.YtfegfnekphobmaaDoor.AL
attribute [local simp] dZ_agg dZ_nt dZ_noTup dZ_cells dZ_one bz_toList bz_size strV dV_cells dV_isAgg dV_noTup dV_nt
set_option maxRecDepth 8000
set_option maxHeartbeats 4000000
inductive C302a : FuncId → List D → Out → Prop
  | formed (v : Vl) (h : dpV v < 4611686018427387904) : C302a 45 [dV v] (.ret (fV v))
theorem h302a : ∀ f ds out, C302a f ds out → PCall Tryd.prog f ds out := by
  intro f ds out h
  cases h with
  | formed v h => exact formed_ok v h
/-- Check answers. -/
theorem ccheck (v : Vl) (h : dpV v < 4611686018427387904) : PCall Tryd.prog 35 [dV v] (.ret (dI (eV v))) := by
  refine pcall_of_vc h302a c35 (by simp [a35]) fun hr => ?_
  have hc := C302a.formed v h
  unfold fV at hc
  simp [a35]
  cases hv : okV v with
  | false =>
    simp [hv] at hc
    refine vc_path [.ret (.tup [dI 0, dB false])] ?_
    simp [eV, hv]
    rw [dV_agg] at hc; simpa using hc
  | true =>
    simp [hv] at hc
    generalize hm : dpV v = m at hc
    refine vc_path [.ret (.tup [dI m, dB true])] ?_
    simp [eV, hv, hm]
    refine ⟨by rw [dV_agg] at hc; simpa using hc, fun h1 => ?_, fun h1 => ?_⟩
    · rw [if_neg (by omega)]; exact LeD.refl _
    · rw [if_pos (by omega)]; exact LeD.refl _
/-! Numbers. -/
theorem wrap_u64 {n : Int} (h : 0 ≤ n) (h2 : n < 18446744073709551616) : IntKind.u64.wrap n = n := by
  simp [IntKind.wrap, IntKind.bits, IntKind.signed]; omega
theorem wrap_u8 {n : Int} (h : 0 ≤ n) (h2 : n < 256) : IntKind.u8.wrap n = n := by
  simp [IntKind.wrap, IntKind.bits, IntKind.signed]; omega
theorem or128_nat : ∀ a : Nat, a < 256 → a ||| 128 = a % 128 + 128 := by
  intro a h
  have : ∀ b : Fin 256, b.val ||| 128 = b.val % 128 + 128 := by decide
  exact this ⟨a, h⟩
theorem xor_ones (a : Nat) (h : a < 18446744073709551616) : a ^^^ 18446744073709551615 = 18446744073709551615 - a := by
  have h1 := congrArg BitVec.toNat (BitVec.xor_allOnes (x := BitVec.ofNat 64 a))
  rw [BitVec.toNat_xor, BitVec.toNat_not, BitVec.toNat_ofNat, Nat.mod_eq_of_lt (by simpa using h)] at h1
  simpa using h1
theorem unsigned (n : Int) : PCall Tryd.prog 48 [dI n] (.ret (.lit (.int .u64 (zz n)))) := by
  refine pcall_of_vc noC c48 (by simp [a48]) fun hr => ?_
  have hn := (hr _ (List.mem_singleton.2 rfl)).int
  simp [IntKind.min, IntKind.max, IntKind.bits, IntKind.signed] at hn
  simp [a48, shiftV]
  refine leD_of_eq ?_
  congr 2
  have em : ∀ m : Nat, m < 18446744073709551616 → IntKind.u64.wrap (m : Int) = m := fun m h => wrap_u64 (by omega) (by omega)
  by_cases h : 0 ≤ n
  · have e1 : n.fdiv 9223372036854775808 = 0 := by
      rw [Int.fdiv_eq_ediv_of_nonneg _ (by omega)]; omega
    simp [IntKind.wrap, IntKind.bits, IntKind.signed, zz, h, e1]
    omega
  · have e1 : n.fdiv 9223372036854775808 = -1 := by
      rw [Int.fdiv_eq_ediv_of_nonneg _ (by omega)]; omega
    simp [IntKind.wrap, IntKind.bits, IntKind.signed, zz, h, e1]
    rw [xor_ones _ (by omega)]
    omega
theorem or_u8 (u : Nat) : IntKind.u8.wrap ((((IntKind.u8.wrap (u : Int)) % 2 ^ IntKind.u8.bits).toNat ||| 128 % 2 ^ IntKind.u8.bits : Nat) : Int) = ((UInt8.ofNat (u % 128 + 128)).toNat : Int) := by
  have e1 : ((IntKind.u8.wrap (u : Int)) % 2 ^ IntKind.u8.bits).toNat = u % 256 := by simp [IntKind.wrap, IntKind.bits, IntKind.signed]; omega
  have e2 : 128 % 2 ^ IntKind.u8.bits = 128 := by decide
  rw [e1, e2, or128_nat _ (by omega)]
  simp [IntKind.wrap, IntKind.bits, IntKind.signed]
theorem conv_u8 (u : Nat) : IntKind.u8.wrap (u : Int) = ((UInt8.ofNat u).toNat : Int) := by
  simp [IntKind.wrap, IntKind.bits, IntKind.signed]
theorem numL_lt {u : Nat} (h : u < 128) : numL u = [UInt8.ofNat u] := by rw [numL, if_pos h]
theorem numL_ge {u : Nat} (h : ¬ u < 128) : numL u = UInt8.ofNat (u % 128 + 128) :: numL (u / 128) := by rw [numL, if_neg h]
theorem numeral (es : List D) (u : Nat) (hu : u < 18446744073709551616) (hl : es.length + (numL u).length ≤ 140737488355328) : PCall Tryd.prog 47 [.sl 1 es, .lit (.int .u64 u)] (.app 1 (es ++ (numL u).map dU)) := by
  refine acall_of_vcX noC c47 (by simp [a47]) fun hr1 hr => ?_
  simp [a47]
  refine vc_loopK [] (List D × Nat) (fun x => [(0, true, .own 0 1 x.1), (1, true, .d (.lit (.int .u64 x.2)))]) (fun x => []) (fun x => x.2 < 18446744073709551616 ∧ x.1 ++ (numL x.2).map dU = es ++ (numL u).map dU) (fun x => x.2) (es, u) ⟨hu, rfl⟩ ⟨[], [], ?_⟩ (fun x hx => ?_)
  · simp
  obtain ⟨e, v⟩ := x
  obtain ⟨h1, h2⟩ := hx
  simp only at h1 h2
  have hlen := congrArg List.length h2
  simp only [List.length_append, List.length_map] at hlen
  simp
  refine ⟨fun hge => ?_, fun hlt => ?_⟩
  · rw [numL_ge (by omega)] at h2 hlen
    simp at hlen
    have hsh : shiftV false IntKind.u64 (v : Int) 7 = .int .u64 ((v / 128 : Nat) : Int) := by
      simp [shiftV, IntKind.bits]
      rw [Int.fdiv_eq_ediv_of_nonneg _ (by omega)]
    refine ⟨⟨by omega, by omega⟩, e ++ [dU (UInt8.ofNat (v % 128 + 128))], v / 128, ⟨by omega, by rw [← h2]; simp⟩, by omega, [(0, 2)], [], ?_⟩
    rw [hsh, or_u8]
    simp [dU]
  · rw [numL_lt (by omega)] at h2 hlen
    simp at hlen
    rw [← h2, conv_u8]
    exact ⟨⟨by omega, by omega⟩, by simp [dU]⟩
end Go.Proofs.YtfegfnekphobmaaDoor
end

section
namespace Go.Proofs.YtfegfnekphobmaaDoor
open Go Go.Proofs.YtfegfnekphobmaaDoor.AL
attribute [local simp] dZ_agg dZ_nt dZ_noTup dZ_cells dZ_one bz_toList bz_size strV dV_cells dV_isAgg dV_noTup dV_nt
set_option maxRecDepth 8000
set_option maxHeartbeats 4000000
/-- The writer: the array of functions, so many levels deep. -/
def dWr : Nat → D
  | 0 => .any
  | k + 1 => .ip (.agg [.lit .nilFunc, .fn (.func 46) [] [], .fn (.func 49) [] [], .fn (.func 50) [] [.ip (dWr k)]])
theorem dWr_one (k : Nat) : (dWr k).one = true := by cases k <;> rfl
theorem dWr_cells (k : Nat) : (dWr k).cells = [dWr k] := by cases k <;> rfl
theorem newWriter (k : Nat) : PCall Tryd.prog 36 [] (.ret (dWr k)) := by
  refine pcall_of_vcZ noC c36 (by simp) (3 * k + 4) fun hr => ?_
  simp [a36]
  clear hr
  induction k with
  | zero => simp [dWr]
  | succ k ih =>
    rw [show 3 * (k + 1) + 4 = (3 * k + 5 + 1) + 1 by omega, dWr]
    simp [dWr_cells, dWr_one]
    exact ih
inductive C303a : FuncId → List D → Out → Prop
  | uns (n : Int) : C303a 48 [dI n] (.ret (.lit (.int .u64 (zz n))))
  | num (es : List D) (u : Nat) (hu : u < 18446744073709551616) (hl : es.length + (numL u).length ≤ 140737488355328) : C303a 47 [.sl 1 es, .lit (.int .u64 u)] (.app 1 (es ++ (numL u).map dU))
theorem h303a : ∀ f ds out, C303a f ds out → PCall Tryd.prog f ds out := by
  intro f ds out h
  cases h with
  | uns n => exact unsigned n
  | num es u hu hl => exact numeral es u hu hl
theorem zz_lt {n : Int} (h : -9223372036854775808 ≤ n ∧ n ≤ 9223372036854775807) : zz n < 18446744073709551616 := by
  unfold zz; split <;> omega
theorem write1 (es : List D) (n : Int) (s : List UInt8) (l : List Vl) (hl : es.length + (1 + (numL (zz n)).length) ≤ 140737488355328) : PCall Tryd.prog 46 [.sl 1 es, dV (.mk 1 n s l)] (.app 1 (es ++ (1 :: numL (zz n)).map dU)) := by
  refine acall_of_vcX h303a c46 (by simp [a46]) fun hr1 hr => ?_
  have hn := (hr _ (List.mem_singleton.2 rfl))
  rw [dV_eq] at hn
  have hn := (hn.agg (dI n) (by simp)).2.int
  simp [IntKind.min, IntKind.max, IntKind.bits, IntKind.signed] at hn
  simp [a46, dV_eq]
  have h1 := C303a.uns n
  have h2 := C303a.num (es ++ [dU 1]) (zz n) (zz_lt hn) (by simp; omega)
  refine vc_pathD [.ret (.lit (.int .u64 (zz n))), .app 1 (es ++ [dU 1] ++ (numL (zz n)).map dU)] ?_
  simp
  simp [dU] at h1 h2 ⊢
  exact ⟨⟨by omega, by omega⟩, h1, h2, rfl⟩
theorem write2 (es : List D) (n : Int) (s : List UInt8) (l : List Vl) (hl : es.length + (1 + ((numL s.length).length + s.length)) ≤ 140737488355328) : PCall Tryd.prog 49 [.sl 1 es, dV (.mk 2 n s l)] (.app 1 (es ++ (2 :: (numL s.length ++ s)).map dU)) := by
  refine acall_of_vcX h303a c49 (by simp [a49]) fun hr1 hr => ?_
  have hs : s.length < 18446744073709551616 := by omega
  have hw : IntKind.u64.wrap (s.length : Int) = s.length := wrap_u64 (by omega) (by omega)
  simp [a49, dV_eq, dZ_eq]
  have h2 := C303a.num (es ++ [dU 2]) s.length hs (by simp; omega)
  refine vc_pathD [.app 1 (es ++ [dU 2] ++ (numL s.length).map dU)] ?_
  simp [hw, strD_bz]
  simp [dU] at h2 ⊢
  exact ⟨⟨by omega, by omega⟩, h2, ⟨by omega, by omega⟩, rfl⟩
theorem okV_kind : ∀ v : Vl, okV v = true → v.k = 1 ∨ v.k = 2 ∨ v.k = 3
  | .mk k n s l, h => by
    simp [okV] at h
    show k = 1 ∨ k = 2 ∨ k = 3
    omega
def wrOf (v : Vl) : FuncId := if v.k = 1 then 46 else if v.k = 2 then 49 else 50
def wrCap (k : Nat) (v : Vl) : List D := if v.k = 3 then [.ip (dWr k)] else []
/-- The writers of lists: their parts by others. -/
inductive C303b (l : List Vl) (k : Nat) : FuncId → List D → Out → Prop
  | uns (n : Int) : C303b l k 48 [dI n] (.ret (.lit (.int .u64 (zz n))))
  | num (es : List D) (u : Nat) (hu : u < 18446744073709551616) (hl : es.length + (numL u).length ≤ 140737488355328) : C303b l k 47 [.sl 1 es, .lit (.int .u64 u)] (.app 1 (es ++ (numL u).map dU))
  | wr (es : List D) (v : Vl) (hv : v ∈ l) (hl : es.length + (encV v).length ≤ 140737488355328) : C303b l k (wrOf v) (.sl 1 es :: dV v :: wrCap (k - 1) v) (.app 1 (es ++ (encV v).map dU))
theorem write3 (es : List D) (l : List Vl) (k : Nat) (hk : l ≠ [] → 0 < k) (hok : okVs l = true) (hC : ∀ f ds out, C303b l k f ds out → PCall Tryd.prog f ds out) (hl : es.length + (1 + ((numL l.length).length + (encVs l).length)) ≤ 140737488355328) (hll : l.length < 18446744073709551616) :
    PCall Tryd.prog 50 [.sl 1 es, dV (.mk 3 0 [] l), .ip (dWr k)] (.app 1 (es ++ (3 :: (numL l.length ++ encVs l)).map dU)) := by
  refine acall_of_vcX hC c50 (by simp [a50]) fun hr1 hr => ?_
  have hreal := (hr _ (List.mem_cons_self ..))
  rw [dV_eq] at hreal
  have hlen := (Real.sl (hreal.agg (.sl 4 (l.map dV)) (by simp)).2).1
  simp only [List.length_map] at hlen
  have hw : IntKind.u64.wrap (l.length : Int) = l.length := wrap_u64 (by omega) (by omega)
  simp [a50, dV_eq]
  have h2 := C303b.num (l := l) (k := k) (es ++ [dU 3]) l.length hll (by simp; omega)
  refine vc_pathD [.app 1 (es ++ [dU 3] ++ (numL l.length).map dU)] ?_
  simp [hw]
  refine ⟨⟨by omega, by omega⟩, by simpa [dU] using h2, rfl, ?_⟩
  refine vc_loopK [2, 17, 18] Nat (fun i => [(19, true, .d (dI i)), (0, true, .own 4 1 (es ++ (3 :: (numL l.length ++ encVs (l.take i))).map dU))]) (fun i => []) (fun i => i ≤ l.length) (fun i => l.length - i) 0 (by simp) ⟨[], [], ?_⟩ (fun i hi => ?_)
  · simp [encVs]
  simp
  refine ⟨fun hlt => ?_, fun hge => ?_⟩
  · obtain ⟨k, rfl⟩ : ∃ k', k = k' + 1 := ⟨k - 1, by have := hk (by rintro rfl; simp at hlt); omega⟩
    have hw1 : IntKind.i64.wrap ((i : Int) + 1) = ((i + 1 : Nat) : Int) := by rw [wrap64 (by omega)]; omega
    have he := encVs_take l i hlt
    have hle := encVs_le l (i + 1)
    rw [he, List.length_append] at hle
    have hv : okV l[i] = true := by rw [okVs_all, List.all_eq_true] at hok; exact hok _ (List.getElem_mem hlt)
    have hc := C303b.wr (k := k + 1) (es ++ (3 :: (numL l.length ++ encVs (l.take i))).map dU) l[i] (List.getElem_mem hlt) (by simp; omega)
    rw [dV_agg] at hc
    simp [hlt, dV_cells]
    refine vc_pathD [.app 1 (es ++ (3 :: (numL l.length ++ encVs (l.take i))).map dU ++ (encV l[i]).map dU)] ?_
    simp [dWr]
    rcases okV_kind _ hv with h | h | h
    all_goals
      simp [wrOf, wrCap, h] at hc
      simp [h]
      refine ⟨hc, rfl, i + 1, by omega, by omega, [(4, 6)], [], ?_⟩
      simp [hw1, he, dWr]
  · have hi : i = l.length := by omega
    subst hi
    simp
/-- All writers. -/
theorem writes : ∀ (v : Vl) (k : Nat) (es : List D), okV v = true → dpV v ≤ k → es.length + (encV v).length ≤ 140737488355328 → PCall Tryd.prog (wrOf v) (.sl 1 es :: dV v :: wrCap k v) (.app 1 (es ++ (encV v).map dU))
  | .mk kk n s l, k, es, hok, hd, hl => by
    rcases okV_kind _ hok with h | h | h
    · have h : kk = 1 := h
      subst h
      have e : encV (.mk 1 n s l) = 1 :: numL (zz n) := by simp [encV]
      rw [e] at hl ⊢
      exact write1 es n s l (by simp at hl; omega)
    · have h : kk = 2 := h
      subst h
      have e : encV (.mk 2 n s l) = 2 :: (numL s.length ++ s) := by simp [encV]
      rw [e] at hl ⊢
      exact write2 es n s l (by simp at hl; omega)
    · have h : kk = 3 := h
      subst h
      have e : encV (.mk 3 n s l) = 3 :: (numL l.length ++ encVs l) := by simp [encV]
      rw [e] at hl ⊢
      rw [dpV3] at hd
      have hns : n = 0 ∧ s = [] := by simp [okV] at hok; exact ⟨hok.1.1, hok.1.2⟩
      obtain ⟨rfl, rfl⟩ := hns
      rw [okV3] at hok
      have hel : ∀ m : List Vl, okVs m = true → m.length ≤ (encVs m).length := fun m hm => by
        induction m with
        | nil => simp
        | cons v r ih =>
          simp [okVs] at hm
          have h1 := ih hm.2
          have h2 : 1 ≤ (encV v).length := by
            cases v with
            | mk a b c d =>
              simp only [encV]
              split
              · simp
              · split <;> simp
          simp [encVs]; omega
      have hll := hel l hok
      simp at hl
      refine write3 es l k (fun hne => by omega) hok (fun f ds out hc => ?_) (by omega) (by omega)
      cases hc with
      | uns n => exact unsigned n
      | num es u hu hl => exact numeral es u hu hl
      | wr es v hv hl =>
        have h1 : okV v = true := by rw [okVs_all, List.all_eq_true] at hok; exact hok v hv
        have h2 := dpVs_le l v hv
        exact writes v (k - 1) es h1 (by omega) hl
termination_by v => SizeOf.sizeOf v
decreasing_by
  have := List.sizeOf_lt_of_mem hv
  simp; omega
end Go.Proofs.YtfegfnekphobmaaDoor
end

section
namespace Go.Proofs.YtfegfnekphobmaaDoor
open Go Go.Proofs.YtfegfnekphobmaaDoor.AL
attribute [local simp] dZ_agg dZ_nt dZ_noTup dZ_cells dZ_one bz_toList bz_size strV dV_cells dV_isAgg dV_noTup dV_nt empty_toList
set_option maxRecDepth 8000
set_option maxHeartbeats 4000000
/-! The reference's codec. -/
theorem rformed_step (k n : Int) (s : List UInt8) (l : List Vl) {C : FuncId → List D → Out → Prop} (hC : ∀ f ds out, C f ds out → PCall Tryd.prog f ds out) (hS : ∀ v ∈ l, C 58 [dV v] (.ret (dB (okV v)))) :
    PCall Tryd.prog 58 [dV (.mk k n s l)] (.ret (dB (okV (.mk k n s l)))) := by
  refine pcall_of_vc hC c58 (by simp [a58]) fun hr => ?_
  have hreal := (hr _ (List.mem_singleton.2 rfl))
  rw [dV_eq] at hreal
  have hlen := (Real.sl (hreal.agg (.sl 4 (l.map dV)) (by simp)).2).1
  simp only [List.length_map] at hlen
  have hl0 : ∀ m : Nat, ((m : Int) + 1 == 0) = false := fun m => by simp; omega
  have hl1 : ∀ m : Nat, ((m : Int) + 1 = 0) = False := fun m => by simp; omega
  simp [a58, dV_eq, dZ_eq]
  have hk : k = 1 ∨ k = 2 ∨ k = 3 ∨ (k ≠ 1 ∧ k ≠ 2 ∧ k ≠ 3) := by omega
  rcases hk with rfl | rfl | rfl | ⟨h1, h2, h3⟩
  · rcases s with _ | ⟨c, s⟩ <;> rcases l with _ | ⟨v, l⟩
    all_goals
      simp
      refine vc_path [] ?_
      simp [hl0, hl1, okV]
  · rcases Decidable.em (n = 0) with rfl | hn <;> rcases l with _ | ⟨v, l⟩
    all_goals
      simp
      refine vc_path [] ?_
      first | (have hb : (n == 0) = false := by simpa using hn
               simp [hl0, hl1, okV, hn, hb]; done) | simp [hl0, hl1, okV]
  · have hfin : okV (.mk 3 n s l) = ((n == 0 && s.isEmpty) && okVs l) := by simp [okV]
    simp
    refine vc_loopK [1] Nat (fun i => [(3, true, .d (dI i))]) (fun i => []) (fun i => i ≤ l.length ∧ okVs (l.take i) = true) (fun i => l.length - i) 0 (by simp [okVs]) ⟨[], [], ?_⟩ (fun i hi => ?_)
    · simp
    obtain ⟨h1, h2⟩ := hi
    simp
    refine ⟨fun hlt => ?_, fun hge => ?_⟩
    · have hc := hS l[i] (List.getElem_mem hlt)
      have ho := okVs_take l i hlt
      rw [h2, Bool.true_and] at ho
      rw [dV_agg] at hc
      have hw1 : IntKind.i64.wrap ((i : Int) + 1) = ((i + 1 : Nat) : Int) := by rw [wrap64 (by omega)]; omega
      cases hv : okV l[i] with
      | false =>
        rw [hv] at hc
        refine vc_path [.ret (dB false)] ?_
        rw [hfin, okVs_bad hlt hv]
        simp [hlt, dV_agg]
        simpa using hc
      | true =>
        rw [hv] at hc
        refine vc_path [.ret (dB true)] ?_
        simp [hlt, dV_agg, hw1]
        refine ⟨by simpa using hc, i + 1, ⟨by omega, by rw [ho, hv]⟩, by omega, [], [], ?_⟩
        simp
    · have hi : i = l.length := by omega
      subst hi
      rw [List.take_length] at h2
      rw [hfin, h2]
      rcases Decidable.em (n = 0) with rfl | hn <;> rcases s with _ | ⟨c, s⟩
      all_goals
        refine vc_path [] ?_
        first | (have hb : (n == 0) = false := by simpa using hn
                 simp [hn, hb]; done) | simp
  · have g1 : (k == 1) = false := by simpa using h1
    have g2 : (k == 2) = false := by simpa using h2
    have g3 : (k == 3) = false := by simpa using h3
    simp [h1, h2, h3, okV, g1, g2, g3]
inductive C305a (l : List Vl) : FuncId → List D → Out → Prop
  | sub (v : Vl) (h : v ∈ l) : C305a l 58 [dV v] (.ret (dB (okV v)))
theorem rformed : ∀ v : Vl, PCall Tryd.prog 58 [dV v] (.ret (dB (okV v)))
  | .mk k n s l => by
    refine rformed_step k n s l (C := C305a l) (fun f ds out hc => ?_) (fun v hv => .sub v hv)
    cases hc with
    | sub v hv => exact rformed v
termination_by v => SizeOf.sizeOf v
decreasing_by
  have := List.sizeOf_lt_of_mem hv
  simp; omega
inductive C305b (l : List Vl) : FuncId → List D → Out → Prop
  | sub (v : Vl) (h : v ∈ l) : C305b l 59 [dV v] (.ret (dI (dpV v)))
theorem rdepth : ∀ v : Vl, dpV v < 4611686018427387904 → PCall Tryd.prog 59 [dV v] (.ret (dI (dpV v)))
  | .mk k n s l, hd => by
    refine pcall_of_vc (C := C305b (if k = 3 then l else [])) (fun f ds out hc => ?_) c59 (by simp [a59]) fun hr => ?_
    · cases hc with
      | sub v hv =>
        have hk : k = 3 := by
          by_cases hk : k = 3
          · exact hk
          · rw [if_neg hk] at hv; cases hv
        have hv2 : v ∈ l := by rw [if_pos hk] at hv; exact hv
        subst hk
        rw [dpV3] at hd
        exact rdepth v (by have := dpVs_le l v hv2; omega)
    have hreal := (hr _ (List.mem_singleton.2 rfl))
    rw [dV_eq] at hreal
    have hlen := (Real.sl (hreal.agg (.sl 4 (l.map dV)) (by simp)).2).1
    simp only [List.length_map] at hlen
    by_cases hk : k = 3
    · subst hk
      rw [dpV3] at hd ⊢
      simp [a59, dV_eq]
      refine vc_loopK [1] Nat (fun i => [(4, true, .d (dI i)), (3, true, .d (dI (dpVs (l.take i))))]) (fun i => []) (fun i => i ≤ l.length) (fun i => l.length - i) 0 (by simp) ⟨[], [], ?_⟩ (fun i hi => ?_)
      · simp [dpVs]
      simp
      refine ⟨fun hlt => ?_, fun hge => ?_⟩
      · have hc := C305b.sub (l := l) l[i] (List.getElem_mem hlt)
        rw [dV_agg] at hc
        have hp := dpVs_take l i hlt
        generalize hm : dpV l[i] = m at hc hp
        have hw1 : IntKind.i64.wrap ((i : Int) + 1) = ((i + 1 : Nat) : Int) := by rw [wrap64 (by omega)]; omega
        have hmx : (if dpVs (l.take i) < m then (m : Int) else (dpVs (l.take i) : Int)) = ((dpVs (l.take (i + 1)) : Nat) : Int) := by
          rw [hp]; split <;> omega
        refine vc_path [.ret (dI m)] ?_
        simp [hlt, dV_agg, hw1, hmx]
        refine ⟨by simpa using hc, i + 1, by omega, by omega, [], [], ?_⟩
        simp
      · have hi : i = l.length := by omega
        subst hi
        have hw : IntKind.i64.wrap ((dpVs l : Int) + 1) = ((dpVs l + 1 : Nat) : Int) := by rw [wrap64 (by omega)]; omega
        simp [hw]
    · have e : dpV (.mk k n s l) = 0 := by simp [dpV, hk]
      rw [e]
      simp [a59, dV_eq, hk]
termination_by v => SizeOf.sizeOf v
decreasing_by
  have := List.sizeOf_lt_of_mem hv2
  simp; omega
inductive C305c : FuncId → List D → Out → Prop
  | formed (v : Vl) : C305c 58 [dV v] (.ret (dB (okV v)))
  | depth (v : Vl) (h : dpV v < 4611686018427387904) : C305c 59 [dV v] (.ret (dI (dpV v)))
theorem h305c : ∀ f ds out, C305c f ds out → PCall Tryd.prog f ds out := by
  intro f ds out h
  cases h with
  | formed v => exact rformed v
  | depth v h => exact rdepth v h
theorem rccheck (v : Vl) (h : dpV v < 4611686018427387904) : PCall Tryd.prog 51 [dV v] (.ret (dI (eV v))) := by
  refine pcall_of_vc h305c c51 (by simp [a51]) fun hr => ?_
  have hc := C305c.formed v
  have hd := C305c.depth v h
  rw [dV_agg] at hc hd
  simp [a51, dV_cells]
  cases hv : okV v with
  | false =>
    rw [hv] at hc
    refine vc_path [.ret (dB false)] ?_
    simp [eV, hv]
    simpa using hc
  | true =>
    rw [hv] at hc
    generalize hm : dpV v = m at hd
    refine vc_path [.ret (dB true)] ?_
    simp
    refine ⟨by simpa using hc, vc_path [.ret (dI m)] ?_⟩
    simp [eV, hv, hm]
    refine ⟨by simpa using hd, fun h1 => ?_, fun h1 => ?_⟩
    · rw [if_neg (by omega)]; exact LeD.refl _
    · rw [if_pos (by omega)]; exact LeD.refl _
end Go.Proofs.YtfegfnekphobmaaDoor
end

section
namespace Go.Proofs.YtfegfnekphobmaaDoor
open Go Go.Proofs.YtfegfnekphobmaaDoor.AL
attribute [local simp] dZ_agg dZ_nt dZ_noTup dZ_cells dZ_one bz_toList bz_size strV dV_cells dV_isAgg dV_noTup dV_nt empty_toList
set_option maxRecDepth 8000
set_option maxHeartbeats 4000000
theorem runsigned (n : Int) : PCall Tryd.prog 61 [dI n] (.ret (.lit (.int .u64 (zz n)))) := by
  refine pcall_of_vc noC c61 (by simp [a61]) fun hr => ?_
  have hn := (hr _ (List.mem_singleton.2 rfl)).int
  simp [IntKind.min, IntKind.max, IntKind.bits, IntKind.signed] at hn
  by_cases h : 0 ≤ n
  · simp [a61, h]
    refine leD_of_eq ?_
    congr 2
    simp [IntKind.wrap, IntKind.bits, IntKind.signed, zz, h]
    omega
  · simp [a61, h]
    refine leD_of_eq ?_
    congr 2
    simp [IntKind.wrap, IntKind.bits, IntKind.signed, zz, h]
    omega
inductive C306a (u : Nat) : FuncId → List D → Out → Prop
  | num (v : Nat) (h : v < u) (hu : v < 18446744073709551616) : C306a u 60 [.lit (.int .u64 v)] (.ret (dBy (numL v)))
theorem numL_len (u : Nat) (hu : u < 18446744073709551616) : (numL u).length ≤ 10 := numL_length 10 u (by omega) (by omega)
theorem rnumeral : ∀ (u : Nat), u < 18446744073709551616 → PCall Tryd.prog 60 [.lit (.int .u64 u)] (.ret (dBy (numL u))) := by
  intro u
  induction u using Nat.strongRecOn with
  | ind u ih =>
    intro hu
    refine pcall_of_vc (C := C306a u) (fun f ds out hc => ?_) c60 (by simp [a60]) fun hr => ?_
    · cases hc with
      | num v h hu => exact ih v h hu
    by_cases h : u < 128
    · rw [numL_lt h]
      have h' : (u : Int) < 128 := by omega
      simp [a60, h', conv_u8]
      exact leD_of_eq (by simp [dBy, dU])
    · rw [numL_ge h]
      have h' : ¬ (u : Int) < 128 := by omega
      have hc := C306a.num (u := u) (u / 128) (by omega) (by omega)
      have hl := numL_len (u / 128) (by omega)
      have e1 : (u : Int).tmod 128 = ((u % 128 : Nat) : Int) := by rw [Int.tmod_eq_emod_of_nonneg (by omega)]; omega
      have e2 : (u : Int).tdiv 128 = ((u / 128 : Nat) : Int) := by rw [Int.tdiv_eq_ediv_of_nonneg (by omega)]; omega
      have e3 : IntKind.u64.wrap ((u / 128 : Nat) : Int) = ((u / 128 : Nat) : Int) := wrap_u64 (by omega) (by omega)
      have e4 : IntKind.u64.wrap (((u % 128 : Nat) : Int) + 128) = ((u % 128 + 128 : Nat) : Int) := by rw [wrap_u64 (by omega) (by omega)]; omega
      have e5 := conv_u8 (u % 128 + 128)
      simp [a60, h']
      refine vc_path [.ret (dBy (numL (u / 128)))] ?_
      have e6 : IntKind.u64.wrap ((u : Int) / 128) = ((u / 128 : Nat) : Int) := by rw [show (u : Int) / 128 = ((u / 128 : Nat) : Int) by omega, e3]
      unfold dBy at hc ⊢
      simp [e6]
      refine ⟨by simpa using hc, ⟨by omega, by omega⟩, leD_of_eq ?_⟩
      rw [e1, e4, e5]
      simp [dU]
inductive C306b (l : List Vl) : FuncId → List D → Out → Prop
  | uns (n : Int) : C306b l 61 [dI n] (.ret (.lit (.int .u64 (zz n))))
  | num (u : Nat) (hu : u < 18446744073709551616) : C306b l 60 [.lit (.int .u64 u)] (.ret (dBy (numL u)))
  | enc (v : Vl) (h : v ∈ l) (hl : (encV v).length ≤ 140737488355328) : C306b l 52 [dV v] (.ret (dBy (encV v)))
theorem rencode_step (k n : Int) (s : List UInt8) (l : List Vl) (hC : ∀ f ds out, C306b l f ds out → PCall Tryd.prog f ds out) (hb : (encV (.mk k n s l)).length ≤ 140737488355328) :
    PCall Tryd.prog 52 [dV (.mk k n s l)] (.ret (dBy (encV (.mk k n s l)))) := by
  refine pcall_of_vc hC c52 (by simp [a52]) fun hr => ?_
  have hreal := (hr _ (List.mem_singleton.2 rfl))
  rw [dV_eq] at hreal
  have hlen := (Real.sl (hreal.agg (.sl 4 (l.map dV)) (by simp)).2).1
  simp only [List.length_map] at hlen
  have hn := (hreal.agg (dI n) (by simp)).2.int
  simp [IntKind.min, IntKind.max, IntKind.bits, IntKind.signed] at hn
  have hsl := Real.str (hreal.agg (dZ s) (by simp)).2
  rw [bz_size] at hsl
  simp [a52, dV_eq]
  by_cases hk1 : k = 1
  · subst hk1
    have e : encV (.mk 1 n s l) = 1 :: numL (zz n) := by simp [encV]
    rw [e] at hb ⊢
    have h1 := C306b.uns (l := l) n
    have h2 := C306b.num (l := l) (zz n) (by unfold zz; split <;> omega)
    simp
    refine vc_path [.ret (.lit (.int .u64 (zz n))), .ret (dBy (numL (zz n)))] ?_
    unfold dBy at h2 ⊢
    simp at hb
    simp
    exact ⟨by simpa using h1, h2, ⟨by omega, by omega⟩, leD_of_eq (by simp [dU])⟩
  by_cases hk2 : k = 2
  · subst hk2
    have e : encV (.mk 2 n s l) = 2 :: (numL s.length ++ s) := by simp [encV]
    rw [e] at hb ⊢
    have hw : IntKind.u64.wrap (s.length : Int) = s.length := wrap_u64 (by omega) (by omega)
    have h2 := C306b.num (l := l) s.length (by omega)
    simp
    refine vc_pathD [.ret (dBy (numL s.length))] ?_
    unfold dBy at h2 ⊢
    simp at hb
    simp [dZ_eq, hw, strD_bz]
    exact ⟨h2, ⟨by omega, by omega⟩, ⟨by omega, by omega⟩, rfl, leD_of_eq (by simp [dU])⟩
  · have e : encV (.mk k n s l) = 3 :: (numL l.length ++ encVs l) := by simp [encV, hk1, hk2]
    rw [e] at hb ⊢
    have hw : IntKind.u64.wrap (l.length : Int) = l.length := wrap_u64 (by omega) (by omega)
    have h2 := C306b.num (l := l) l.length (by omega)
    simp [hk1, hk2]
    simp at hb
    refine vc_path [.ret (dBy (numL l.length))] ?_
    unfold dBy at h2 ⊢
    simp [hw]
    refine ⟨h2, ⟨by omega, by omega⟩, ?_⟩
    refine vc_loopK [1] Nat (fun i => [(4, true, .d (dI i)), (3, true, .own 2 1 ((3 :: (numL l.length ++ encVs (l.take i))).map dU))]) (fun i => []) (fun i => i ≤ l.length) (fun i => l.length - i) 0 (by simp) ⟨[], [], ?_⟩ (fun i hi => ?_)
    · simp [encVs, dU]
    simp
    refine ⟨fun hlt => ?_, fun hge => ?_⟩
    · have hw1 : IntKind.i64.wrap ((i : Int) + 1) = ((i + 1 : Nat) : Int) := by rw [wrap64 (by omega)]; omega
      have he := encVs_take l i hlt
      have hle := encVs_le l (i + 1)
      rw [he, List.length_append] at hle
      have hc := C306b.enc (l := l) l[i] (List.getElem_mem hlt) (by omega)
      rw [dV_agg] at hc
      refine vc_path [.ret (dBy (encV l[i]))] ?_
      unfold dBy at hc ⊢
      simp [hlt, dV_agg, hw1]
      refine ⟨by simpa using hc, ⟨by omega, by omega⟩, i + 1, by omega, by omega, [(2, 3)], [], ?_⟩
      simp [he]
    · have hi : i = l.length := by omega
      subst hi
      simp
theorem rencode : ∀ v : Vl, (encV v).length ≤ 140737488355328 → PCall Tryd.prog 52 [dV v] (.ret (dBy (encV v)))
  | .mk k n s l, hb => by
    refine rencode_step k n s l (fun f ds out hc => ?_) hb
    cases hc with
    | uns n => exact runsigned n
    | num u hu => exact rnumeral u hu
    | enc v hv hl => exact rencode v hl
termination_by v => SizeOf.sizeOf v
decreasing_by
  have := List.sizeOf_lt_of_mem hv
  simp; omega
inductive C306c : FuncId → List D → Out → Prop
  | check (v : Vl) (h : dpV v < 4611686018427387904) : C306c 51 [dV v] (.ret (dI (eV v)))
  | enc (v : Vl) (hl : (encV v).length ≤ 140737488355328) : C306c 52 [dV v] (.ret (dBy (encV v)))
theorem h306c : ∀ f ds out, C306c f ds out → PCall Tryd.prog f ds out := by
  intro f ds out h
  cases h with
  | check v h => exact rccheck v h
  | enc v h => exact rencode v h
/-- What Encode answers. -/
def encR (v : Vl) : D := if eV v = 0 then .tup [dBy (encV v), dI 0] else .tup [.sl 1 [], dI (eV v)]
theorem rEncode (v : Vl) (h : dpV v < 4611686018427387904) (hl : (encV v).length ≤ 140737488355328) : PCall Tryd.prog 38 [dV v] (.ret (encR v)) := by
  refine pcall_of_vc h306c c38 (by simp [a38]) fun hr => ?_
  have hc := C306c.check v h
  have he := C306c.enc v hl
  rw [dV_agg] at hc he
  unfold encR
  simp [a38, dV_cells]
  refine vc_path [.ret (dI (eV v))] ?_
  by_cases h0 : eV v = 0
  · rw [if_pos h0]
    rw [h0] at hc ⊢
    simp
    refine ⟨by simpa using hc, vc_path [.ret (dBy (encV v))] ?_⟩
    unfold dBy at he ⊢
    simp
    simpa using he
  · rw [if_neg h0]
    simp [h0]
    simpa using hc
end Go.Proofs.YtfegfnekphobmaaDoor
end

section
namespace Go.Proofs.YtfegfnekphobmaaDoor
open Go Go.Proofs.YtfegfnekphobmaaDoor.AL
attribute [local simp] dZ_agg dZ_nt dZ_noTup dZ_cells dZ_one bz_toList bz_size strV dV_cells dV_isAgg dV_noTup dV_nt
set_option maxRecDepth 8000
set_option maxHeartbeats 4000000
inductive C304 : FuncId → List D → Out → Prop
  | check (v : Vl) (h : dpV v < 4611686018427387904) : C304 35 [dV v] (.ret (dI (eV v)))
  | new (k : Nat) : C304 36 [] (.ret (dWr k))
  | wr (es : List D) (v : Vl) (k : Nat) (ho : okV v = true) (hd : dpV v ≤ k) (hl : es.length + (encV v).length ≤ 140737488355328) : C304 (wrOf v) (.sl 1 es :: dV v :: wrCap k v) (.app 1 (es ++ (encV v).map dU))
theorem h304 : ∀ f ds out, C304 f ds out → PCall Tryd.prog f ds out := by
  intro f ds out h
  cases h with
  | check v h => exact ccheck v h
  | new k => exact newWriter k
  | wr es v k ho hd hl => exact writes v k es ho hd hl
theorem eV_zero {v : Vl} (h : eV v = 0) : okV v = true ∧ dpV v ≤ 16 := by
  unfold eV at h
  split at h
  · rename_i h1
    split at h
    · rename_i h2; exact ⟨h1, h2⟩
    · omega
  · omega
theorem encode (v : Vl) (h : dpV v < 4611686018427387904) (hl : (encV v).length ≤ 140737488355328) : PCall Tryd.prog 26 [dV v] (.ret (encR v)) := by
  refine pcall_of_vc h304 c26 (by simp [a26]) fun hr => ?_
  have hc := C304.check v h
  rw [dV_agg] at hc
  unfold encR
  simp [a26, dV_cells]
  by_cases he : eV v = 0
  · rw [if_pos he]
    rw [he] at hc
    obtain ⟨ho, hd⟩ := eV_zero he
    have hw := C304.wr [] v (dpV v) ho (Nat.le_refl _) (by simpa using hl)
    have hn := C304.new (dpV v + 1)
    rw [dV_agg] at hw
    refine vc_path [.ret (dI 0)] ?_
    simp
    refine ⟨by simpa using hc, vc_pathD [.ret (dWr (dpV v + 1)), .app 1 ((encV v).map dU)] ?_⟩
    rw [dWr] at hn ⊢
    rcases okV_kind _ ho with h | h | h
    all_goals
      simp [wrOf, wrCap, h] at hw
      simp [h]
      exact ⟨hn, hw, rfl, LeD.refl _⟩
  · rw [if_neg he]
    refine vc_path [.ret (dI (eV v))] ?_
    simp [he]
    simpa using hc
end Go.Proofs.YtfegfnekphobmaaDoor
end

section
namespace Go.Proofs.YtfegfnekphobmaaDoor
open Go Go.Proofs.YtfegfnekphobmaaDoor.AL
/-! The numbers of SHA-256. -/
def q (x : UInt32) : Int := (x.toNat : Int)
def dq (x : UInt32) : D := .lit (.int .u32 (q x))
theorem dQ_eq (x : UInt32) : dQ x = .lit (.int .u32 (q x)) := rfl
theorem q_lt (x : UInt32) : 0 ≤ q x ∧ q x < 4294967296 := by
  have := x.toNat_lt
  unfold q; omega
theorem q_inj {x y : UInt32} : q x = q y ↔ x = y := ⟨fun h => by unfold q at h; exact UInt32.toNat_inj.1 (by omega), fun h => by rw [h]⟩
theorem wrap_u32 {n : Int} (h : 0 ≤ n) (h2 : n < 4294967296) : IntKind.u32.wrap n = n := by
  simp [IntKind.wrap, IntKind.bits, IntKind.signed]; omega
theorem bv_q (x : UInt32) : (BitVec.ofInt IntKind.u32.bits (q x)).toNat = x.toNat := by
  have := x.toNat_lt
  simp [q, IntKind.bits]
theorem nq (x : UInt32) : (q x % 2 ^ IntKind.u32.bits).toNat = x.toNat := by
  have := x.toNat_lt
  simp [q, IntKind.bits]
  omega
theorem wq_add (x y : UInt32) : IntKind.u32.wrap (q x + q y) = q (x + y) := by
  have := x.toNat_lt
  have := y.toNat_lt
  simp [q, IntKind.wrap, IntKind.bits, IntKind.signed]
theorem wq_or (x y : UInt32) : IntKind.u32.wrap (((q x % 2 ^ IntKind.u32.bits).toNat ||| (q y % 2 ^ IntKind.u32.bits).toNat : Nat) : Int) = q (x ||| y) := by
  rw [nq, nq, ← UInt32.toNat_or]; exact wrap_u32 (q_lt _).1 (q_lt _).2
theorem wq_and (x y : UInt32) : IntKind.u32.wrap (((q x % 2 ^ IntKind.u32.bits).toNat &&& (q y % 2 ^ IntKind.u32.bits).toNat : Nat) : Int) = q (x &&& y) := by
  rw [nq, nq, ← UInt32.toNat_and]; exact wrap_u32 (q_lt _).1 (q_lt _).2
theorem wq_xor (x y : UInt32) : IntKind.u32.wrap (((q x % 2 ^ IntKind.u32.bits).toNat ^^^ (q y % 2 ^ IntKind.u32.bits).toNat : Nat) : Int) = q (x ^^^ y) := by
  rw [nq, nq, ← UInt32.toNat_xor]; exact wrap_u32 (q_lt _).1 (q_lt _).2
theorem shl_q (x : UInt32) (n : Nat) (h : n < 32) : shiftV true .u32 (q x) (n : Int) = .int .u32 (q (x <<< UInt32.ofNat n)) := by
  have hx := x.toNat_lt
  have e : min ((n : Int)).toNat IntKind.u32.bits = n := by simp [IntKind.bits]; omega
  unfold shiftV
  rw [e]
  simp only [if_true, Value.int.injEq, true_and]
  simp only [q, UInt32.toNat_shiftLeft, UInt32.toNat_ofNat']
  have e2 : n % 2 ^ 32 % 32 = n := by omega
  rw [e2]
  simp [IntKind.wrap, IntKind.bits, IntKind.signed, Nat.shiftLeft_eq]
theorem shr_q (x : UInt32) (n : Nat) (h : n < 32) : shiftV false .u32 (q x) (n : Int) = .int .u32 (q (x >>> UInt32.ofNat n)) := by
  have hx := x.toNat_lt
  have e : min ((n : Int)).toNat IntKind.u32.bits = n := by simp [IntKind.bits]; omega
  unfold shiftV
  rw [e]
  simp only [Bool.false_eq_true, if_false, Value.int.injEq, true_and]
  simp only [q, UInt32.toNat_shiftRight, UInt32.toNat_ofNat']
  have e2 : n % 2 ^ 32 % 32 = n := by omega
  rw [e2, Int.fdiv_eq_ediv_of_nonneg _ (Int.pow_nonneg (by omega)), Nat.shiftRight_eq_div_pow]
  simp
def ror (x : UInt32) (c : Nat) : UInt32 := x >>> UInt32.ofNat c ||| x <<< UInt32.ofNat (32 - c)
/-- Four bytes. -/
def wordQ (b : List UInt8) : UInt32 := (b.take 4).foldl (fun n c => n <<< 8 ||| c.toUInt32) 0
theorem conv_u32 (c : UInt8) : IntKind.u32.wrap (c.toNat : Int) = q c.toUInt32 := by
  have := c.toNat_lt
  rw [wrap_u32 (by omega) (by omega)]
  simp [q]
structure S8 where
  a : UInt32
  b : UInt32
  c : UInt32
  d : UInt32
  e : UInt32
  f : UInt32
  g : UInt32
  h : UInt32
def S8.l (s : S8) : List UInt32 := [s.a, s.b, s.c, s.d, s.e, s.f, s.g, s.h]
def S8.add (s t : S8) : S8 := ⟨s.a + t.a, s.b + t.b, s.c + t.c, s.d + t.d, s.e + t.e, s.f + t.f, s.g + t.g, s.h + t.h⟩
def wInit (b : List UInt8) (t : Nat) : List UInt32 := (List.range 64).map fun j => if j < t then wordQ (b.drop (4 * j)) else 0
def wat (w : List UInt32) (j : Nat) : UInt32 := w.getD j 0
def wNew (w : List UInt32) (t : Nat) : UInt32 := wat w (t - 16) + (ror (wat w (t - 15)) 7 ^^^ ror (wat w (t - 15)) 18 ^^^ wat w (t - 15) >>> 3) + wat w (t - 7) + (ror (wat w (t - 2)) 17 ^^^ ror (wat w (t - 2)) 19 ^^^ wat w (t - 2) >>> 10)
/-- The words up to t. -/
def wUp (b : List UInt8) : Nat → List UInt32
  | 0 => wInit b 16
  | k + 1 => (wUp b k).set (16 + k) (wNew (wUp b k) (16 + k))
def rot3 (x : UInt32) (a b c : Nat) : UInt32 := ror x a ^^^ ror x b ^^^ ror x c
def round (w : List UInt32) (s : S8) (t : Nat) : S8 :=
  let p := s.h + rot3 s.e 6 11 25 + (s.g ^^^ s.e &&& (s.f ^^^ s.g)) + wat kNums t + wat w t
  let u := rot3 s.a 2 13 22 + (s.a &&& s.b ||| s.c &&& (s.a ||| s.b))
  ⟨p + u, s.a, s.b, s.c, s.d + p, s.e, s.f, s.g⟩
def rounds (w : List UInt32) (s : S8) : Nat → S8
  | 0 => s
  | t + 1 => round w (rounds w s t) t
def compress (s : S8) (b : List UInt8) : S8 := s.add (rounds (wUp b 48) s 64)
theorem wInit_len (b : List UInt8) (t : Nat) : (wInit b t).length = 64 := by simp [wInit]
theorem wUp_len (b : List UInt8) : ∀ t, (wUp b t).length = 64
  | 0 => wInit_len b 16
  | t + 1 => by simp [wUp, wUp_len b t]
theorem wInit_set (b : List UInt8) (t : Nat) (h : t < 64) : (wInit b t).set t (wordQ (b.drop (4 * t))) = wInit b (t + 1) := by
  refine List.ext_getElem? fun k => ?_
  rw [List.getElem?_set]
  by_cases hk : t = k
  · subst hk
    rw [if_pos rfl, if_pos (by rw [wInit_len]; exact h)]
    simp [wInit, h]
  · rw [if_neg hk]
    simp only [wInit, List.getElem?_map]
    by_cases hk2 : k < 64
    · simp [List.getElem?_range hk2]
      by_cases h1 : k < t
      · rw [if_pos h1, if_pos (by omega)]
      · rw [if_neg h1, if_neg (by omega)]
    · simp [hk2]
end Go.Proofs.YtfegfnekphobmaaDoor
end

section
namespace Go.Proofs.YtfegfnekphobmaaDoor
open Go Go.Proofs.YtfegfnekphobmaaDoor.AL
set_option maxRecDepth 8000
set_option maxHeartbeats 4000000
attribute [local simp] wq_add wq_xor wq_and wq_or
theorem word (b : List UInt8) (h : 4 ≤ b.length) : PCall Tryd.prog 53 [dBy b] (.ret (dq (wordQ b))) := by
  refine pcall_of_vc noC c53 (by simp [a53]) fun hr => ?_
  unfold dBy dq
  simp [a53]
  obtain ⟨b0, b1, b2, b3, r, rfl⟩ : ∃ b0 b1 b2 b3 r, b = b0 :: b1 :: b2 :: b3 :: r := by
    match b, h with
    | b0 :: b1 :: b2 :: b3 :: r, _ => exact ⟨b0, b1, b2, b3, r, rfl⟩
  refine ⟨by simp; omega, ?_⟩
  simp
  refine vc_loopK [6, 7] Nat (fun i => [(8, true, .d (dI i)), (2, true, .d (.lit (.int .u32 (q (([b0, b1, b2, b3].take i).foldl (fun n c => n <<< 8 ||| c.toUInt32) 0)))))]) (fun i => []) (fun i => i ≤ 4) (fun i => 4 - i) 0 (by simp) ⟨[], [], ?_⟩ (fun i hi => ?_)
  · simp [q]
  have h8 : ∀ x : UInt32, shiftV true .u32 (q x) 8 = .int .u32 (q (x <<< 8)) := fun x => shl_q x 8 (by omega)
  have hi4 : i = 0 ∨ i = 1 ∨ i = 2 ∨ i = 3 ∨ i = 4 := by omega
  have hw : IntKind.i64.wrap ((i : Int) + 1) = ((i + 1 : Nat) : Int) := by rw [wrap64 (by omega)]; omega
  rcases hi4 with rfl | rfl | rfl | rfl | rfl
  · simp at hw
    simp [dU, conv_u32, h8, hw]
    exact ⟨1, by omega, by omega, [], [], by simp [dU]⟩
  · simp at hw
    simp [dU, conv_u32, h8, hw]
    exact ⟨2, by omega, by omega, [], [], by simp [dU]⟩
  · simp at hw
    simp [dU, conv_u32, h8, hw]
    exact ⟨3, by omega, by omega, [], [], by simp [dU]⟩
  · simp at hw
    simp [dU, conv_u32, h8, hw]
    exact ⟨4, by omega, by omega, [], [], by simp [dU]⟩
  · simp [wordQ]
theorem rotl (x : UInt32) (c : Nat) (h1 : 0 < c) (h2 : c < 32) : PCall Tryd.prog 54 [dq x, dI (-(c : Int))] (.ret (dq (ror x c))) := by
  refine pcall_of_vc noC c54 (by simp [a54]) fun hr => ?_
  have k1 : ∀ c : Fin 31, IntKind.u64.wrap (((IntKind.u64.wrap (-((c.val + 1 : Nat) : Int)) % 2 ^ IntKind.u64.bits).toNat &&& 31 % 2 ^ IntKind.u64.bits : Nat) : Int) = ((31 - c.val : Nat) : Int) := by decide +kernel
  have k2 := k1 ⟨c - 1, by omega⟩
  rw [show c - 1 + 1 = c by omega, show 31 - (c - 1) = 32 - c by omega] at k2
  have k3 : IntKind.u64.wrap (32 - ((32 - c : Nat) : Int)) = (c : Int) := by rw [wrap_u64 (by omega) (by omega)]; omega
  have h1' := shl_q x (32 - c) (by omega)
  have h2' := shr_q x c h2
  unfold dq
  simp [a54, k2, k3, h1', h2']
  refine leD_of_eq ?_
  congr 3
  unfold ror
  exact UInt32.or_comm _ _
inductive C311 : FuncId → List D → Out → Prop
  | rot (x : UInt32) (c : Nat) (h1 : 0 < c) (h2 : c < 32) : C311 54 [dq x, dI (-(c : Int))] (.ret (dq (ror x c)))
theorem h311 : ∀ f ds out, C311 f ds out → PCall Tryd.prog f ds out := by
  intro f ds out h
  cases h with
  | rot x c h1 h2 => exact rotl x c h1 h2
theorem rotated (x : UInt32) (a b c : Nat) (ha : 0 < a ∧ a < 32) (hb : 0 < b ∧ b < 32) (hc : 0 < c ∧ c < 32) : PCall Tryd.prog 55 [dq x, dI a, dI b, dI c] (.ret (dq (rot3 x a b c))) := by
  refine pcall_of_vc h311 c55 (by simp [a55]) fun hr => ?_
  have e : ∀ n : Nat, n < 32 → IntKind.i64.wrap (-(n : Int)) = -(n : Int) := fun n hn => wrap64 (by omega)
  have h1 := C311.rot x a ha.1 ha.2
  have h2 := C311.rot x b hb.1 hb.2
  have h3 := C311.rot x c hc.1 hc.2
  unfold dq at *
  simp [a55]
  refine vc_path [.ret (dq (ror x a)), .ret (dq (ror x b)), .ret (dq (ror x c))] ?_
  unfold dq
  simp [e a ha.2, e b hb.2, e c hc.2]
  exact ⟨h1, h2, h3, leD_of_eq rfl⟩
end Go.Proofs.YtfegfnekphobmaaDoor
end
