/- Part of the proof: S1. -/
import Derived.Test.YtabddhmejpknbaaDoorProg
import Derived.KernelRfl
import Derived.Test.YtabddhmejpknbaaDoorE
set_option linter.unnecessarySimpa false
set_option linter.unusedVariables false
set_option linter.unusedSimpArgs false
section
namespace Go.Proofs.YtabddhmejpknbaaDoor
open Go Go.Proofs.YtabddhmejpknbaaDoor.AL
theorem mixed : Tryd.prog.follows .mixedOrders = true := by kernel_rfl
/-- gosem.cut.init -/
def a2 : AF where
  nt := 1
  body := (.region none [
      ⟨(some 0), none, (.call (.dat (.fn (.func 1) [] [])) [])⟩])
  res := []
theorem c2 : CmpF Tryd.prog 2 a2 := chkF_cmp (F := Tryd.f2) (by kernel_rfl) mixed (by kernel_rfl)
/-- hansard/hansardlaw17.StreamSpec -/
def a3 : AF where
  nt := 14
  body := (.seq (.region none [
      ⟨(some 1), none, (.op (.box true (.tmp 0)))⟩,
      ⟨(some 2), none, (.op (.mov (.dat (.lit (.bool false)))))⟩])
    (.seq (.seq (.region none [
      ⟨(some 3), none, (.call (.dat (.fn (.func 10) [] [])) [])⟩,
      ⟨(some 4), none, (.op (.not (.tmp 3)))⟩])
    (.cond (.tmp 4)
      (.seq (.region none [
        ⟨(some 2), none, (.op (.mov (.dat (.lit (.bool false)))))⟩])
      .ret)
      .skip))
    (.seq (.seq (.region none [
      ⟨(some 5), none, (.op (.field 0 1 false (.tmp 1)))⟩,
      ⟨(some 6), none, (.op (.load 1 false (.tmp 5)))⟩,
      ⟨(some 7), none, (.call (.dat (.fn (.func 11) [] [])) [(.tmp 6)])⟩,
      ⟨(some 8), none, (.op (.not (.tmp 7)))⟩])
    (.cond (.tmp 8)
      (.seq (.region none [
        ⟨(some 2), none, (.op (.mov (.dat (.lit (.bool true)))))⟩])
      .ret)
      .skip))
    (.seq (.region (some [[], [0], [], [0, 1, 2], [0, 1, 2, 3], [0, 1, 2, 3, 4]]) [
      ⟨(some 9), none, (.op (.load 2 true (.tmp 1)))⟩,
      ⟨(some 10), none, (.call (.dat (.fn (.func 12) [] [])) [(.tmp 9)])⟩,
      ⟨(some 11), none, (.op (.load 2 true (.tmp 1)))⟩,
      ⟨(some 12), none, (.call (.dat (.fn (.func 13) [] [])) [(.tmp 11)])⟩,
      ⟨(some 13), none, (.op (.arith .eql (.tmp 10) (.tmp 12)))⟩,
      ⟨(some 2), none, (.op (.mov (.tmp 13)))⟩])
    .ret))))
  res := [.tmp 2]
theorem c3 : CmpF Tryd.prog 3 a3 := chkF_cmp (F := Tryd.f3) (by kernel_rfl) mixed (by kernel_rfl)
/-- hansard/hansardlaw17.StreamDoSpec -/
def a4 : AF where
  nt := 35
  body := (.seq (.region none [
      ⟨(some 2), none, (.op (.box true (.tmp 0)))⟩,
      ⟨(some 3), none, (.op (.box true (.tmp 1)))⟩,
      ⟨(some 4), none, (.op (.mov (.dat (.lit (.bool false)))))⟩])
    (.seq (.seq (.region none [
      ⟨(some 9), none, (.call (.dat (.fn (.func 10) [] [])) [])⟩,
      ⟨(some 10), none, (.op (.not (.tmp 9)))⟩])
    (.cond (.tmp 10)
      (.seq (.region none [
        ⟨(some 4), none, (.op (.mov (.dat (.lit (.bool false)))))⟩])
      .ret)
      .skip))
    (.seq (.seq (.region none [
      ⟨(some 11), none, (.op (.load 2 true (.tmp 2)))⟩,
      ⟨(some 12), none, (.op (.load 4 true (.tmp 3)))⟩,
      ⟨(some 13), none, (.call (.dat (.fn (.func 14) [] [])) [(.tmp 11), (.tmp 12)])⟩,
      ⟨(some 14), none, (.op (.not (.tmp 13)))⟩])
    (.cond (.tmp 14)
      (.seq (.region none [
        ⟨(some 4), none, (.op (.mov (.dat (.lit (.bool true)))))⟩])
      .ret)
      .skip))
    (.seq (.region none [
      ⟨(some 16), none, (.op (.load 2 true (.tmp 2)))⟩,
      ⟨(some 17), none, (.op (.load 4 true (.tmp 3)))⟩,
      ⟨(some 18), none, (.call (.dat (.fn (.func 15) [] [])) [(.tmp 16), (.tmp 17)])⟩,
      ⟨(some 15), none, (.op (.mov (.tmp 18)))⟩,
      ⟨(some 19), none, (.op (.extract (.tmp 15) 0))⟩,
      ⟨(some 20), none, (.op (.extract (.tmp 15) 1))⟩,
      ⟨(some 5), none, (.op (.alloc true [.nil 5, .lit (.int .i64 0)]))⟩,
      ⟨none, none, (.op (.store 2 (.tmp 5) (.tmp 19)))⟩,
      ⟨(some 6), none, (.op (.mov (.tmp 20)))⟩])
    (.seq (.region none [
      ⟨(some 22), none, (.op (.load 2 true (.tmp 2)))⟩,
      ⟨(some 23), none, (.op (.load 4 true (.tmp 3)))⟩,
      ⟨(some 24), none, (.call (.dat (.fn (.func 16) [] [])) [(.tmp 22), (.tmp 23)])⟩,
      ⟨(some 21), none, (.op (.mov (.tmp 24)))⟩,
      ⟨(some 25), none, (.op (.extract (.tmp 21) 0))⟩,
      ⟨(some 26), none, (.op (.extract (.tmp 21) 1))⟩,
      ⟨(some 7), none, (.op (.alloc true [.nil 5, .lit (.int .i64 0)]))⟩,
      ⟨none, none, (.op (.store 2 (.tmp 7) (.tmp 25)))⟩,
      ⟨(some 8), none, (.op (.mov (.tmp 26)))⟩])
    (.seq (.region none [
      ⟨(some 27), none, (.op (.load 2 true (.tmp 5)))⟩,
      ⟨(some 28), none, (.op (.load 2 true (.tmp 7)))⟩,
      ⟨(some 29), none, (.call (.dat (.fn (.func 17) [] [])) [(.tmp 27), (.tmp 28)])⟩,
      ⟨(some 30), none, (.op (.mov (.tmp 29)))⟩,
      ⟨(some 31), (some (30, true)), (.op (.mov (.tmp 6)))⟩,
      ⟨(some 32), (some (30, true)), (.op (.mov (.tmp 8)))⟩,
      ⟨(some 33), (some (30, true)), (.op (.arith .eql (.tmp 31) (.tmp 32)))⟩,
      ⟨(some 34), none, (.op (.pick (.tmp 30) (.tmp 33) (.dat (.lit (.bool false)))))⟩,
      ⟨(some 4), none, (.op (.mov (.tmp 34)))⟩])
    .ret))))))
  res := [.tmp 4]
theorem c4 : CmpF Tryd.prog 4 a4 := chkF_cmp (F := Tryd.f4) (by kernel_rfl) mixed (by kernel_rfl)
/-- hansard/hansardlaw17.StreamFixed -/
def a5 : AF where
  nt := 106
  body := (.seq (.region none [
      ⟨(some 2), none, (.op (.box true (.tmp 0)))⟩,
      ⟨(some 4), none, (.op (.mov (.dat (.lit (.bool false)))))⟩])
    (.seq (.seq (.region none [
      ⟨(some 10), none, (.call (.dat (.fn (.func 10) [] [])) [])⟩,
      ⟨(some 11), none, (.op (.not (.tmp 10)))⟩])
    (.cond (.tmp 11)
      (.seq (.region none [
        ⟨(some 4), none, (.op (.mov (.dat (.lit (.bool false)))))⟩])
      .ret)
      .skip))
    (.seq (.seq (.region none [
      ⟨(some 12), none, (.op (.load 2 true (.tmp 2)))⟩,
      ⟨(some 13), none, (.op (.mov (.tmp 1)))⟩,
      ⟨(some 14), none, (.call (.dat (.fn (.func 18) [] [])) [(.tmp 12), (.tmp 13)])⟩,
      ⟨(some 15), none, (.op (.not (.tmp 14)))⟩,
      ⟨(some 16), none, (.op (.mov (.tmp 15)))⟩,
      ⟨(some 17), (some (16, false)), (.op (.load 2 true (.tmp 2)))⟩,
      ⟨(some 18), (some (16, false)), (.call (.dat (.fn (.func 12) [] [])) [(.tmp 17)])⟩,
      ⟨(some 19), (some (16, false)), (.op (.arith .neq (.tmp 18) (.dat (.lit (.int .i64 0)))))⟩,
      ⟨(some 20), none, (.op (.pick (.tmp 16) (.dat (.lit (.bool true))) (.tmp 19)))⟩,
      ⟨(some 21), none, (.op (.mov (.tmp 20)))⟩,
      ⟨(some 22), (some (21, false)), (.op (.field 1 1 false (.tmp 2)))⟩,
      ⟨(some 23), (some (21, false)), (.op (.load 1 false (.tmp 22)))⟩,
      ⟨(some 24), (some (21, false)), (.op (.arith .lss (.tmp 23) (.dat (.lit (.int .i64 0)))))⟩,
      ⟨(some 25), none, (.op (.pick (.tmp 21) (.dat (.lit (.bool true))) (.tmp 24)))⟩,
      ⟨(some 26), none, (.op (.mov (.tmp 25)))⟩,
      ⟨(some 27), (some (26, false)), (.op (.field 1 1 false (.tmp 2)))⟩,
      ⟨(some 28), (some (26, false)), (.op (.load 1 false (.tmp 27)))⟩,
      ⟨(some 29), (some (26, false)), (.op (.field 0 1 false (.tmp 2)))⟩,
      ⟨(some 30), (some (26, false)), (.op (.load 1 false (.tmp 29)))⟩,
      ⟨(some 31), (some (26, false)), (.op (.len (.tmp 30)))⟩,
      ⟨(some 32), (some (26, false)), (.op (.arith .gtr (.tmp 28) (.tmp 31)))⟩,
      ⟨(some 33), none, (.op (.pick (.tmp 26) (.dat (.lit (.bool true))) (.tmp 32)))⟩])
    (.cond (.tmp 33)
      (.seq (.region none [
        ⟨(some 4), none, (.op (.mov (.dat (.lit (.bool true)))))⟩])
      .ret)
      .skip))
    (.seq (.region none [
      ⟨(some 34), none, (.op (.load 2 true (.tmp 2)))⟩,
      ⟨(some 5), none, (.op (.alloc true [.nil 5, .lit (.int .i64 0)]))⟩,
      ⟨none, none, (.op (.store 2 (.tmp 5) (.tmp 34)))⟩])
    (.seq (.seq (.region none [
      ⟨(some 35), none, (.op (.mov (.tmp 1)))⟩,
      ⟨(some 36), none, (.op (.len (.tmp 35)))⟩,
      ⟨(some 37), none, (.op (.mov (.dat (.lit (.int .i64 0)))))⟩])
    (.block 0
      (.loop
        (.seq (.region none [
          ⟨(some 38), none, (.op (.arith .lss (.tmp 37) (.tmp 36)))⟩])
        (.seq (.cond (.tmp 38)
          .skip
          (.exit 0))
        (.seq (.block 1
          (.seq (.region none [
            ⟨(some 39), none, (.op (.index 4 (.tmp 35) (.tmp 37)))⟩,
            ⟨(some 40), none, (.op (.load 4 true (.tmp 39)))⟩,
            ⟨(some 7), none, (.op (.alloc true [.lit (.int .i64 0), .lit (.int .i64 0), .lit (.int .i64 0), .nil 5]))⟩,
            ⟨none, none, (.op (.store 4 (.tmp 7) (.tmp 40)))⟩])
          (.seq (.region none [
            ⟨(some 42), none, (.op (.load 2 true (.tmp 5)))⟩,
            ⟨(some 43), none, (.op (.load 4 true (.tmp 7)))⟩,
            ⟨(some 44), none, (.call (.dat (.fn (.func 15) [] [])) [(.tmp 42), (.tmp 43)])⟩,
            ⟨(some 41), none, (.op (.mov (.tmp 44)))⟩,
            ⟨(some 45), none, (.op (.extract (.tmp 41) 0))⟩,
            ⟨(some 46), none, (.op (.extract (.tmp 41) 1))⟩,
            ⟨(some 8), none, (.op (.alloc true [.nil 5, .lit (.int .i64 0)]))⟩,
            ⟨none, none, (.op (.store 2 (.tmp 8) (.tmp 45)))⟩,
            ⟨(some 9), none, (.op (.mov (.tmp 46)))⟩])
          (.seq (.seq (.region none [
            ⟨(some 47), none, (.op (.mov (.tmp 9)))⟩,
            ⟨(some 48), none, (.op (.arith .neq (.tmp 47) (.dat (.lit (.int .i64 0)))))⟩])
          (.cond (.tmp 48)
            (.seq (.seq (.region none [
              ⟨(some 49), none, (.op (.load 2 true (.tmp 8)))⟩,
              ⟨(some 50), none, (.op (.build [.nil 5, .lit (.int .i64 0)] []))⟩,
              ⟨(some 51), none, (.call (.dat (.fn (.func 17) [] [])) [(.tmp 49), (.tmp 50)])⟩,
              ⟨(some 52), none, (.op (.not (.tmp 51)))⟩])
            (.cond (.tmp 52)
              (.seq (.region none [
                ⟨(some 4), none, (.op (.mov (.dat (.lit (.bool false)))))⟩])
              .ret)
              .skip))
            (.exit 1))
            .skip))
          (.seq (.seq (.region (some [[], [0], [], [2], [0, 1, 2, 3], [0, 1, 2, 3, 4], [0, 1, 2, 3, 4, 5], [0, 1, 2, 3, 4, 5, 6], [0, 1, 2, 3, 4, 5], [0, 1, 2, 3, 4, 5, 8], [0, 1, 2, 3, 4, 5, 8, 9], [0, 1, 2, 3, 4, 5, 6, 7, 8, 9, 10], [0, 1, 2, 3, 4, 5, 6, 7, 8, 9, 10, 11], [0, 1, 2, 3, 4, 5, 6, 7, 8, 9, 10, 11, 12], [0, 1, 2, 3, 4, 5, 6, 7, 8, 9, 10, 11, 12, 13], [0, 1, 2, 3, 4, 5, 6, 7, 8, 9, 10, 11, 12, 13, 14], [0, 1, 2, 3, 4, 5, 6, 7, 8, 9, 10, 11, 12, 13], [0, 1, 2, 3, 4, 5, 6, 7, 8, 9, 10, 11, 12, 13, 16], [0, 1, 2, 3, 4, 5, 6, 7, 8, 9, 10, 11, 12, 13, 14, 15, 16, 17], [0, 1, 2, 3, 4, 5, 6, 7, 8, 9, 10, 11, 12, 13], [0, 1, 2, 3, 4, 5, 6, 7, 8, 9, 10, 11, 12, 13, 19], [0, 1, 2, 3, 4, 5, 6, 7, 8, 9, 10, 11, 12, 13], [0, 1, 2, 3, 4, 5, 6, 7, 8, 9, 10, 11, 12, 13, 21], [0, 1, 2, 3, 4, 5, 6, 7, 8, 9, 10, 11, 12, 13, 19, 20, 21, 22], [0, 1, 2, 3, 4, 5, 6, 7, 8, 9, 10, 11, 12, 13, 14, 15, 16, 17, 18, 19, 20, 21, 22, 23], [0, 1, 2, 3, 4, 5, 6, 7, 8, 9, 10, 11, 12, 13, 14, 15, 16, 17, 18, 19, 20, 21, 22, 23, 24], [0, 1, 2, 3, 4, 5, 6, 7, 8, 9, 10, 11, 12, 13, 14, 15, 16, 17, 18, 19, 20, 21, 22, 23, 24, 25], [0, 1, 2, 3, 4, 5, 6, 7, 8, 9, 10, 11, 12, 13, 14, 15, 16, 17, 18, 19, 20, 21, 22, 23, 24, 25, 26], [0, 1, 2, 3, 4, 5, 6, 7, 8, 9, 10, 11, 12, 13, 14, 15, 16, 17, 18, 19, 20, 21, 22, 23, 24, 25, 26, 27], [0, 1, 2, 3, 4, 5, 6, 7, 8, 9, 10, 11, 12, 13, 14, 15, 16, 17, 18, 19, 20, 21, 22, 23, 24, 25, 26, 27, 28], [0, 1, 2, 3, 4, 5, 6, 7, 8, 9, 10, 11, 12, 13, 14, 15, 16, 17, 18, 19, 20, 21, 22, 23, 24, 25, 26, 27, 28, 29], [0, 1, 2, 3, 4, 5, 6, 7, 8, 9, 10, 11, 12, 13, 14, 15, 16, 17, 18, 19, 20, 21, 22, 23, 24, 25, 26, 27, 28, 29, 30]]) [
            ⟨(some 53), none, (.op (.field 1 1 false (.tmp 8)))⟩,
            ⟨(some 54), none, (.op (.load 1 false (.tmp 53)))⟩,
            ⟨(some 55), none, (.op (.field 1 1 false (.tmp 5)))⟩,
            ⟨(some 56), none, (.op (.load 1 false (.tmp 55)))⟩,
            ⟨(some 57), none, (.op (.arith .lss (.tmp 54) (.tmp 56)))⟩,
            ⟨(some 58), none, (.op (.mov (.tmp 57)))⟩,
            ⟨(some 59), (some (58, false)), (.op (.field 1 1 false (.tmp 8)))⟩,
            ⟨(some 60), (some (58, false)), (.op (.load 1 false (.tmp 59)))⟩,
            ⟨(some 61), (some (58, false)), (.op (.field 0 1 false (.tmp 8)))⟩,
            ⟨(some 62), (some (58, false)), (.op (.load 1 false (.tmp 61)))⟩,
            ⟨(some 63), (some (58, false)), (.op (.len (.tmp 62)))⟩,
            ⟨(some 64), (some (58, false)), (.op (.arith .gtr (.tmp 60) (.tmp 63)))⟩,
            ⟨(some 65), none, (.op (.pick (.tmp 58) (.dat (.lit (.bool true))) (.tmp 64)))⟩,
            ⟨(some 66), none, (.op (.mov (.tmp 65)))⟩,
            ⟨(some 67), (some (66, false)), (.op (.field 0 1 false (.tmp 8)))⟩,
            ⟨(some 68), (some (66, false)), (.op (.load 1 false (.tmp 67)))⟩,
            ⟨(some 69), (some (66, false)), (.op (.field 1 1 false (.tmp 5)))⟩,
            ⟨(some 70), (some (66, false)), (.op (.load 1 false (.tmp 69)))⟩,
            ⟨(some 71), (some (66, false)), (.op (.slice 5 (.tmp 68) none (some (.tmp 70))))⟩,
            ⟨(some 72), (some (66, false)), (.op (.field 0 1 false (.tmp 5)))⟩,
            ⟨(some 73), (some (66, false)), (.op (.load 1 false (.tmp 72)))⟩,
            ⟨(some 74), (some (66, false)), (.op (.field 1 1 false (.tmp 5)))⟩,
            ⟨(some 75), (some (66, false)), (.op (.load 1 false (.tmp 74)))⟩,
            ⟨(some 76), (some (66, false)), (.op (.slice 5 (.tmp 73) none (some (.tmp 75))))⟩,
            ⟨(some 77), (some (66, false)), (.call (.dat (.fn (.func 19) [] [])) [(.tmp 71), (.tmp 76)])⟩,
            ⟨(some 78), (some (66, false)), (.op (.not (.tmp 77)))⟩,
            ⟨(some 79), none, (.op (.pick (.tmp 66) (.dat (.lit (.bool true))) (.tmp 78)))⟩,
            ⟨(some 80), none, (.op (.mov (.tmp 79)))⟩,
            ⟨(some 81), (some (80, false)), (.op (.load 2 true (.tmp 8)))⟩,
            ⟨(some 82), (some (80, false)), (.call (.dat (.fn (.func 12) [] [])) [(.tmp 81)])⟩,
            ⟨(some 83), (some (80, false)), (.op (.arith .neq (.tmp 82) (.dat (.lit (.int .i64 0)))))⟩,
            ⟨(some 84), none, (.op (.pick (.tmp 80) (.dat (.lit (.bool true))) (.tmp 83)))⟩])
          (.cond (.tmp 84)
            (.seq (.region none [
              ⟨(some 4), none, (.op (.mov (.dat (.lit (.bool false)))))⟩])
            .ret)
            .skip))
          (.region none [
            ⟨(some 85), none, (.op (.load 2 true (.tmp 8)))⟩,
            ⟨none, none, (.op (.store 2 (.tmp 5) (.tmp 85)))⟩]))))))
        (.region none [
          ⟨(some 86), none, (.op (.arith .add (.tmp 37) (.dat (.lit (.int .i64 1)))))⟩,
          ⟨(some 37), none, (.op (.mov (.tmp 86)))⟩])))))))
    (.seq (.region (some [[], [0], [0, 1], [], [3], [0, 1, 2, 3, 4], [0, 1, 2, 3, 4, 5], [0, 1, 2, 3, 4, 5, 6], [0, 1, 2, 3, 4, 5, 6, 7], [0, 1, 2, 3, 4, 5, 6], [0, 1, 2, 3, 4, 5, 6, 9], [0, 1, 2, 3, 4, 5, 6, 7, 8, 9, 10], [0, 1, 2, 3, 4, 5, 6], [0, 1, 2, 3, 4, 5, 6, 12], [0, 1, 2, 3, 4, 5, 6], [0, 1, 2, 3, 4, 5, 6, 14], [0, 1, 2, 3, 4, 5, 6, 12, 13, 14, 15], [0, 1, 2, 3, 4, 5, 6, 7, 8, 9, 10, 11, 12, 13, 14, 15, 16], [0, 1, 2, 3, 4, 5, 6, 7, 8, 9, 10, 11, 12, 13, 14, 15, 16, 17], [0, 1, 2, 3, 4, 5, 6, 7, 8, 9, 10, 11, 12, 13, 14, 15, 16, 17, 18]]) [
      ⟨(some 87), none, (.op (.field 0 1 false (.tmp 5)))⟩,
      ⟨(some 88), none, (.op (.load 1 false (.tmp 87)))⟩,
      ⟨(some 89), none, (.op (.len (.tmp 88)))⟩,
      ⟨(some 90), none, (.op (.field 1 1 false (.tmp 2)))⟩,
      ⟨(some 91), none, (.op (.load 1 false (.tmp 90)))⟩,
      ⟨(some 92), none, (.op (.arith .geq (.tmp 89) (.tmp 91)))⟩,
      ⟨(some 93), none, (.op (.mov (.tmp 92)))⟩,
      ⟨(some 94), (some (93, true)), (.op (.field 0 1 false (.tmp 5)))⟩,
      ⟨(some 95), (some (93, true)), (.op (.load 1 false (.tmp 94)))⟩,
      ⟨(some 96), (some (93, true)), (.op (.field 1 1 false (.tmp 2)))⟩,
      ⟨(some 97), (some (93, true)), (.op (.load 1 false (.tmp 96)))⟩,
      ⟨(some 98), (some (93, true)), (.op (.slice 5 (.tmp 95) none (some (.tmp 97))))⟩,
      ⟨(some 99), (some (93, true)), (.op (.field 0 1 false (.tmp 2)))⟩,
      ⟨(some 100), (some (93, true)), (.op (.load 1 false (.tmp 99)))⟩,
      ⟨(some 101), (some (93, true)), (.op (.field 1 1 false (.tmp 2)))⟩,
      ⟨(some 102), (some (93, true)), (.op (.load 1 false (.tmp 101)))⟩,
      ⟨(some 103), (some (93, true)), (.op (.slice 5 (.tmp 100) none (some (.tmp 102))))⟩,
      ⟨(some 104), (some (93, true)), (.call (.dat (.fn (.func 19) [] [])) [(.tmp 98), (.tmp 103)])⟩,
      ⟨(some 105), none, (.op (.pick (.tmp 93) (.tmp 104) (.dat (.lit (.bool false)))))⟩,
      ⟨(some 4), none, (.op (.mov (.tmp 105)))⟩])
    .ret))))))
  res := [.tmp 4]
theorem c5 : CmpF Tryd.prog 5 a5 := chkF_cmp (F := Tryd.f5) (by kernel_rfl) mixed (by kernel_rfl)
/-- hansard/hansardlaw17.StreamBack -/
def a6 : AF where
  nt := 82
  body := (.seq (.region none [
      ⟨(some 2), none, (.op (.box true (.tmp 0)))⟩,
      ⟨(some 3), none, (.op (.box true (.tmp 1)))⟩,
      ⟨(some 4), none, (.op (.mov (.dat (.lit (.bool false)))))⟩])
    (.seq (.seq (.region none [
      ⟨(some 9), none, (.call (.dat (.fn (.func 10) [] [])) [])⟩,
      ⟨(some 10), none, (.op (.not (.tmp 9)))⟩])
    (.cond (.tmp 10)
      (.seq (.region none [
        ⟨(some 4), none, (.op (.mov (.dat (.lit (.bool false)))))⟩])
      .ret)
      .skip))
    (.seq (.seq (.region none [
      ⟨(some 11), none, (.op (.load 2 true (.tmp 2)))⟩,
      ⟨(some 12), none, (.op (.load 4 true (.tmp 3)))⟩,
      ⟨(some 13), none, (.op (.mkslice 4 [(.tmp 12)]))⟩,
      ⟨(some 14), none, (.call (.dat (.fn (.func 18) [] [])) [(.tmp 11), (.tmp 13)])⟩,
      ⟨(some 15), none, (.op (.not (.tmp 14)))⟩])
    (.cond (.tmp 15)
      (.seq (.region none [
        ⟨(some 4), none, (.op (.mov (.dat (.lit (.bool true)))))⟩])
      .ret)
      .skip))
    (.seq (.region none [
      ⟨(some 17), none, (.op (.load 2 true (.tmp 2)))⟩,
      ⟨(some 18), none, (.op (.load 4 true (.tmp 3)))⟩,
      ⟨(some 19), none, (.call (.dat (.fn (.func 15) [] [])) [(.tmp 17), (.tmp 18)])⟩,
      ⟨(some 16), none, (.op (.mov (.tmp 19)))⟩,
      ⟨(some 20), none, (.op (.extract (.tmp 16) 0))⟩,
      ⟨(some 21), none, (.op (.extract (.tmp 16) 1))⟩,
      ⟨(some 5), none, (.op (.alloc true [.nil 5, .lit (.int .i64 0)]))⟩,
      ⟨none, none, (.op (.store 2 (.tmp 5) (.tmp 20)))⟩,
      ⟨(some 6), none, (.op (.mov (.tmp 21)))⟩])
    (.seq (.seq (.region none [
      ⟨(some 22), none, (.op (.mov (.tmp 6)))⟩,
      ⟨(some 23), none, (.op (.arith .neq (.tmp 22) (.dat (.lit (.int .i64 0)))))⟩,
      ⟨(some 24), none, (.op (.mov (.tmp 23)))⟩,
      ⟨(some 25), (some (24, false)), (.op (.field 0 1 false (.tmp 3)))⟩,
      ⟨(some 26), (some (24, false)), (.op (.load 1 false (.tmp 25)))⟩,
      ⟨(some 27), (some (24, false)), (.op (.arith .neq (.tmp 26) (.dat (.lit (.int .i64 2)))))⟩,
      ⟨(some 28), none, (.op (.pick (.tmp 24) (.dat (.lit (.bool true))) (.tmp 27)))⟩,
      ⟨(some 29), none, (.op (.mov (.tmp 28)))⟩,
      ⟨(some 30), (some (29, false)), (.op (.field 3 1 false (.tmp 3)))⟩,
      ⟨(some 31), (some (29, false)), (.op (.load 1 false (.tmp 30)))⟩,
      ⟨(some 32), (some (29, false)), (.op (.len (.tmp 31)))⟩,
      ⟨(some 33), (some (29, false)), (.op (.arith .eql (.tmp 32) (.dat (.lit (.int .i64 0)))))⟩,
      ⟨(some 34), none, (.op (.pick (.tmp 29) (.dat (.lit (.bool true))) (.tmp 33)))⟩])
    (.cond (.tmp 34)
      (.seq (.region none [
        ⟨(some 4), none, (.op (.mov (.dat (.lit (.bool true)))))⟩])
      .ret)
      .skip))
    (.seq (.seq (.region none [
      ⟨(some 35), none, (.op (.field 1 1 false (.tmp 3)))⟩,
      ⟨(some 36), none, (.op (.load 1 false (.tmp 35)))⟩,
      ⟨(some 37), none, (.op (.arith .lss (.tmp 36) (.dat (.lit (.int .i64 0)))))⟩,
      ⟨(some 38), none, (.op (.mov (.tmp 37)))⟩,
      ⟨(some 39), (some (38, false)), (.op (.field 2 1 false (.tmp 3)))⟩,
      ⟨(some 40), (some (38, false)), (.op (.load 1 false (.tmp 39)))⟩,
      ⟨(some 41), (some (38, false)), (.op (.arith .lss (.tmp 40) (.dat (.lit (.int .i64 1)))))⟩,
      ⟨(some 42), none, (.op (.pick (.tmp 38) (.dat (.lit (.bool true))) (.tmp 41)))⟩,
      ⟨(some 43), none, (.op (.mov (.tmp 42)))⟩,
      ⟨(some 44), (some (43, false)), (.op (.field 1 1 false (.tmp 3)))⟩,
      ⟨(some 45), (some (43, false)), (.op (.load 1 false (.tmp 44)))⟩,
      ⟨(some 46), (some (43, false)), (.op (.field 2 1 false (.tmp 3)))⟩,
      ⟨(some 47), (some (43, false)), (.op (.load 1 false (.tmp 46)))⟩,
      ⟨(some 48), (some (43, false)), (.op (.arith .add (.tmp 45) (.tmp 47)))⟩,
      ⟨(some 49), (some (43, false)), (.op (.field 0 1 false (.tmp 2)))⟩,
      ⟨(some 50), (some (43, false)), (.op (.load 1 false (.tmp 49)))⟩,
      ⟨(some 51), (some (43, false)), (.op (.len (.tmp 50)))⟩,
      ⟨(some 52), (some (43, false)), (.op (.arith .gtr (.tmp 48) (.tmp 51)))⟩,
      ⟨(some 53), none, (.op (.pick (.tmp 43) (.dat (.lit (.bool true))) (.tmp 52)))⟩])
    (.cond (.tmp 53)
      (.seq (.region none [
        ⟨(some 4), none, (.op (.mov (.dat (.lit (.bool false)))))⟩])
      .ret)
      .skip))
    (.seq (.region (some [[], [], [1], [], [3], [3, 4], [], [6], [], [8], [], [10], [], [12], [10, 11, 12, 13], [6, 7, 8, 9, 10, 11, 12, 13, 14], [1, 2, 3, 4, 5, 6, 7, 8, 9, 10, 11, 12, 13, 14, 15], [0, 1, 2, 3, 4, 5, 6, 7, 8, 9, 10, 11, 12, 13, 14, 15, 16], [0, 1, 2, 3, 4, 5, 6, 7, 8, 9, 10, 11, 12, 13, 14, 15, 16, 17], [0, 1, 2, 3, 4, 5, 6, 7, 8, 9, 10, 11, 12, 13, 14, 15, 16, 17, 18], [0, 1, 2, 3, 4, 5, 6, 7, 8, 9, 10, 11, 12, 13, 14, 15, 16, 17, 18], [], [0, 1, 2, 3, 4, 5, 6, 7, 8, 9, 10, 11, 12, 13, 14, 15, 16, 17, 18, 19, 21], [0, 1, 2, 3, 4, 5, 6, 7, 8, 9, 10, 11, 12, 13, 14, 15, 16, 17, 18, 19, 20, 21, 22]]) [
      ⟨(some 55), none, (.op (.load 2 true (.tmp 5)))⟩,
      ⟨(some 56), none, (.op (.field 1 1 false (.tmp 3)))⟩,
      ⟨(some 57), none, (.op (.load 1 false (.tmp 56)))⟩,
      ⟨(some 58), none, (.op (.field 3 1 false (.tmp 3)))⟩,
      ⟨(some 59), none, (.op (.load 1 false (.tmp 58)))⟩,
      ⟨(some 60), none, (.op (.len (.tmp 59)))⟩,
      ⟨(some 61), none, (.op (.field 0 1 false (.tmp 2)))⟩,
      ⟨(some 62), none, (.op (.load 1 false (.tmp 61)))⟩,
      ⟨(some 63), none, (.op (.field 1 1 false (.tmp 3)))⟩,
      ⟨(some 64), none, (.op (.load 1 false (.tmp 63)))⟩,
      ⟨(some 65), none, (.op (.field 1 1 false (.tmp 3)))⟩,
      ⟨(some 66), none, (.op (.load 1 false (.tmp 65)))⟩,
      ⟨(some 67), none, (.op (.field 2 1 false (.tmp 3)))⟩,
      ⟨(some 68), none, (.op (.load 1 false (.tmp 67)))⟩,
      ⟨(some 69), none, (.op (.arith .add (.tmp 66) (.tmp 68)))⟩,
      ⟨(some 70), none, (.op (.slice 5 (.tmp 62) (some (.tmp 64)) (some (.tmp 69))))⟩,
      ⟨(some 71), none, (.op (.build [.lit (.int .i64 0), .lit (.int .i64 0), .lit (.int .i64 0), .nil 5] [(0, 1, (.dat (.lit (.int .i64 2)))), (1, 1, (.tmp 57)), (2, 1, (.tmp 60)), (3, 1, (.tmp 70))]))⟩,
      ⟨(some 72), none, (.call (.dat (.fn (.func 15) [] [])) [(.tmp 55), (.tmp 71)])⟩,
      ⟨(some 54), none, (.op (.mov (.tmp 72)))⟩,
      ⟨(some 73), none, (.op (.extract (.tmp 54) 0))⟩,
      ⟨(some 74), none, (.op (.extract (.tmp 54) 1))⟩,
      ⟨(some 7), none, (.op (.alloc true [.nil 5, .lit (.int .i64 0)]))⟩,
      ⟨none, none, (.op (.store 2 (.tmp 7) (.tmp 73)))⟩,
      ⟨(some 8), none, (.op (.mov (.tmp 74)))⟩])
    (.seq (.region none [
      ⟨(some 75), none, (.op (.mov (.tmp 8)))⟩,
      ⟨(some 76), none, (.op (.arith .eql (.tmp 75) (.dat (.lit (.int .i64 0)))))⟩,
      ⟨(some 77), none, (.op (.mov (.tmp 76)))⟩,
      ⟨(some 78), (some (77, true)), (.op (.load 2 true (.tmp 7)))⟩,
      ⟨(some 79), (some (77, true)), (.op (.load 2 true (.tmp 2)))⟩,
      ⟨(some 80), (some (77, true)), (.call (.dat (.fn (.func 17) [] [])) [(.tmp 78), (.tmp 79)])⟩,
      ⟨(some 81), none, (.op (.pick (.tmp 77) (.tmp 80) (.dat (.lit (.bool false)))))⟩,
      ⟨(some 4), none, (.op (.mov (.tmp 81)))⟩])
    .ret))))))))
  res := [.tmp 4]
theorem c6 : CmpF Tryd.prog 6 a6 := chkF_cmp (F := Tryd.f6) (by kernel_rfl) mixed (by kernel_rfl)
/-- hansard/hansardlaw17.StreamAdds -/
def a7 : AF where
  nt := 77
  body := (.seq (.region none [
      ⟨(some 3), none, (.op (.box true (.tmp 0)))⟩,
      ⟨(some 6), none, (.op (.mov (.dat (.lit (.bool false)))))⟩])
    (.seq (.seq (.region none [
      ⟨(some 14), none, (.call (.dat (.fn (.func 10) [] [])) [])⟩,
      ⟨(some 15), none, (.op (.not (.tmp 14)))⟩])
    (.cond (.tmp 15)
      (.seq (.region none [
        ⟨(some 6), none, (.op (.mov (.dat (.lit (.bool false)))))⟩])
      .ret)
      .skip))
    (.seq (.seq (.region none [
      ⟨(some 16), none, (.op (.load 2 true (.tmp 3)))⟩,
      ⟨(some 17), none, (.op (.mov (.tmp 1)))⟩,
      ⟨(some 18), none, (.op (.build [.lit (.int .i64 0), .lit (.int .i64 0), .lit (.int .i64 0), .nil 5] [(3, 1, (.tmp 17))]))⟩,
      ⟨(some 19), none, (.op (.mkslice 4 [(.tmp 18)]))⟩,
      ⟨(some 20), none, (.call (.dat (.fn (.func 18) [] [])) [(.tmp 16), (.tmp 19)])⟩,
      ⟨(some 21), none, (.op (.not (.tmp 20)))⟩,
      ⟨(some 22), none, (.op (.mov (.tmp 21)))⟩,
      ⟨(some 23), (some (22, false)), (.op (.mov (.tmp 1)))⟩,
      ⟨(some 24), (some (22, false)), (.op (.len (.tmp 23)))⟩,
      ⟨(some 25), (some (22, false)), (.op (.arith .lss (.tmp 24) (.dat (.lit (.int .i64 2)))))⟩,
      ⟨(some 26), none, (.op (.pick (.tmp 22) (.dat (.lit (.bool true))) (.tmp 25)))⟩,
      ⟨(some 27), none, (.op (.mov (.tmp 26)))⟩,
      ⟨(some 28), (some (27, false)), (.op (.mov (.tmp 1)))⟩,
      ⟨(some 29), (some (27, false)), (.op (.len (.tmp 28)))⟩,
      ⟨(some 30), (some (27, false)), (.op (.arith .gtr (.tmp 29) (.dat (.lit (.int .i64 64)))))⟩,
      ⟨(some 31), none, (.op (.pick (.tmp 27) (.dat (.lit (.bool true))) (.tmp 30)))⟩])
    (.cond (.tmp 31)
      (.seq (.region none [
        ⟨(some 6), none, (.op (.mov (.dat (.lit (.bool true)))))⟩])
      .ret)
      .skip))
    (.seq (.region none [
      ⟨(some 32), none, (.op (.mov (.tmp 2)))⟩,
      ⟨(some 33), none, (.op (.conv .i64 (.tmp 32)))⟩,
      ⟨(some 34), none, (.op (.mov (.tmp 1)))⟩,
      ⟨(some 35), none, (.op (.len (.tmp 34)))⟩,
      ⟨(some 36), none, (.op (.arith .sub (.tmp 35) (.dat (.lit (.int .i64 1)))))⟩,
      ⟨(some 37), none, (.op (.arith .rem (.tmp 33) (.tmp 36)))⟩,
      ⟨(some 38), none, (.op (.arith .add (.dat (.lit (.int .i64 1))) (.tmp 37)))⟩,
      ⟨(some 7), none, (.op (.mov (.tmp 38)))⟩])
    (.seq (.region none [
      ⟨(some 40), none, (.op (.load 2 true (.tmp 3)))⟩,
      ⟨(some 41), none, (.op (.mov (.tmp 1)))⟩,
      ⟨(some 42), none, (.op (.build [.lit (.int .i64 0), .lit (.int .i64 0), .lit (.int .i64 0), .nil 5] [(0, 1, (.dat (.lit (.int .i64 1)))), (3, 1, (.tmp 41))]))⟩,
      ⟨(some 43), none, (.call (.dat (.fn (.func 15) [] [])) [(.tmp 40), (.tmp 42)])⟩,
      ⟨(some 39), none, (.op (.mov (.tmp 43)))⟩,
      ⟨(some 44), none, (.op (.extract (.tmp 39) 0))⟩,
      ⟨(some 45), none, (.op (.extract (.tmp 39) 1))⟩,
      ⟨(some 8), none, (.op (.alloc true [.nil 5, .lit (.int .i64 0)]))⟩,
      ⟨none, none, (.op (.store 2 (.tmp 8) (.tmp 44)))⟩,
      ⟨(some 9), none, (.op (.mov (.tmp 45)))⟩])
    (.seq (.region (some [[], [], [], [1, 2], [1, 2, 3], [0, 1, 2, 3, 4], [0, 1, 2, 3, 4, 5], [0, 1, 2, 3, 4, 5, 6], [0, 1, 2, 3, 4, 5, 6], [], [0, 1, 2, 3, 4, 5, 6, 7, 9], [0, 1, 2, 3, 4, 5, 6, 7, 8, 9, 10]]) [
      ⟨(some 47), none, (.op (.load 2 true (.tmp 3)))⟩,
      ⟨(some 48), none, (.op (.mov (.tmp 1)))⟩,
      ⟨(some 49), none, (.op (.mov (.tmp 7)))⟩,
      ⟨(some 50), none, (.op (.slice 5 (.tmp 48) none (some (.tmp 49))))⟩,
      ⟨(some 51), none, (.op (.build [.lit (.int .i64 0), .lit (.int .i64 0), .lit (.int .i64 0), .nil 5] [(0, 1, (.dat (.lit (.int .i64 1)))), (3, 1, (.tmp 50))]))⟩,
      ⟨(some 52), none, (.call (.dat (.fn (.func 15) [] [])) [(.tmp 47), (.tmp 51)])⟩,
      ⟨(some 46), none, (.op (.mov (.tmp 52)))⟩,
      ⟨(some 53), none, (.op (.extract (.tmp 46) 0))⟩,
      ⟨(some 54), none, (.op (.extract (.tmp 46) 1))⟩,
      ⟨(some 10), none, (.op (.alloc true [.nil 5, .lit (.int .i64 0)]))⟩,
      ⟨none, none, (.op (.store 2 (.tmp 10) (.tmp 53)))⟩,
      ⟨(some 11), none, (.op (.mov (.tmp 54)))⟩])
    (.seq (.seq (.region none [
      ⟨(some 55), none, (.op (.mov (.tmp 11)))⟩,
      ⟨(some 56), none, (.op (.arith .neq (.tmp 55) (.dat (.lit (.int .i64 0)))))⟩])
    (.cond (.tmp 56)
      (.seq (.region none [
        ⟨(some 57), none, (.op (.mov (.tmp 9)))⟩,
        ⟨(some 58), none, (.op (.mov (.tmp 11)))⟩,
        ⟨(some 59), none, (.op (.arith .eql (.tmp 57) (.tmp 58)))⟩,
        ⟨(some 6), none, (.op (.mov (.tmp 59)))⟩])
      .ret)
      .skip))
    (.seq (.region (some [[], [], [], [1, 2], [1, 2, 3], [0, 1, 2, 3, 4], [0, 1, 2, 3, 4, 5], [0, 1, 2, 3, 4, 5, 6], [0, 1, 2, 3, 4, 5, 6], [], [0, 1, 2, 3, 4, 5, 6, 7, 9], [0, 1, 2, 3, 4, 5, 6, 7, 8, 9, 10]]) [
      ⟨(some 61), none, (.op (.load 2 true (.tmp 10)))⟩,
      ⟨(some 62), none, (.op (.mov (.tmp 1)))⟩,
      ⟨(some 63), none, (.op (.mov (.tmp 7)))⟩,
      ⟨(some 64), none, (.op (.slice 5 (.tmp 62) (some (.tmp 63)) none))⟩,
      ⟨(some 65), none, (.op (.build [.lit (.int .i64 0), .lit (.int .i64 0), .lit (.int .i64 0), .nil 5] [(0, 1, (.dat (.lit (.int .i64 1)))), (3, 1, (.tmp 64))]))⟩,
      ⟨(some 66), none, (.call (.dat (.fn (.func 15) [] [])) [(.tmp 61), (.tmp 65)])⟩,
      ⟨(some 60), none, (.op (.mov (.tmp 66)))⟩,
      ⟨(some 67), none, (.op (.extract (.tmp 60) 0))⟩,
      ⟨(some 68), none, (.op (.extract (.tmp 60) 1))⟩,
      ⟨(some 12), none, (.op (.alloc true [.nil 5, .lit (.int .i64 0)]))⟩,
      ⟨none, none, (.op (.store 2 (.tmp 12) (.tmp 67)))⟩,
      ⟨(some 13), none, (.op (.mov (.tmp 68)))⟩])
    (.seq (.region none [
      ⟨(some 69), none, (.op (.mov (.tmp 9)))⟩,
      ⟨(some 70), none, (.op (.mov (.tmp 13)))⟩,
      ⟨(some 71), none, (.op (.arith .eql (.tmp 69) (.tmp 70)))⟩,
      ⟨(some 72), none, (.op (.mov (.tmp 71)))⟩,
      ⟨(some 73), (some (72, true)), (.op (.load 2 true (.tmp 8)))⟩,
      ⟨(some 74), (some (72, true)), (.op (.load 2 true (.tmp 12)))⟩,
      ⟨(some 75), (some (72, true)), (.call (.dat (.fn (.func 17) [] [])) [(.tmp 73), (.tmp 74)])⟩,
      ⟨(some 76), none, (.op (.pick (.tmp 72) (.tmp 75) (.dat (.lit (.bool false)))))⟩,
      ⟨(some 6), none, (.op (.mov (.tmp 76)))⟩])
    .ret)))))))))
  res := [.tmp 6]
theorem c7 : CmpF Tryd.prog 7 a7 := chkF_cmp (F := Tryd.f7) (by kernel_rfl) mixed (by kernel_rfl)
/-- hansard/hansardlaw17.StreamApart -/
def a8 : AF where
  nt := 118
  body := (.seq (.region none [
      ⟨(some 3), none, (.op (.box true (.tmp 0)))⟩,
      ⟨(some 4), none, (.op (.box true (.tmp 1)))⟩,
      ⟨(some 5), none, (.op (.box true (.tmp 2)))⟩,
      ⟨(some 6), none, (.op (.mov (.dat (.lit (.bool false)))))⟩])
    (.seq (.seq (.region none [
      ⟨(some 16), none, (.call (.dat (.fn (.func 10) [] [])) [])⟩,
      ⟨(some 17), none, (.op (.not (.tmp 16)))⟩])
    (.cond (.tmp 17)
      (.seq (.region none [
        ⟨(some 6), none, (.op (.mov (.dat (.lit (.bool false)))))⟩])
      .ret)
      .skip))
    (.seq (.seq (.region none [
      ⟨(some 18), none, (.op (.load 2 true (.tmp 3)))⟩,
      ⟨(some 19), none, (.op (.load 4 true (.tmp 4)))⟩,
      ⟨(some 20), none, (.op (.load 4 true (.tmp 5)))⟩,
      ⟨(some 21), none, (.op (.mkslice 4 [(.tmp 19), (.tmp 20)]))⟩,
      ⟨(some 22), none, (.call (.dat (.fn (.func 18) [] [])) [(.tmp 18), (.tmp 21)])⟩,
      ⟨(some 23), none, (.op (.not (.tmp 22)))⟩,
      ⟨(some 24), none, (.op (.mov (.tmp 23)))⟩,
      ⟨(some 25), (some (24, false)), (.op (.field 0 1 false (.tmp 4)))⟩,
      ⟨(some 26), (some (24, false)), (.op (.load 1 false (.tmp 25)))⟩,
      ⟨(some 27), (some (24, false)), (.op (.arith .neq (.tmp 26) (.dat (.lit (.int .i64 2)))))⟩,
      ⟨(some 28), none, (.op (.pick (.tmp 24) (.dat (.lit (.bool true))) (.tmp 27)))⟩,
      ⟨(some 29), none, (.op (.mov (.tmp 28)))⟩,
      ⟨(some 30), (some (29, false)), (.op (.field 0 1 false (.tmp 5)))⟩,
      ⟨(some 31), (some (29, false)), (.op (.load 1 false (.tmp 30)))⟩,
      ⟨(some 32), (some (29, false)), (.op (.arith .neq (.tmp 31) (.dat (.lit (.int .i64 2)))))⟩,
      ⟨(some 33), none, (.op (.pick (.tmp 29) (.dat (.lit (.bool true))) (.tmp 32)))⟩,
      ⟨(some 34), none, (.op (.mov (.tmp 33)))⟩,
      ⟨(some 35), (some (34, false)), (.op (.field 1 1 false (.tmp 4)))⟩,
      ⟨(some 36), (some (34, false)), (.op (.load 1 false (.tmp 35)))⟩,
      ⟨(some 37), (some (34, false)), (.op (.arith .lss (.tmp 36) (.dat (.lit (.int .i64 0)))))⟩,
      ⟨(some 38), none, (.op (.pick (.tmp 34) (.dat (.lit (.bool true))) (.tmp 37)))⟩,
      ⟨(some 39), none, (.op (.mov (.tmp 38)))⟩,
      ⟨(some 40), (some (39, false)), (.op (.field 1 1 false (.tmp 4)))⟩,
      ⟨(some 41), (some (39, false)), (.op (.load 1 false (.tmp 40)))⟩,
      ⟨(some 42), (some (39, false)), (.op (.arith .gtr (.tmp 41) (.dat (.lit (.int .i64 100)))))⟩,
      ⟨(some 43), none, (.op (.pick (.tmp 39) (.dat (.lit (.bool true))) (.tmp 42)))⟩,
      ⟨(some 44), none, (.op (.mov (.tmp 43)))⟩,
      ⟨(some 45), (some (44, false)), (.op (.field 2 1 false (.tmp 4)))⟩,
      ⟨(some 46), (some (44, false)), (.op (.load 1 false (.tmp 45)))⟩,
      ⟨(some 47), (some (44, false)), (.op (.arith .lss (.tmp 46) (.dat (.lit (.int .i64 0)))))⟩,
      ⟨(some 48), none, (.op (.pick (.tmp 44) (.dat (.lit (.bool true))) (.tmp 47)))⟩,
      ⟨(some 49), none, (.op (.mov (.tmp 48)))⟩,
      ⟨(some 50), (some (49, false)), (.op (.field 2 1 false (.tmp 4)))⟩,
      ⟨(some 51), (some (49, false)), (.op (.load 1 false (.tmp 50)))⟩,
      ⟨(some 52), (some (49, false)), (.op (.arith .gtr (.tmp 51) (.dat (.lit (.int .i64 64)))))⟩,
      ⟨(some 53), none, (.op (.pick (.tmp 49) (.dat (.lit (.bool true))) (.tmp 52)))⟩,
      ⟨(some 54), none, (.op (.mov (.tmp 53)))⟩,
      ⟨(some 55), (some (54, false)), (.op (.field 1 1 false (.tmp 5)))⟩,
      ⟨(some 56), (some (54, false)), (.op (.load 1 false (.tmp 55)))⟩,
      ⟨(some 57), (some (54, false)), (.op (.field 1 1 false (.tmp 4)))⟩,
      ⟨(some 58), (some (54, false)), (.op (.load 1 false (.tmp 57)))⟩,
      ⟨(some 59), (some (54, false)), (.op (.field 2 1 false (.tmp 4)))⟩,
      ⟨(some 60), (some (54, false)), (.op (.load 1 false (.tmp 59)))⟩,
      ⟨(some 61), (some (54, false)), (.op (.arith .add (.tmp 58) (.tmp 60)))⟩,
      ⟨(some 62), (some (54, false)), (.op (.arith .lss (.tmp 56) (.tmp 61)))⟩,
      ⟨(some 63), none, (.op (.pick (.tmp 54) (.dat (.lit (.bool true))) (.tmp 62)))⟩,
      ⟨(some 64), none, (.op (.mov (.tmp 63)))⟩,
      ⟨(some 65), (some (64, false)), (.op (.field 1 1 false (.tmp 5)))⟩,
      ⟨(some 66), (some (64, false)), (.op (.load 1 false (.tmp 65)))⟩,
      ⟨(some 67), (some (64, false)), (.op (.arith .gtr (.tmp 66) (.dat (.lit (.int .i64 200)))))⟩,
      ⟨(some 68), none, (.op (.pick (.tmp 64) (.dat (.lit (.bool true))) (.tmp 67)))⟩])
    (.cond (.tmp 68)
      (.seq (.region none [
        ⟨(some 6), none, (.op (.mov (.dat (.lit (.bool true)))))⟩])
      .ret)
      .skip))
    (.seq (.region none [
      ⟨(some 69), none, (.op (.load 4 true (.tmp 5)))⟩,
      ⟨(some 7), none, (.op (.alloc true [.lit (.int .i64 0), .lit (.int .i64 0), .lit (.int .i64 0), .nil 5]))⟩,
      ⟨none, none, (.op (.store 4 (.tmp 7) (.tmp 69)))⟩])
    (.seq (.region none [
      ⟨(some 70), none, (.op (.field 1 1 false (.tmp 7)))⟩,
      ⟨(some 71), none, (.op (.load 1 false (.tmp 70)))⟩,
      ⟨(some 72), none, (.op (.field 3 1 false (.tmp 4)))⟩,
      ⟨(some 73), none, (.op (.load 1 false (.tmp 72)))⟩,
      ⟨(some 74), none, (.op (.len (.tmp 73)))⟩,
      ⟨(some 75), none, (.op (.field 2 1 false (.tmp 4)))⟩,
      ⟨(some 76), none, (.op (.load 1 false (.tmp 75)))⟩,
      ⟨(some 77), none, (.op (.arith .sub (.tmp 74) (.tmp 76)))⟩,
      ⟨(some 78), none, (.op (.arith .add (.tmp 71) (.tmp 77)))⟩,
      ⟨(some 79), none, (.op (.field 1 1 false (.tmp 7)))⟩,
      ⟨none, none, (.op (.store 1 (.tmp 79) (.tmp 78)))⟩])
    (.seq (.region none [
      ⟨(some 81), none, (.op (.load 2 true (.tmp 3)))⟩,
      ⟨(some 82), none, (.op (.load 4 true (.tmp 4)))⟩,
      ⟨(some 83), none, (.call (.dat (.fn (.func 15) [] [])) [(.tmp 81), (.tmp 82)])⟩,
      ⟨(some 80), none, (.op (.mov (.tmp 83)))⟩,
      ⟨(some 84), none, (.op (.extract (.tmp 80) 0))⟩,
      ⟨(some 85), none, (.op (.extract (.tmp 80) 1))⟩,
      ⟨(some 8), none, (.op (.alloc true [.nil 5, .lit (.int .i64 0)]))⟩,
      ⟨none, none, (.op (.store 2 (.tmp 8) (.tmp 84)))⟩,
      ⟨(some 9), none, (.op (.mov (.tmp 85)))⟩])
    (.seq (.region none [
      ⟨(some 87), none, (.op (.load 2 true (.tmp 3)))⟩,
      ⟨(some 88), none, (.op (.load 4 true (.tmp 5)))⟩,
      ⟨(some 89), none, (.call (.dat (.fn (.func 15) [] [])) [(.tmp 87), (.tmp 88)])⟩,
      ⟨(some 86), none, (.op (.mov (.tmp 89)))⟩,
      ⟨(some 90), none, (.op (.extract (.tmp 86) 0))⟩,
      ⟨(some 91), none, (.op (.extract (.tmp 86) 1))⟩,
      ⟨(some 10), none, (.op (.alloc true [.nil 5, .lit (.int .i64 0)]))⟩,
      ⟨none, none, (.op (.store 2 (.tmp 10) (.tmp 90)))⟩,
      ⟨(some 11), none, (.op (.mov (.tmp 91)))⟩])
    (.seq (.seq (.region none [
      ⟨(some 92), none, (.op (.mov (.tmp 9)))⟩,
      ⟨(some 93), none, (.op (.arith .neq (.tmp 92) (.dat (.lit (.int .i64 0)))))⟩,
      ⟨(some 94), none, (.op (.mov (.tmp 93)))⟩,
      ⟨(some 95), (some (94, false)), (.op (.mov (.tmp 11)))⟩,
      ⟨(some 96), (some (94, false)), (.op (.arith .neq (.tmp 95) (.dat (.lit (.int .i64 0)))))⟩,
      ⟨(some 97), none, (.op (.pick (.tmp 94) (.dat (.lit (.bool true))) (.tmp 96)))⟩])
    (.cond (.tmp 97)
      (.seq (.region none [
        ⟨(some 6), none, (.op (.mov (.dat (.lit (.bool true)))))⟩])
      .ret)
      .skip))
    (.seq (.region none [
      ⟨(some 99), none, (.op (.load 2 true (.tmp 8)))⟩,
      ⟨(some 100), none, (.op (.load 4 true (.tmp 7)))⟩,
      ⟨(some 101), none, (.call (.dat (.fn (.func 15) [] [])) [(.tmp 99), (.tmp 100)])⟩,
      ⟨(some 98), none, (.op (.mov (.tmp 101)))⟩,
      ⟨(some 102), none, (.op (.extract (.tmp 98) 0))⟩,
      ⟨(some 103), none, (.op (.extract (.tmp 98) 1))⟩,
      ⟨(some 12), none, (.op (.alloc true [.nil 5, .lit (.int .i64 0)]))⟩,
      ⟨none, none, (.op (.store 2 (.tmp 12) (.tmp 102)))⟩,
      ⟨(some 13), none, (.op (.mov (.tmp 103)))⟩])
    (.seq (.region none [
      ⟨(some 105), none, (.op (.load 2 true (.tmp 10)))⟩,
      ⟨(some 106), none, (.op (.load 4 true (.tmp 4)))⟩,
      ⟨(some 107), none, (.call (.dat (.fn (.func 15) [] [])) [(.tmp 105), (.tmp 106)])⟩,
      ⟨(some 104), none, (.op (.mov (.tmp 107)))⟩,
      ⟨(some 108), none, (.op (.extract (.tmp 104) 0))⟩,
      ⟨(some 109), none, (.op (.extract (.tmp 104) 1))⟩,
      ⟨(some 14), none, (.op (.alloc true [.nil 5, .lit (.int .i64 0)]))⟩,
      ⟨none, none, (.op (.store 2 (.tmp 14) (.tmp 108)))⟩,
      ⟨(some 15), none, (.op (.mov (.tmp 109)))⟩])
    (.seq (.region none [
      ⟨(some 110), none, (.op (.mov (.tmp 13)))⟩,
      ⟨(some 111), none, (.op (.mov (.tmp 15)))⟩,
      ⟨(some 112), none, (.op (.arith .eql (.tmp 110) (.tmp 111)))⟩,
      ⟨(some 113), none, (.op (.mov (.tmp 112)))⟩,
      ⟨(some 114), (some (113, true)), (.op (.load 2 true (.tmp 12)))⟩,
      ⟨(some 115), (some (113, true)), (.op (.load 2 true (.tmp 14)))⟩,
      ⟨(some 116), (some (113, true)), (.call (.dat (.fn (.func 17) [] [])) [(.tmp 114), (.tmp 115)])⟩,
      ⟨(some 117), none, (.op (.pick (.tmp 113) (.tmp 116) (.dat (.lit (.bool false)))))⟩,
      ⟨(some 6), none, (.op (.mov (.tmp 117)))⟩])
    .ret)))))))))))
  res := [.tmp 6]
theorem c8 : CmpF Tryd.prog 8 a8 := chkF_cmp (F := Tryd.f8) (by kernel_rfl) mixed (by kernel_rfl)
/-- hansard/hansardlaw17.StreamFix -/
def a9 : AF where
  nt := 111
  body := (.seq (.region none [
      ⟨(some 3), none, (.op (.box true (.tmp 0)))⟩,
      ⟨(some 5), none, (.op (.box true (.tmp 2)))⟩,
      ⟨(some 6), none, (.op (.mov (.dat (.lit (.bool false)))))⟩])
    (.seq (.seq (.region none [
      ⟨(some 15), none, (.call (.dat (.fn (.func 10) [] [])) [])⟩,
      ⟨(some 16), none, (.op (.not (.tmp 15)))⟩])
    (.cond (.tmp 16)
      (.seq (.region none [
        ⟨(some 6), none, (.op (.mov (.dat (.lit (.bool false)))))⟩])
      .ret)
      .skip))
    (.seq (.seq (.region none [
      ⟨(some 17), none, (.op (.load 2 true (.tmp 3)))⟩,
      ⟨(some 18), none, (.op (.load 4 true (.tmp 5)))⟩,
      ⟨(some 19), none, (.op (.mkslice 4 [(.tmp 18)]))⟩,
      ⟨(some 20), none, (.call (.dat (.fn (.func 18) [] [])) [(.tmp 17), (.tmp 19)])⟩,
      ⟨(some 21), none, (.op (.not (.tmp 20)))⟩])
    (.cond (.tmp 21)
      (.seq (.region none [
        ⟨(some 6), none, (.op (.mov (.dat (.lit (.bool true)))))⟩])
      .ret)
      .skip))
    (.seq (.region none [
      ⟨(some 23), none, (.op (.load 2 true (.tmp 3)))⟩,
      ⟨(some 24), none, (.op (.mov (.tmp 1)))⟩,
      ⟨(some 25), none, (.op (.build [.lit (.int .i64 0), .lit (.int .i64 0), .lit (.int .i64 0), .nil 5] [(0, 1, (.dat (.lit (.int .i64 3)))), (1, 1, (.tmp 24))]))⟩,
      ⟨(some 26), none, (.call (.dat (.fn (.func 15) [] [])) [(.tmp 23), (.tmp 25)])⟩,
      ⟨(some 22), none, (.op (.mov (.tmp 26)))⟩,
      ⟨(some 27), none, (.op (.extract (.tmp 22) 0))⟩,
      ⟨(some 28), none, (.op (.extract (.tmp 22) 1))⟩,
      ⟨(some 7), none, (.op (.alloc true [.nil 5, .lit (.int .i64 0)]))⟩,
      ⟨none, none, (.op (.store 2 (.tmp 7) (.tmp 27)))⟩,
      ⟨(some 8), none, (.op (.mov (.tmp 28)))⟩])
    (.seq (.seq (.region none [
      ⟨(some 29), none, (.op (.mov (.tmp 8)))⟩,
      ⟨(some 30), none, (.op (.arith .neq (.tmp 29) (.dat (.lit (.int .i64 0)))))⟩])
    (.cond (.tmp 30)
      (.seq (.region none [
        ⟨(some 31), none, (.op (.load 2 true (.tmp 7)))⟩,
        ⟨(some 32), none, (.op (.build [.nil 5, .lit (.int .i64 0)] []))⟩,
        ⟨(some 33), none, (.call (.dat (.fn (.func 17) [] [])) [(.tmp 31), (.tmp 32)])⟩,
        ⟨(some 6), none, (.op (.mov (.tmp 33)))⟩])
      .ret)
      .skip))
    (.seq (.seq (.region none [
      ⟨(some 34), none, (.op (.mov (.tmp 1)))⟩,
      ⟨(some 35), none, (.op (.field 1 1 false (.tmp 3)))⟩,
      ⟨(some 36), none, (.op (.load 1 false (.tmp 35)))⟩,
      ⟨(some 37), none, (.op (.arith .lss (.tmp 34) (.tmp 36)))⟩,
      ⟨(some 38), none, (.op (.mov (.tmp 37)))⟩,
      ⟨(some 39), (some (38, false)), (.op (.mov (.tmp 1)))⟩,
      ⟨(some 40), (some (38, false)), (.op (.field 0 1 false (.tmp 3)))⟩,
      ⟨(some 41), (some (38, false)), (.op (.load 1 false (.tmp 40)))⟩,
      ⟨(some 42), (some (38, false)), (.op (.len (.tmp 41)))⟩,
      ⟨(some 43), (some (38, false)), (.op (.arith .gtr (.tmp 39) (.tmp 42)))⟩,
      ⟨(some 44), none, (.op (.pick (.tmp 38) (.dat (.lit (.bool true))) (.tmp 43)))⟩,
      ⟨(some 45), none, (.op (.mov (.tmp 44)))⟩,
      ⟨(some 46), (some (45, false)), (.op (.field 1 1 false (.tmp 7)))⟩,
      ⟨(some 47), (some (45, false)), (.op (.load 1 false (.tmp 46)))⟩,
      ⟨(some 48), (some (45, false)), (.op (.mov (.tmp 1)))⟩,
      ⟨(some 49), (some (45, false)), (.op (.arith .neq (.tmp 47) (.tmp 48)))⟩,
      ⟨(some 50), none, (.op (.pick (.tmp 45) (.dat (.lit (.bool true))) (.tmp 49)))⟩,
      ⟨(some 51), none, (.op (.mov (.tmp 50)))⟩,
      ⟨(some 52), (some (51, false)), (.op (.field 0 1 false (.tmp 7)))⟩,
      ⟨(some 53), (some (51, false)), (.op (.load 1 false (.tmp 52)))⟩,
      ⟨(some 54), (some (51, false)), (.op (.field 0 1 false (.tmp 3)))⟩,
      ⟨(some 55), (some (51, false)), (.op (.load 1 false (.tmp 54)))⟩,
      ⟨(some 56), (some (51, false)), (.call (.dat (.fn (.func 19) [] [])) [(.tmp 53), (.tmp 55)])⟩,
      ⟨(some 57), (some (51, false)), (.op (.not (.tmp 56)))⟩,
      ⟨(some 58), none, (.op (.pick (.tmp 51) (.dat (.lit (.bool true))) (.tmp 57)))⟩])
    (.cond (.tmp 58)
      (.seq (.region none [
        ⟨(some 6), none, (.op (.mov (.dat (.lit (.bool false)))))⟩])
      .ret)
      .skip))
    (.seq (.seq (.region none [
      ⟨(some 59), none, (.op (.mov (.tmp 1)))⟩,
      ⟨(some 60), none, (.op (.field 1 1 false (.tmp 3)))⟩,
      ⟨(some 61), none, (.op (.load 1 false (.tmp 60)))⟩,
      ⟨(some 62), none, (.op (.arith .gtr (.tmp 59) (.tmp 61)))⟩])
    (.cond (.tmp 62)
      (.seq (.region none [
        ⟨(some 64), none, (.op (.load 2 true (.tmp 7)))⟩,
        ⟨(some 65), none, (.op (.mov (.tmp 1)))⟩,
        ⟨(some 66), none, (.op (.arith .sub (.tmp 65) (.dat (.lit (.int .i64 1)))))⟩,
        ⟨(some 67), none, (.op (.build [.lit (.int .i64 0), .lit (.int .i64 0), .lit (.int .i64 0), .nil 5] [(0, 1, (.dat (.lit (.int .i64 3)))), (1, 1, (.tmp 66))]))⟩,
        ⟨(some 68), none, (.call (.dat (.fn (.func 15) [] [])) [(.tmp 64), (.tmp 67)])⟩,
        ⟨(some 63), none, (.op (.mov (.tmp 68)))⟩,
        ⟨(some 69), none, (.op (.extract (.tmp 63) 0))⟩,
        ⟨(some 70), none, (.op (.extract (.tmp 63) 1))⟩,
        ⟨(some 9), none, (.op (.alloc true [.nil 5, .lit (.int .i64 0)]))⟩,
        ⟨none, none, (.op (.store 2 (.tmp 9) (.tmp 69)))⟩,
        ⟨(some 10), none, (.op (.mov (.tmp 70)))⟩])
      (.seq (.region none [
        ⟨(some 71), none, (.op (.mov (.tmp 10)))⟩,
        ⟨(some 72), none, (.op (.arith .neq (.tmp 71) (.dat (.lit (.int .i64 170)))))⟩])
      (.cond (.tmp 72)
        (.seq (.region none [
          ⟨(some 6), none, (.op (.mov (.dat (.lit (.bool false)))))⟩])
        .ret)
        .skip)))
      .skip))
    (.seq (.region none [
      ⟨(some 74), none, (.op (.load 2 true (.tmp 3)))⟩,
      ⟨(some 75), none, (.op (.load 4 true (.tmp 5)))⟩,
      ⟨(some 76), none, (.call (.dat (.fn (.func 15) [] [])) [(.tmp 74), (.tmp 75)])⟩,
      ⟨(some 73), none, (.op (.mov (.tmp 76)))⟩,
      ⟨(some 77), none, (.op (.extract (.tmp 73) 0))⟩,
      ⟨(some 78), none, (.op (.extract (.tmp 73) 1))⟩,
      ⟨(some 11), none, (.op (.alloc true [.nil 5, .lit (.int .i64 0)]))⟩,
      ⟨none, none, (.op (.store 2 (.tmp 11) (.tmp 77)))⟩,
      ⟨(some 12), none, (.op (.mov (.tmp 78)))⟩])
    (.seq (.region none [
      ⟨(some 80), none, (.op (.load 2 true (.tmp 7)))⟩,
      ⟨(some 81), none, (.op (.load 4 true (.tmp 5)))⟩,
      ⟨(some 82), none, (.call (.dat (.fn (.func 15) [] [])) [(.tmp 80), (.tmp 81)])⟩,
      ⟨(some 79), none, (.op (.mov (.tmp 82)))⟩,
      ⟨(some 83), none, (.op (.extract (.tmp 79) 0))⟩,
      ⟨(some 84), none, (.op (.extract (.tmp 79) 1))⟩,
      ⟨(some 13), none, (.op (.alloc true [.nil 5, .lit (.int .i64 0)]))⟩,
      ⟨none, none, (.op (.store 2 (.tmp 13) (.tmp 83)))⟩,
      ⟨(some 14), none, (.op (.mov (.tmp 84)))⟩])
    (.seq (.seq (.region none [
      ⟨(some 85), none, (.op (.field 0 1 false (.tmp 5)))⟩,
      ⟨(some 86), none, (.op (.load 1 false (.tmp 85)))⟩,
      ⟨(some 87), none, (.op (.arith .neq (.tmp 86) (.dat (.lit (.int .i64 1)))))⟩,
      ⟨(some 88), none, (.op (.mov (.tmp 87)))⟩,
      ⟨(some 89), (some (88, true)), (.op (.field 1 1 false (.tmp 5)))⟩,
      ⟨(some 90), (some (88, true)), (.op (.load 1 false (.tmp 89)))⟩,
      ⟨(some 91), (some (88, true)), (.op (.mov (.tmp 1)))⟩,
      ⟨(some 92), (some (88, true)), (.op (.arith .lss (.tmp 90) (.tmp 91)))⟩,
      ⟨(some 93), none, (.op (.pick (.tmp 88) (.tmp 92) (.dat (.lit (.bool false)))))⟩])
    (.cond (.tmp 93)
      (.seq (.region none [
        ⟨(some 94), none, (.op (.mov (.tmp 14)))⟩,
        ⟨(some 95), none, (.op (.arith .eql (.tmp 94) (.dat (.lit (.int .i64 170)))))⟩,
        ⟨(some 96), none, (.op (.mov (.tmp 95)))⟩,
        ⟨(some 97), (some (96, true)), (.op (.load 2 true (.tmp 13)))⟩,
        ⟨(some 98), (some (96, true)), (.op (.build [.nil 5, .lit (.int .i64 0)] []))⟩,
        ⟨(some 99), (some (96, true)), (.call (.dat (.fn (.func 17) [] [])) [(.tmp 97), (.tmp 98)])⟩,
        ⟨(some 100), none, (.op (.pick (.tmp 96) (.tmp 99) (.dat (.lit (.bool false)))))⟩,
        ⟨(some 6), none, (.op (.mov (.tmp 100)))⟩])
      .ret)
      .skip))
    (.seq (.region none [
      ⟨(some 101), none, (.op (.mov (.tmp 12)))⟩,
      ⟨(some 102), none, (.op (.mov (.tmp 14)))⟩,
      ⟨(some 103), none, (.op (.arith .eql (.tmp 101) (.tmp 102)))⟩,
      ⟨(some 104), none, (.op (.mov (.tmp 103)))⟩,
      ⟨(some 105), (some (104, true)), (.op (.field 0 1 false (.tmp 11)))⟩,
      ⟨(some 106), (some (104, true)), (.op (.load 1 false (.tmp 105)))⟩,
      ⟨(some 107), (some (104, true)), (.op (.field 0 1 false (.tmp 13)))⟩,
      ⟨(some 108), (some (104, true)), (.op (.load 1 false (.tmp 107)))⟩,
      ⟨(some 109), (some (104, true)), (.call (.dat (.fn (.func 19) [] [])) [(.tmp 106), (.tmp 108)])⟩,
      ⟨(some 110), none, (.op (.pick (.tmp 104) (.tmp 109) (.dat (.lit (.bool false)))))⟩,
      ⟨(some 6), none, (.op (.mov (.tmp 110)))⟩])
    .ret)))))))))))
  res := [.tmp 6]
theorem c9 : CmpF Tryd.prog 9 a9 := chkF_cmp (F := Tryd.f9) (by kernel_rfl) mixed (by kernel_rfl)
/-- hansard/hansardlaw17.sane -/
def a10 : AF where
  nt := 229
  body := (.seq (.region none [
      ⟨(some 0), none, (.op (.mov (.dat (.lit (.bool false)))))⟩])
    (.seq (.region none [
      ⟨(some 25), none, (.call (.dat (.fn (.func 20) [] [])) [(.dat (.lit (.string ⟨#[97]⟩))), (.dat (.lit (.int .i64 3))), (.dat (.nil 0))])⟩,
      ⟨(some 26), none, (.op (.mkslice 1 [(.dat (.lit (.string ⟨#[99]⟩)))]))⟩,
      ⟨(some 27), none, (.call (.dat (.fn (.func 20) [] [])) [(.dat (.lit (.string ⟨#[98]⟩))), (.dat (.lit (.int .i64 4))), (.tmp 26)])⟩,
      ⟨(some 1), none, (.op (.alloc true [.lit (.string ⟨#[]⟩), .lit (.int .i64 0), .lit (.int .i64 0), .lit (.int .i64 0), .nil 1]))⟩,
      ⟨(some 2), none, (.op (.alloc true [.lit (.string ⟨#[]⟩), .lit (.int .i64 0), .lit (.int .i64 0), .lit (.int .i64 0), .nil 1]))⟩,
      ⟨none, none, (.op (.store 5 (.tmp 1) (.tmp 25)))⟩,
      ⟨none, none, (.op (.store 5 (.tmp 2) (.tmp 27)))⟩])
    (.seq (.region none [
      ⟨(some 29), none, (.op (.build [.nil 5, .lit (.int .i64 0)] []))⟩,
      ⟨(some 30), none, (.op (.load 5 true (.tmp 1)))⟩,
      ⟨(some 31), none, (.op (.mkslice 5 [(.tmp 30)]))⟩,
      ⟨(some 32), none, (.op (.build [.lit (.int .i64 0), .lit (.int .i64 0), .lit (.int .i64 0), .nil 5] [(0, 1, (.dat (.lit (.int .i64 1)))), (3, 1, (.tmp 31))]))⟩,
      ⟨(some 33), none, (.call (.dat (.fn (.func 15) [] [])) [(.tmp 29), (.tmp 32)])⟩,
      ⟨(some 28), none, (.op (.mov (.tmp 33)))⟩,
      ⟨(some 34), none, (.op (.extract (.tmp 28) 0))⟩,
      ⟨(some 35), none, (.op (.extract (.tmp 28) 1))⟩,
      ⟨(some 3), none, (.op (.alloc true [.nil 5, .lit (.int .i64 0)]))⟩,
      ⟨none, none, (.op (.store 2 (.tmp 3) (.tmp 34)))⟩,
      ⟨(some 4), none, (.op (.mov (.tmp 35)))⟩])
    (.seq (.region none [
      ⟨(some 37), none, (.op (.load 2 true (.tmp 3)))⟩,
      ⟨(some 38), none, (.op (.build [.lit (.int .i64 0), .lit (.int .i64 0), .lit (.int .i64 0), .nil 5] [(0, 1, (.dat (.lit (.int .i64 2)))), (2, 1, (.dat (.lit (.int .i64 1))))]))⟩,
      ⟨(some 39), none, (.call (.dat (.fn (.func 15) [] [])) [(.tmp 37), (.tmp 38)])⟩,
      ⟨(some 36), none, (.op (.mov (.tmp 39)))⟩,
      ⟨(some 40), none, (.op (.extract (.tmp 36) 0))⟩,
      ⟨(some 41), none, (.op (.extract (.tmp 36) 1))⟩,
      ⟨(some 5), none, (.op (.alloc true [.nil 5, .lit (.int .i64 0)]))⟩,
      ⟨none, none, (.op (.store 2 (.tmp 5) (.tmp 40)))⟩,
      ⟨(some 6), none, (.op (.mov (.tmp 41)))⟩])
    (.seq (.region none [
      ⟨(some 43), none, (.op (.load 2 true (.tmp 3)))⟩,
      ⟨(some 44), none, (.op (.load 5 true (.tmp 1)))⟩,
      ⟨(some 45), none, (.op (.mkslice 5 [(.tmp 44)]))⟩,
      ⟨(some 46), none, (.op (.build [.lit (.int .i64 0), .lit (.int .i64 0), .lit (.int .i64 0), .nil 5] [(0, 1, (.dat (.lit (.int .i64 2)))), (2, 1, (.dat (.lit (.int .i64 1)))), (3, 1, (.tmp 45))]))⟩,
      ⟨(some 47), none, (.call (.dat (.fn (.func 15) [] [])) [(.tmp 43), (.tmp 46)])⟩,
      ⟨(some 42), none, (.op (.mov (.tmp 47)))⟩,
      ⟨(some 48), none, (.op (.extract (.tmp 42) 0))⟩,
      ⟨(some 49), none, (.op (.extract (.tmp 42) 1))⟩,
      ⟨(some 7), none, (.op (.alloc true [.nil 5, .lit (.int .i64 0)]))⟩,
      ⟨none, none, (.op (.store 2 (.tmp 7) (.tmp 48)))⟩,
      ⟨(some 8), none, (.op (.mov (.tmp 49)))⟩])
    (.seq (.region none [
      ⟨(some 51), none, (.op (.load 2 true (.tmp 3)))⟩,
      ⟨(some 52), none, (.op (.build [.lit (.int .i64 0), .lit (.int .i64 0), .lit (.int .i64 0), .nil 5] [(0, 1, (.dat (.lit (.int .i64 3)))), (1, 1, (.dat (.lit (.int .i64 1))))]))⟩,
      ⟨(some 53), none, (.call (.dat (.fn (.func 15) [] [])) [(.tmp 51), (.tmp 52)])⟩,
      ⟨(some 50), none, (.op (.mov (.tmp 53)))⟩,
      ⟨(some 54), none, (.op (.extract (.tmp 50) 0))⟩,
      ⟨(some 55), none, (.op (.extract (.tmp 50) 1))⟩,
      ⟨(some 9), none, (.op (.alloc true [.nil 5, .lit (.int .i64 0)]))⟩,
      ⟨none, none, (.op (.store 2 (.tmp 9) (.tmp 54)))⟩,
      ⟨(some 10), none, (.op (.mov (.tmp 55)))⟩])
    (.seq (.region none [
      ⟨(some 57), none, (.op (.load 2 true (.tmp 3)))⟩,
      ⟨(some 58), none, (.op (.build [.lit (.int .i64 0), .lit (.int .i64 0), .lit (.int .i64 0), .nil 5] [(0, 1, (.dat (.lit (.int .i64 3)))), (1, 1, (.dat (.lit (.int .i64 2))))]))⟩,
      ⟨(some 59), none, (.call (.dat (.fn (.func 15) [] [])) [(.tmp 57), (.tmp 58)])⟩,
      ⟨(some 56), none, (.op (.mov (.tmp 59)))⟩,
      ⟨(some 60), none, (.op (.extract (.tmp 56) 0))⟩,
      ⟨(some 61), none, (.op (.extract (.tmp 56) 1))⟩,
      ⟨(some 11), none, (.op (.alloc true [.nil 5, .lit (.int .i64 0)]))⟩,
      ⟨none, none, (.op (.store 2 (.tmp 11) (.tmp 60)))⟩,
      ⟨(some 12), none, (.op (.mov (.tmp 61)))⟩])
    (.seq (.region none [
      ⟨(some 63), none, (.op (.load 2 true (.tmp 3)))⟩,
      ⟨(some 64), none, (.op (.build [.lit (.int .i64 0), .lit (.int .i64 0), .lit (.int .i64 0), .nil 5] [(0, 1, (.dat (.lit (.int .i64 1))))]))⟩,
      ⟨(some 65), none, (.call (.dat (.fn (.func 15) [] [])) [(.tmp 63), (.tmp 64)])⟩,
      ⟨(some 62), none, (.op (.mov (.tmp 65)))⟩,
      ⟨(some 66), none, (.op (.extract (.tmp 62) 0))⟩,
      ⟨(some 67), none, (.op (.extract (.tmp 62) 1))⟩,
      ⟨(some 13), none, (.op (.alloc true [.nil 5, .lit (.int .i64 0)]))⟩,
      ⟨none, none, (.op (.store 2 (.tmp 13) (.tmp 66)))⟩,
      ⟨(some 14), none, (.op (.mov (.tmp 67)))⟩])
    (.seq (.region none [
      ⟨(some 69), none, (.op (.load 2 true (.tmp 9)))⟩,
      ⟨(some 70), none, (.op (.load 5 true (.tmp 2)))⟩,
      ⟨(some 71), none, (.op (.mkslice 5 [(.tmp 70)]))⟩,
      ⟨(some 72), none, (.op (.build [.lit (.int .i64 0), .lit (.int .i64 0), .lit (.int .i64 0), .nil 5] [(0, 1, (.dat (.lit (.int .i64 1)))), (3, 1, (.tmp 71))]))⟩,
      ⟨(some 73), none, (.call (.dat (.fn (.func 15) [] [])) [(.tmp 69), (.tmp 72)])⟩,
      ⟨(some 68), none, (.op (.mov (.tmp 73)))⟩,
      ⟨(some 74), none, (.op (.extract (.tmp 68) 0))⟩,
      ⟨(some 75), none, (.op (.extract (.tmp 68) 1))⟩,
      ⟨(some 15), none, (.op (.alloc true [.nil 5, .lit (.int .i64 0)]))⟩,
      ⟨none, none, (.op (.store 2 (.tmp 15) (.tmp 74)))⟩,
      ⟨(some 16), none, (.op (.mov (.tmp 75)))⟩])
    (.seq (.region none [
      ⟨(some 77), none, (.op (.load 2 true (.tmp 15)))⟩,
      ⟨(some 78), none, (.op (.load 5 true (.tmp 2)))⟩,
      ⟨(some 79), none, (.op (.mkslice 5 [(.tmp 78)]))⟩,
      ⟨(some 80), none, (.op (.build [.lit (.int .i64 0), .lit (.int .i64 0), .lit (.int .i64 0), .nil 5] [(0, 1, (.dat (.lit (.int .i64 2)))), (2, 1, (.dat (.lit (.int .i64 1)))), (3, 1, (.tmp 79))]))⟩,
      ⟨(some 81), none, (.call (.dat (.fn (.func 15) [] [])) [(.tmp 77), (.tmp 80)])⟩,
      ⟨(some 76), none, (.op (.mov (.tmp 81)))⟩,
      ⟨(some 82), none, (.op (.extract (.tmp 76) 0))⟩,
      ⟨(some 83), none, (.op (.extract (.tmp 76) 1))⟩,
      ⟨(some 17), none, (.op (.alloc true [.nil 5, .lit (.int .i64 0)]))⟩,
      ⟨none, none, (.op (.store 2 (.tmp 17) (.tmp 82)))⟩,
      ⟨(some 18), none, (.op (.mov (.tmp 83)))⟩])
    (.seq (.region none [
      ⟨(some 85), none, (.op (.load 2 true (.tmp 15)))⟩,
      ⟨(some 86), none, (.op (.load 5 true (.tmp 1)))⟩,
      ⟨(some 87), none, (.op (.load 5 true (.tmp 1)))⟩,
      ⟨(some 88), none, (.op (.mkslice 5 [(.tmp 86), (.tmp 87)]))⟩,
      ⟨(some 89), none, (.op (.build [.lit (.int .i64 0), .lit (.int .i64 0), .lit (.int .i64 0), .nil 5] [(0, 1, (.dat (.lit (.int .i64 2)))), (1, 1, (.dat (.lit (.int .i64 1)))), (2, 1, (.dat (.lit (.int .i64 1)))), (3, 1, (.tmp 88))]))⟩,
      ⟨(some 90), none, (.call (.dat (.fn (.func 15) [] [])) [(.tmp 85), (.tmp 89)])⟩,
      ⟨(some 84), none, (.op (.mov (.tmp 90)))⟩,
      ⟨(some 91), none, (.op (.extract (.tmp 84) 0))⟩,
      ⟨(some 92), none, (.op (.extract (.tmp 84) 1))⟩,
      ⟨(some 19), none, (.op (.alloc true [.nil 5, .lit (.int .i64 0)]))⟩,
      ⟨none, none, (.op (.store 2 (.tmp 19) (.tmp 91)))⟩,
      ⟨(some 20), none, (.op (.mov (.tmp 92)))⟩])
    (.seq (.region none [
      ⟨(some 94), none, (.op (.load 2 true (.tmp 15)))⟩,
      ⟨(some 95), none, (.op (.load 5 true (.tmp 1)))⟩,
      ⟨(some 96), none, (.op (.mkslice 5 [(.tmp 95)]))⟩,
      ⟨(some 97), none, (.op (.build [.lit (.int .i64 0), .lit (.int .i64 0), .lit (.int .i64 0), .nil 5] [(0, 1, (.dat (.lit (.int .i64 1)))), (3, 1, (.tmp 96))]))⟩,
      ⟨(some 98), none, (.call (.dat (.fn (.func 15) [] [])) [(.tmp 94), (.tmp 97)])⟩,
      ⟨(some 93), none, (.op (.mov (.tmp 98)))⟩,
      ⟨(some 99), none, (.op (.extract (.tmp 93) 0))⟩,
      ⟨(some 100), none, (.op (.extract (.tmp 93) 1))⟩,
      ⟨(some 21), none, (.op (.alloc true [.nil 5, .lit (.int .i64 0)]))⟩,
      ⟨none, none, (.op (.store 2 (.tmp 21) (.tmp 99)))⟩,
      ⟨(some 22), none, (.op (.mov (.tmp 100)))⟩])
    (.seq (.seq (.region none [
      ⟨(some 101), none, (.op (.mov (.tmp 4)))⟩,
      ⟨(some 102), none, (.op (.arith .neq (.tmp 101) (.dat (.lit (.int .i64 0)))))⟩,
      ⟨(some 103), none, (.op (.mov (.tmp 102)))⟩,
      ⟨(some 104), (some (103, false)), (.op (.mov (.tmp 6)))⟩,
      ⟨(some 105), (some (103, false)), (.op (.arith .neq (.tmp 104) (.dat (.lit (.int .i64 0)))))⟩,
      ⟨(some 106), none, (.op (.pick (.tmp 103) (.dat (.lit (.bool true))) (.tmp 105)))⟩,
      ⟨(some 107), none, (.op (.mov (.tmp 106)))⟩,
      ⟨(some 108), (some (107, false)), (.op (.mov (.tmp 8)))⟩,
      ⟨(some 109), (some (107, false)), (.op (.arith .neq (.tmp 108) (.dat (.lit (.int .i64 170)))))⟩,
      ⟨(some 110), none, (.op (.pick (.tmp 107) (.dat (.lit (.bool true))) (.tmp 109)))⟩,
      ⟨(some 111), none, (.op (.mov (.tmp 110)))⟩,
      ⟨(some 112), (some (111, false)), (.op (.mov (.tmp 10)))⟩,
      ⟨(some 113), (some (111, false)), (.op (.arith .neq (.tmp 112) (.dat (.lit (.int .i64 0)))))⟩,
      ⟨(some 114), none, (.op (.pick (.tmp 111) (.dat (.lit (.bool true))) (.tmp 113)))⟩,
      ⟨(some 115), none, (.op (.mov (.tmp 114)))⟩,
      ⟨(some 116), (some (115, false)), (.op (.mov (.tmp 12)))⟩,
      ⟨(some 117), (some (115, false)), (.op (.arith .neq (.tmp 116) (.dat (.lit (.int .i64 170)))))⟩,
      ⟨(some 118), none, (.op (.pick (.tmp 115) (.dat (.lit (.bool true))) (.tmp 117)))⟩,
      ⟨(some 119), none, (.op (.mov (.tmp 118)))⟩,
      ⟨(some 120), (some (119, false)), (.op (.mov (.tmp 14)))⟩,
      ⟨(some 121), (some (119, false)), (.op (.arith .neq (.tmp 120) (.dat (.lit (.int .i64 170)))))⟩,
      ⟨(some 122), none, (.op (.pick (.tmp 119) (.dat (.lit (.bool true))) (.tmp 121)))⟩,
      ⟨(some 123), none, (.op (.mov (.tmp 122)))⟩,
      ⟨(some 124), (some (123, false)), (.op (.mov (.tmp 16)))⟩,
      ⟨(some 125), (some (123, false)), (.op (.arith .neq (.tmp 124) (.dat (.lit (.int .i64 0)))))⟩,
      ⟨(some 126), none, (.op (.pick (.tmp 123) (.dat (.lit (.bool true))) (.tmp 125)))⟩,
      ⟨(some 127), none, (.op (.mov (.tmp 126)))⟩,
      ⟨(some 128), (some (127, false)), (.op (.mov (.tmp 18)))⟩,
      ⟨(some 129), (some (127, false)), (.op (.arith .neq (.tmp 128) (.dat (.lit (.int .i64 170)))))⟩,
      ⟨(some 130), none, (.op (.pick (.tmp 127) (.dat (.lit (.bool true))) (.tmp 129)))⟩,
      ⟨(some 131), none, (.op (.mov (.tmp 130)))⟩,
      ⟨(some 132), (some (131, false)), (.op (.mov (.tmp 20)))⟩,
      ⟨(some 133), (some (131, false)), (.op (.arith .neq (.tmp 132) (.dat (.lit (.int .i64 0)))))⟩,
      ⟨(some 134), none, (.op (.pick (.tmp 131) (.dat (.lit (.bool true))) (.tmp 133)))⟩,
      ⟨(some 135), none, (.op (.mov (.tmp 134)))⟩,
      ⟨(some 136), (some (135, false)), (.op (.mov (.tmp 22)))⟩,
      ⟨(some 137), (some (135, false)), (.op (.arith .neq (.tmp 136) (.dat (.lit (.int .i64 170)))))⟩,
      ⟨(some 138), none, (.op (.pick (.tmp 135) (.dat (.lit (.bool true))) (.tmp 137)))⟩])
    (.cond (.tmp 138)
      (.seq (.region none [
        ⟨(some 0), none, (.op (.mov (.dat (.lit (.bool false)))))⟩])
      .ret)
      .skip))
    (.seq (.seq (.region none [
      ⟨(some 139), none, (.call (.dat (.fn (.func 20) [] [])) [(.dat (.lit (.string ⟨#[]⟩))), (.dat (.lit (.int .i64 0))), (.dat (.nil 0))])⟩,
      ⟨(some 140), none, (.call (.dat (.fn (.func 20) [] [])) [(.dat (.lit (.string ⟨#[97, 32, 98]⟩))), (.dat (.lit (.int .i64 0))), (.dat (.nil 0))])⟩,
      ⟨(some 141), none, (.call (.dat (.fn (.func 20) [] [])) [(.dat (.lit (.string ⟨#[97]⟩))), (.dat (.lit (.int .i64 (-1)))), (.dat (.nil 0))])⟩,
      ⟨(some 142), none, (.op (.mkslice 1 [(.dat (.lit (.string ⟨#[97]⟩)))]))⟩,
      ⟨(some 143), none, (.call (.dat (.fn (.func 20) [] [])) [(.dat (.lit (.string ⟨#[97]⟩))), (.dat (.lit (.int .i64 0))), (.tmp 142)])⟩,
      ⟨(some 144), none, (.op (.mkslice 1 [(.dat (.lit (.string ⟨#[98]⟩))), (.dat (.lit (.string ⟨#[98]⟩)))]))⟩,
      ⟨(some 145), none, (.call (.dat (.fn (.func 20) [] [])) [(.dat (.lit (.string ⟨#[97]⟩))), (.dat (.lit (.int .i64 0))), (.tmp 144)])⟩,
      ⟨(some 146), none, (.op (.mkslice 1 [(.dat (.lit (.string ⟨#[98]⟩))), (.dat (.lit (.string ⟨#[99]⟩))), (.dat (.lit (.string ⟨#[100]⟩))), (.dat (.lit (.string ⟨#[101]⟩))), (.dat (.lit (.string ⟨#[102]⟩)))]))⟩,
      ⟨(some 147), none, (.call (.dat (.fn (.func 20) [] [])) [(.dat (.lit (.string ⟨#[97]⟩))), (.dat (.lit (.int .i64 0))), (.tmp 146)])⟩,
      ⟨(some 148), none, (.call (.dat (.fn (.func 20) [] [])) [(.dat (.lit (.string ⟨#[97]⟩))), (.dat (.lit (.int .i64 1099511627770))), (.dat (.nil 0))])⟩,
      ⟨(some 149), none, (.op (.build [.lit (.string ⟨#[]⟩), .lit (.int .i64 0), .lit (.int .i64 0), .lit (.int .i64 0), .nil 1] [(0, 1, (.dat (.lit (.string ⟨#[97]⟩)))), (2, 1, (.dat (.lit (.int .i64 1)))), (3, 1, (.dat (.lit (.int .i64 64))))]))⟩,
      ⟨(some 150), none, (.op (.build [.lit (.string ⟨#[]⟩), .lit (.int .i64 0), .lit (.int .i64 0), .lit (.int .i64 0), .nil 1] [(0, 1, (.dat (.lit (.string ⟨#[97]⟩))))]))⟩,
      ⟨(some 151), none, (.op (.mkslice 5 [(.tmp 139), (.tmp 140), (.tmp 141), (.tmp 143), (.tmp 145), (.tmp 147), (.tmp 148), (.tmp 149), (.tmp 150)]))⟩,
      ⟨(some 152), none, (.op (.len (.tmp 151)))⟩,
      ⟨(some 153), none, (.op (.mov (.dat (.lit (.int .i64 0)))))⟩])
    (.block 0
      (.loop
        (.seq (.region none [
          ⟨(some 154), none, (.op (.arith .lss (.tmp 153) (.tmp 152)))⟩])
        (.seq (.cond (.tmp 154)
          .skip
          (.exit 0))
        (.seq (.block 1
          (.seq (.region none [
            ⟨(some 155), none, (.op (.index 5 (.tmp 151) (.tmp 153)))⟩,
            ⟨(some 156), none, (.op (.load 5 true (.tmp 155)))⟩,
            ⟨(some 24), none, (.op (.alloc true [.lit (.string ⟨#[]⟩), .lit (.int .i64 0), .lit (.int .i64 0), .lit (.int .i64 0), .nil 1]))⟩,
            ⟨none, none, (.op (.store 5 (.tmp 24) (.tmp 156)))⟩])
          (.seq (.region none [
            ⟨(some 157), none, (.op (.load 5 true (.tmp 24)))⟩,
            ⟨(some 158), none, (.op (.mkslice 5 [(.tmp 157)]))⟩,
            ⟨(some 159), none, (.call (.dat (.fn (.func 21) [] [])) [(.dat (.lit (.int .i64 0))), (.tmp 158)])⟩,
            ⟨(some 160), none, (.call (.dat (.fn (.func 12) [] [])) [(.tmp 159)])⟩,
            ⟨(some 161), none, (.op (.arith .neq (.tmp 160) (.dat (.lit (.int .i64 170)))))⟩])
          (.cond (.tmp 161)
            (.seq (.region none [
              ⟨(some 0), none, (.op (.mov (.dat (.lit (.bool false)))))⟩])
            .ret)
            .skip))))
        (.region none [
          ⟨(some 162), none, (.op (.arith .add (.tmp 153) (.dat (.lit (.int .i64 1)))))⟩,
          ⟨(some 153), none, (.op (.mov (.tmp 162)))⟩])))))))
    (.seq (.seq (.region (some [[], [0], [0, 1], [0, 1, 2], [0, 1, 2, 3], [0, 1, 2, 3, 4], [0, 1, 2, 3, 4, 5], [0, 1, 2, 3, 4, 5, 6], [0, 1, 2, 3, 4, 5, 6, 7], [0, 1, 2, 3, 4, 5, 6, 7, 8], [0, 1, 2, 3, 4, 5, 6, 7, 8, 9], [0, 1, 2, 3, 4, 5, 6, 7, 8, 9, 10], [0, 1, 2, 3, 4, 5, 6, 7, 8, 9, 10], [0, 1, 2, 3, 4, 5, 6, 7, 8, 9, 10, 11, 12], [0, 1, 2, 3, 4, 5, 6, 7, 8, 9, 10, 11, 12, 13], [0, 1, 2, 3, 4, 5, 6, 7, 8, 9, 10, 11, 12, 13, 14], [0, 1, 2, 3, 4, 5, 6, 7, 8, 9, 10, 11, 12, 13, 14, 15], [0, 1, 2, 3, 4, 5, 6, 7, 8, 9, 10, 11, 12, 13, 14, 15, 16], [0, 1, 2, 3, 4, 5, 6, 7, 8, 9, 10, 11, 12, 13, 14, 15, 16, 17], [0, 1, 2, 3, 4, 5, 6, 7, 8, 9, 10, 11, 12, 13, 14, 15, 16, 17, 18], [0, 1, 2, 3, 4, 5, 6, 7, 8, 9, 10, 11, 12, 13, 14, 15, 16, 17, 18], [0, 1, 2, 3, 4, 5, 6, 7, 8, 9, 10, 11, 12, 13, 14, 15, 16, 17, 18, 19, 20], [0, 1, 2, 3, 4, 5, 6, 7, 8, 9, 10, 11, 12, 13, 14, 15, 16, 17, 18, 19, 20, 21], [0, 1, 2, 3, 4, 5, 6, 7, 8, 9, 10, 11, 12, 13, 14, 15, 16, 17, 18, 19, 20, 21, 22], [0, 1, 2, 3, 4, 5, 6, 7, 8, 9, 10, 11, 12, 13, 14, 15, 16, 17, 18, 19, 20, 21, 22, 23], [0, 1, 2, 3, 4, 5, 6, 7, 8, 9, 10, 11, 12, 13, 14, 15, 16, 17, 18, 19, 20, 21, 22, 23, 24], [0, 1, 2, 3, 4, 5, 6, 7, 8, 9, 10, 11, 12, 13, 14, 15, 16, 17, 18, 19, 20, 21, 22, 23, 24, 25], [0, 1, 2, 3, 4, 5, 6, 7, 8, 9, 10, 11, 12, 13, 14, 15, 16, 17, 18, 19, 20, 21, 22, 23, 24, 25, 26], [0, 1, 2, 3, 4, 5, 6, 7, 8, 9, 10, 11, 12, 13, 14, 15, 16, 17, 18, 19, 20, 21, 22, 23, 24, 25, 26, 27], [0, 1, 2, 3, 4, 5, 6, 7, 8, 9, 10, 11, 12, 13, 14, 15, 16, 17, 18, 19, 20, 21, 22, 23, 24, 25, 26, 27, 28], [0, 1, 2, 3, 4, 5, 6, 7, 8, 9, 10, 11, 12, 13, 14, 15, 16, 17, 18, 19, 20, 21, 22, 23, 24, 25, 26, 27, 28, 29], [0, 1, 2, 3, 4, 5, 6, 7, 8, 9, 10, 11, 12, 13, 14, 15, 16, 17, 18, 19, 20, 21, 22, 23, 24, 25, 26, 27, 28, 29, 30]]) [
      ⟨(some 163), none, (.op (.build [.nil 5, .lit (.int .i64 0)] []))⟩,
      ⟨(some 164), none, (.call (.dat (.fn (.func 12) [] [])) [(.tmp 163)])⟩,
      ⟨(some 165), none, (.op (.arith .neq (.tmp 164) (.dat (.lit (.int .i64 0)))))⟩,
      ⟨(some 166), none, (.op (.mov (.tmp 165)))⟩,
      ⟨(some 167), (some (166, false)), (.op (.load 5 true (.tmp 1)))⟩,
      ⟨(some 168), (some (166, false)), (.op (.mkslice 5 [(.tmp 167)]))⟩,
      ⟨(some 169), (some (166, false)), (.call (.dat (.fn (.func 21) [] [])) [(.dat (.lit (.int .i64 2))), (.tmp 168)])⟩,
      ⟨(some 170), (some (166, false)), (.call (.dat (.fn (.func 12) [] [])) [(.tmp 169)])⟩,
      ⟨(some 171), (some (166, false)), (.op (.arith .neq (.tmp 170) (.dat (.lit (.int .i64 170)))))⟩,
      ⟨(some 172), none, (.op (.pick (.tmp 166) (.dat (.lit (.bool true))) (.tmp 171)))⟩,
      ⟨(some 173), none, (.op (.mov (.tmp 172)))⟩,
      ⟨(some 174), (some (173, false)), (.op (.load 5 true (.tmp 2)))⟩,
      ⟨(some 175), (some (173, false)), (.op (.load 5 true (.tmp 1)))⟩,
      ⟨(some 176), (some (173, false)), (.op (.mkslice 5 [(.tmp 174), (.tmp 175)]))⟩,
      ⟨(some 177), (some (173, false)), (.call (.dat (.fn (.func 21) [] [])) [(.dat (.lit (.int .i64 0))), (.tmp 176)])⟩,
      ⟨(some 178), (some (173, false)), (.call (.dat (.fn (.func 12) [] [])) [(.tmp 177)])⟩,
      ⟨(some 179), (some (173, false)), (.op (.arith .neq (.tmp 178) (.dat (.lit (.int .i64 170)))))⟩,
      ⟨(some 180), none, (.op (.pick (.tmp 173) (.dat (.lit (.bool true))) (.tmp 179)))⟩,
      ⟨(some 181), none, (.op (.mov (.tmp 180)))⟩,
      ⟨(some 182), (some (181, false)), (.op (.load 5 true (.tmp 1)))⟩,
      ⟨(some 183), (some (181, false)), (.call (.dat (.fn (.func 20) [] [])) [(.dat (.lit (.string ⟨#[97]⟩))), (.dat (.lit (.int .i64 1099511627769))), (.dat (.nil 0))])⟩,
      ⟨(some 184), (some (181, false)), (.op (.mkslice 5 [(.tmp 182), (.tmp 183)]))⟩,
      ⟨(some 185), (some (181, false)), (.call (.dat (.fn (.func 21) [] [])) [(.dat (.lit (.int .i64 0))), (.tmp 184)])⟩,
      ⟨(some 186), (some (181, false)), (.call (.dat (.fn (.func 12) [] [])) [(.tmp 185)])⟩,
      ⟨(some 187), (some (181, false)), (.op (.arith .neq (.tmp 186) (.dat (.lit (.int .i64 0)))))⟩,
      ⟨(some 188), none, (.op (.pick (.tmp 181) (.dat (.lit (.bool true))) (.tmp 187)))⟩,
      ⟨(some 189), none, (.op (.mov (.tmp 188)))⟩,
      ⟨(some 190), (some (189, false)), (.op (.ext (.makeslice 5 64 (.agg [.lit (.string ⟨#[]⟩), .lit (.int .i64 0), .lit (.int .i64 0), .lit (.int .i64 0), .nil 1])) [(.dat (.lit (.int .i64 4097))), (.dat (.lit (.int .i64 4097)))]))⟩,
      ⟨(some 191), (some (189, false)), (.op (.build [.nil 5, .lit (.int .i64 0)] [(0, 1, (.tmp 190))]))⟩,
      ⟨(some 192), (some (189, false)), (.call (.dat (.fn (.func 12) [] [])) [(.tmp 191)])⟩,
      ⟨(some 193), (some (189, false)), (.op (.arith .neq (.tmp 192) (.dat (.lit (.int .i64 2)))))⟩,
      ⟨(some 194), none, (.op (.pick (.tmp 189) (.dat (.lit (.bool true))) (.tmp 193)))⟩])
    (.cond (.tmp 194)
      (.seq (.region none [
        ⟨(some 0), none, (.op (.mov (.dat (.lit (.bool false)))))⟩])
      .ret)
      .skip))
    (.seq (.region (some [[], [], [1], [1, 2], [0, 1, 2, 3], [0, 1, 2, 3, 4], [0, 1, 2, 3, 4, 5], [0, 1, 2, 3, 4, 5], [0, 1, 2, 3, 4, 5, 6, 7], [0, 1, 2, 3, 4, 5, 6, 7, 8], [0, 1, 2, 3, 4, 5, 6, 7, 8, 9], [0, 1, 2, 3, 4, 5, 6, 7, 8, 9, 10], [0, 1, 2, 3, 4, 5, 6, 7, 8, 9, 10], [0, 1, 2, 3, 4, 5, 6, 7, 8, 9, 10, 12], [0, 1, 2, 3, 4, 5, 6, 7, 8, 9, 10, 12, 13], [0, 1, 2, 3, 4, 5, 6, 7, 8, 9, 10, 11, 12, 13, 14], [0, 1, 2, 3, 4, 5, 6, 7, 8, 9, 10, 11, 12, 13, 14, 15], [0, 1, 2, 3, 4, 5, 6, 7, 8, 9, 10, 11, 12, 13, 14, 15, 16], [0, 1, 2, 3, 4, 5, 6, 7, 8, 9, 10, 11, 12, 13, 14, 15, 16, 17], [0, 1, 2, 3, 4, 5, 6, 7, 8, 9, 10, 11, 12, 13, 14, 15, 16, 17], [0, 1, 2, 3, 4, 5, 6, 7, 8, 9, 10, 11, 12, 13, 14, 15, 16, 17], [0, 1, 2, 3, 4, 5, 6, 7, 8, 9, 10, 11, 12, 13, 14, 15, 16, 17, 19, 20], [0, 1, 2, 3, 4, 5, 6, 7, 8, 9, 10, 11, 12, 13, 14, 15, 16, 17, 19, 20, 21], [0, 1, 2, 3, 4, 5, 6, 7, 8, 9, 10, 11, 12, 13, 14, 15, 16, 17, 18, 19, 20, 21, 22], [0, 1, 2, 3, 4, 5, 6, 7, 8, 9, 10, 11, 12, 13, 14, 15, 16, 17, 18, 19, 20, 21, 22, 23], [0, 1, 2, 3, 4, 5, 6, 7, 8, 9, 10, 11, 12, 13, 14, 15, 16, 17, 18, 19, 20, 21, 22, 23, 24], [0, 1, 2, 3, 4, 5, 6, 7, 8, 9, 10, 11, 12, 13, 14, 15, 16, 17, 18, 19, 20, 21, 22, 23, 24, 25], [0, 1, 2, 3, 4, 5, 6, 7, 8, 9, 10, 11, 12, 13, 14, 15, 16, 17, 18, 19, 20, 21, 22, 23, 24, 25], [0, 1, 2, 3, 4, 5, 6, 7, 8, 9, 10, 11, 12, 13, 14, 15, 16, 17, 18, 19, 20, 21, 22, 23, 24, 25], [0, 1, 2, 3, 4, 5, 6, 7, 8, 9, 10, 11, 12, 13, 14, 15, 16, 17, 18, 19, 20, 21, 22, 23, 24, 25], [0, 1, 2, 3, 4, 5, 6, 7, 8, 9, 10, 11, 12, 13, 14, 15, 16, 17, 18, 19, 20, 21, 22, 23, 24, 25, 27, 28, 29], [0, 1, 2, 3, 4, 5, 6, 7, 8, 9, 10, 11, 12, 13, 14, 15, 16, 17, 18, 19, 20, 21, 22, 23, 24, 25, 27, 28, 29, 30], [0, 1, 2, 3, 4, 5, 6, 7, 8, 9, 10, 11, 12, 13, 14, 15, 16, 17, 18, 19, 20, 21, 22, 23, 24, 25, 26, 27, 28, 29, 30, 31], [0, 1, 2, 3, 4, 5, 6, 7, 8, 9, 10, 11, 12, 13, 14, 15, 16, 17, 18, 19, 20, 21, 22, 23, 24, 25, 26, 27, 28, 29, 30, 31, 32], [0, 1, 2, 3, 4, 5, 6, 7, 8, 9, 10, 11, 12, 13, 14, 15, 16, 17, 18, 19, 20, 21, 22, 23, 24, 25, 26, 27, 28, 29, 30, 31, 32, 33]]) [
      ⟨(some 195), none, (.op (.load 2 true (.tmp 3)))⟩,
      ⟨(some 196), none, (.op (.load 5 true (.tmp 1)))⟩,
      ⟨(some 197), none, (.op (.mkslice 5 [(.tmp 196)]))⟩,
      ⟨(some 198), none, (.call (.dat (.fn (.func 21) [] [])) [(.dat (.lit (.int .i64 0))), (.tmp 197)])⟩,
      ⟨(some 199), none, (.call (.dat (.fn (.func 17) [] [])) [(.tmp 195), (.tmp 198)])⟩,
      ⟨(some 200), none, (.op (.mov (.tmp 199)))⟩,
      ⟨(some 201), (some (200, true)), (.op (.load 2 true (.tmp 5)))⟩,
      ⟨(some 202), (some (200, true)), (.op (.build [.nil 5, .lit (.int .i64 0)] []))⟩,
      ⟨(some 203), (some (200, true)), (.call (.dat (.fn (.func 17) [] [])) [(.tmp 201), (.tmp 202)])⟩,
      ⟨(some 204), none, (.op (.pick (.tmp 200) (.tmp 203) (.dat (.lit (.bool false)))))⟩,
      ⟨(some 205), none, (.op (.mov (.tmp 204)))⟩,
      ⟨(some 206), (some (205, true)), (.op (.load 2 true (.tmp 9)))⟩,
      ⟨(some 207), (some (205, true)), (.op (.load 5 true (.tmp 1)))⟩,
      ⟨(some 208), (some (205, true)), (.op (.mkslice 5 [(.tmp 207)]))⟩,
      ⟨(some 209), (some (205, true)), (.call (.dat (.fn (.func 21) [] [])) [(.dat (.lit (.int .i64 1))), (.tmp 208)])⟩,
      ⟨(some 210), (some (205, true)), (.call (.dat (.fn (.func 17) [] [])) [(.tmp 206), (.tmp 209)])⟩,
      ⟨(some 211), none, (.op (.pick (.tmp 205) (.tmp 210) (.dat (.lit (.bool false)))))⟩,
      ⟨(some 212), none, (.op (.mov (.tmp 211)))⟩,
      ⟨(some 213), (some (212, true)), (.op (.load 2 true (.tmp 15)))⟩,
      ⟨(some 214), (some (212, true)), (.op (.load 5 true (.tmp 1)))⟩,
      ⟨(some 215), (some (212, true)), (.op (.load 5 true (.tmp 2)))⟩,
      ⟨(some 216), (some (212, true)), (.op (.mkslice 5 [(.tmp 214), (.tmp 215)]))⟩,
      ⟨(some 217), (some (212, true)), (.call (.dat (.fn (.func 21) [] [])) [(.dat (.lit (.int .i64 1))), (.tmp 216)])⟩,
      ⟨(some 218), (some (212, true)), (.call (.dat (.fn (.func 17) [] [])) [(.tmp 213), (.tmp 217)])⟩,
      ⟨(some 219), none, (.op (.pick (.tmp 212) (.tmp 218) (.dat (.lit (.bool false)))))⟩,
      ⟨(some 220), none, (.op (.mov (.tmp 219)))⟩,
      ⟨(some 221), (some (220, true)), (.op (.load 2 true (.tmp 19)))⟩,
      ⟨(some 222), (some (220, true)), (.op (.load 5 true (.tmp 1)))⟩,
      ⟨(some 223), (some (220, true)), (.op (.load 5 true (.tmp 1)))⟩,
      ⟨(some 224), (some (220, true)), (.op (.load 5 true (.tmp 1)))⟩,
      ⟨(some 225), (some (220, true)), (.op (.mkslice 5 [(.tmp 222), (.tmp 223), (.tmp 224)]))⟩,
      ⟨(some 226), (some (220, true)), (.call (.dat (.fn (.func 21) [] [])) [(.dat (.lit (.int .i64 1))), (.tmp 225)])⟩,
      ⟨(some 227), (some (220, true)), (.call (.dat (.fn (.func 17) [] [])) [(.tmp 221), (.tmp 226)])⟩,
      ⟨(some 228), none, (.op (.pick (.tmp 220) (.tmp 227) (.dat (.lit (.bool false)))))⟩,
      ⟨(some 0), none, (.op (.mov (.tmp 228)))⟩])
    .ret))))))))))))))))
  res := [.tmp 0]
theorem c10 : CmpF Tryd.prog 10 a10 := chkF_cmp (F := Tryd.f10) (by kernel_rfl) mixed (by kernel_rfl)
/-- hansard/hansardref17.FewWords -/
def a11 : AF where
  nt := 64
  body := (.seq (.region none [
      ⟨(some 2), none, (.op (.mov (.dat (.lit (.bool false)))))⟩])
    (.seq (.seq (.region none [
      ⟨(some 3), none, (.op (.mov (.dat (.lit (.int .i64 0)))))⟩])
    (.block 0
      (.loop
        (.seq (.seq (.region none [
          ⟨(some 5), none, (.op (.mov (.tmp 3)))⟩,
          ⟨(some 6), none, (.op (.mov (.tmp 0)))⟩,
          ⟨(some 7), none, (.op (.len (.tmp 6)))⟩,
          ⟨(some 8), none, (.op (.arith .lss (.tmp 5) (.tmp 7)))⟩,
          ⟨(some 9), none, (.op (.mov (.tmp 8)))⟩,
          ⟨(some 10), (some (9, true)), (.op (.mov (.tmp 3)))⟩,
          ⟨(some 11), (some (9, true)), (.op (.arith .lss (.tmp 10) (.dat (.lit (.int .i64 110)))))⟩,
          ⟨(some 12), none, (.op (.pick (.tmp 9) (.tmp 11) (.dat (.lit (.bool false)))))⟩])
        (.cond (.tmp 12)
          .skip
          (.exit 0)))
        (.seq (.block 1
          (.seq (.seq (.region none [
            ⟨(some 15), none, (.op (.mov (.tmp 0)))⟩,
            ⟨(some 16), none, (.op (.mov (.tmp 3)))⟩,
            ⟨(some 17), none, (.op (.index 5 (.tmp 15) (.tmp 16)))⟩,
            ⟨(some 18), none, (.op (.field 0 1 false (.tmp 17)))⟩,
            ⟨(some 19), none, (.op (.load 1 false (.tmp 18)))⟩,
            ⟨(some 20), none, (.op (.lenS (.tmp 19)))⟩,
            ⟨(some 21), none, (.op (.arith .gtr (.tmp 20) (.dat (.lit (.int .i64 200)))))⟩,
            ⟨(some 22), none, (.op (.mov (.tmp 21)))⟩,
            ⟨(some 23), (some (22, false)), (.op (.mov (.tmp 0)))⟩,
            ⟨(some 24), (some (22, false)), (.op (.mov (.tmp 3)))⟩,
            ⟨(some 25), (some (22, false)), (.op (.index 5 (.tmp 23) (.tmp 24)))⟩,
            ⟨(some 26), (some (22, false)), (.op (.field 4 1 false (.tmp 25)))⟩,
            ⟨(some 27), (some (22, false)), (.op (.load 1 false (.tmp 26)))⟩,
            ⟨(some 28), (some (22, false)), (.op (.len (.tmp 27)))⟩,
            ⟨(some 29), (some (22, false)), (.op (.arith .gtr (.tmp 28) (.dat (.lit (.int .i64 8)))))⟩,
            ⟨(some 30), none, (.op (.pick (.tmp 22) (.dat (.lit (.bool true))) (.tmp 29)))⟩])
          (.cond (.tmp 30)
            (.seq (.region none [
              ⟨(some 2), none, (.op (.mov (.dat (.lit (.bool false)))))⟩])
            .ret)
            .skip))
          (.seq (.region none [
            ⟨(some 4), none, (.op (.mov (.dat (.lit (.int .i64 0)))))⟩])
          (.block 2
            (.loop
              (.seq (.seq (.region none [
                ⟨(some 31), none, (.op (.mov (.tmp 4)))⟩,
                ⟨(some 32), none, (.op (.mov (.tmp 0)))⟩,
                ⟨(some 33), none, (.op (.mov (.tmp 3)))⟩,
                ⟨(some 34), none, (.op (.index 5 (.tmp 32) (.tmp 33)))⟩,
                ⟨(some 35), none, (.op (.field 4 1 false (.tmp 34)))⟩,
                ⟨(some 36), none, (.op (.load 1 false (.tmp 35)))⟩,
                ⟨(some 37), none, (.op (.len (.tmp 36)))⟩,
                ⟨(some 38), none, (.op (.arith .lss (.tmp 31) (.tmp 37)))⟩])
              (.cond (.tmp 38)
                .skip
                (.exit 2)))
              (.seq (.block 3
                (.seq (.region none [
                  ⟨(some 41), none, (.op (.mov (.tmp 0)))⟩,
                  ⟨(some 42), none, (.op (.mov (.tmp 3)))⟩,
                  ⟨(some 43), none, (.op (.index 5 (.tmp 41) (.tmp 42)))⟩,
                  ⟨(some 44), none, (.op (.field 4 1 false (.tmp 43)))⟩,
                  ⟨(some 45), none, (.op (.load 1 false (.tmp 44)))⟩,
                  ⟨(some 46), none, (.op (.mov (.tmp 4)))⟩,
                  ⟨(some 47), none, (.op (.index 1 (.tmp 45) (.tmp 46)))⟩,
                  ⟨(some 48), none, (.op (.load 1 false (.tmp 47)))⟩,
                  ⟨(some 49), none, (.op (.lenS (.tmp 48)))⟩,
                  ⟨(some 50), none, (.op (.arith .gtr (.tmp 49) (.dat (.lit (.int .i64 200)))))⟩])
                (.cond (.tmp 50)
                  (.seq (.region none [
                    ⟨(some 2), none, (.op (.mov (.dat (.lit (.bool false)))))⟩])
                  .ret)
                  .skip)))
              (.region none [
                ⟨(some 39), none, (.op (.mov (.tmp 4)))⟩,
                ⟨(some 40), none, (.op (.arith .add (.tmp 39) (.dat (.lit (.int .i64 1)))))⟩,
                ⟨(some 4), none, (.op (.mov (.tmp 40)))⟩]))))))))
        (.region none [
          ⟨(some 13), none, (.op (.mov (.tmp 3)))⟩,
          ⟨(some 14), none, (.op (.arith .add (.tmp 13) (.dat (.lit (.int .i64 1)))))⟩,
          ⟨(some 3), none, (.op (.mov (.tmp 14)))⟩]))))))
    (.seq (.region none [
      ⟨(some 51), none, (.op (.mov (.tmp 0)))⟩,
      ⟨(some 52), none, (.op (.len (.tmp 51)))⟩,
      ⟨(some 53), none, (.op (.arith .leq (.tmp 52) (.dat (.lit (.int .i64 100)))))⟩,
      ⟨(some 54), none, (.op (.mov (.tmp 53)))⟩,
      ⟨(some 55), (some (54, false)), (.op (.mov (.tmp 0)))⟩,
      ⟨(some 56), (some (54, false)), (.op (.len (.tmp 55)))⟩,
      ⟨(some 57), (some (54, false)), (.op (.arith .gtr (.tmp 56) (.dat (.lit (.int .i64 4096)))))⟩,
      ⟨(some 58), (some (54, false)), (.op (.mov (.tmp 57)))⟩,
      ⟨(some 59), (some (58, true)), (.op (.mov (.tmp 0)))⟩,
      ⟨(some 60), (some (58, true)), (.op (.len (.tmp 59)))⟩,
      ⟨(some 61), (some (58, true)), (.op (.arith .leq (.tmp 60) (.dat (.lit (.int .i64 4200)))))⟩,
      ⟨(some 62), (some (54, false)), (.op (.pick (.tmp 58) (.tmp 61) (.dat (.lit (.bool false)))))⟩,
      ⟨(some 63), none, (.op (.pick (.tmp 54) (.dat (.lit (.bool true))) (.tmp 62)))⟩,
      ⟨(some 2), none, (.op (.mov (.tmp 63)))⟩])
    .ret)))
  res := [.tmp 2]
theorem c11 : CmpF Tryd.prog 11 a11 := chkF_cmp (F := Tryd.f11) (by kernel_rfl) mixed (by kernel_rfl)
/-- hansard/stream.Check -/
def a12 : AF where
  nt := 5
  body := (.seq (.region none [
      ⟨(some 1), none, (.op (.box true (.tmp 0)))⟩,
      ⟨(some 2), none, (.op (.alloc false [.lit (.int .i64 0)]))⟩])
    (.seq (.sregion [
      ⟨none, none, (.defer (.dat (.fn (.func 22) [] [])) [(.tmp 2)])⟩])
    (.seq (.region none [
      ⟨(some 3), none, (.op (.load 2 true (.tmp 1)))⟩,
      ⟨(some 4), none, (.call (.dat (.fn (.func 23) [] [])) [(.tmp 3)])⟩])
    (.seq (.region none [
      ⟨none, none, (.op (.store 1 (.tmp 2) (.dat (.lit (.int .i64 0)))))⟩])
    .ret))))
  res := [.cell 2 1 false]
theorem c12 : CmpF Tryd.prog 12 a12 := chkF_cmp (F := Tryd.f12) (by kernel_rfl) mixed (by kernel_rfl)
/-- hansard/hansardref17.Check -/
def a13 : AF where
  nt := 24
  body := (.seq (.region none [
      ⟨(some 1), none, (.op (.box true (.tmp 0)))⟩,
      ⟨(some 2), none, (.op (.mov (.dat (.lit (.int .i64 0)))))⟩])
    (.seq (.seq (.region none [
      ⟨(some 3), none, (.op (.field 0 1 false (.tmp 1)))⟩,
      ⟨(some 4), none, (.op (.load 1 false (.tmp 3)))⟩,
      ⟨(some 5), none, (.op (.len (.tmp 4)))⟩,
      ⟨(some 6), none, (.op (.arith .gtr (.tmp 5) (.dat (.lit (.int .i64 4096)))))⟩])
    (.cond (.tmp 6)
      (.seq (.region none [
        ⟨(some 2), none, (.op (.mov (.dat (.lit (.int .i64 2)))))⟩])
      .ret)
      .skip))
    (.seq (.seq (.region none [
      ⟨(some 7), none, (.op (.field 1 1 false (.tmp 1)))⟩,
      ⟨(some 8), none, (.op (.load 1 false (.tmp 7)))⟩,
      ⟨(some 9), none, (.op (.arith .lss (.tmp 8) (.dat (.lit (.int .i64 0)))))⟩,
      ⟨(some 10), none, (.op (.mov (.tmp 9)))⟩,
      ⟨(some 11), (some (10, false)), (.op (.field 1 1 false (.tmp 1)))⟩,
      ⟨(some 12), (some (10, false)), (.op (.load 1 false (.tmp 11)))⟩,
      ⟨(some 13), (some (10, false)), (.op (.field 0 1 false (.tmp 1)))⟩,
      ⟨(some 14), (some (10, false)), (.op (.load 1 false (.tmp 13)))⟩,
      ⟨(some 15), (some (10, false)), (.op (.len (.tmp 14)))⟩,
      ⟨(some 16), (some (10, false)), (.op (.arith .gtr (.tmp 12) (.tmp 15)))⟩,
      ⟨(some 17), none, (.op (.pick (.tmp 10) (.dat (.lit (.bool true))) (.tmp 16)))⟩,
      ⟨(some 18), none, (.op (.mov (.tmp 17)))⟩,
      ⟨(some 19), (some (18, false)), (.op (.field 0 1 false (.tmp 1)))⟩,
      ⟨(some 20), (some (18, false)), (.op (.load 1 false (.tmp 19)))⟩,
      ⟨(some 21), (some (18, false)), (.call (.dat (.fn (.func 24) [] [])) [(.tmp 20)])⟩,
      ⟨(some 22), (some (18, false)), (.op (.not (.tmp 21)))⟩,
      ⟨(some 23), none, (.op (.pick (.tmp 18) (.dat (.lit (.bool true))) (.tmp 22)))⟩])
    (.cond (.tmp 23)
      (.seq (.region none [
        ⟨(some 2), none, (.op (.mov (.dat (.lit (.int .i64 170)))))⟩])
      .ret)
      .skip))
    (.seq (.region none [
      ⟨(some 2), none, (.op (.mov (.dat (.lit (.int .i64 0)))))⟩])
    .ret))))
  res := [.tmp 2]
theorem c13 : CmpF Tryd.prog 13 a13 := chkF_cmp (F := Tryd.f13) (by kernel_rfl) mixed (by kernel_rfl)
/-- hansard/hansardref17.Few -/
def a14 : AF where
  nt := 13
  body := (.seq (.region none [
      ⟨(some 2), none, (.op (.box true (.tmp 0)))⟩,
      ⟨(some 3), none, (.op (.box true (.tmp 1)))⟩,
      ⟨(some 4), none, (.op (.mov (.dat (.lit (.bool false)))))⟩])
    (.seq (.region none [
      ⟨(some 5), none, (.op (.field 0 1 false (.tmp 2)))⟩,
      ⟨(some 6), none, (.op (.load 1 false (.tmp 5)))⟩,
      ⟨(some 7), none, (.call (.dat (.fn (.func 11) [] [])) [(.tmp 6)])⟩,
      ⟨(some 8), none, (.op (.mov (.tmp 7)))⟩,
      ⟨(some 9), (some (8, true)), (.op (.field 3 1 false (.tmp 3)))⟩,
      ⟨(some 10), (some (8, true)), (.op (.load 1 false (.tmp 9)))⟩,
      ⟨(some 11), (some (8, true)), (.call (.dat (.fn (.func 11) [] [])) [(.tmp 10)])⟩,
      ⟨(some 12), none, (.op (.pick (.tmp 8) (.tmp 11) (.dat (.lit (.bool false)))))⟩,
      ⟨(some 4), none, (.op (.mov (.tmp 12)))⟩])
    .ret))
  res := [.tmp 4]
theorem c14 : CmpF Tryd.prog 14 a14 := chkF_cmp (F := Tryd.f14) (by kernel_rfl) mixed (by kernel_rfl)
/-- hansard/stream.Do -/
def a15 : AF where
  nt := 35
  body := (.seq (.region none [
      ⟨(some 2), none, (.op (.box true (.tmp 0)))⟩,
      ⟨(some 3), none, (.op (.box true (.tmp 1)))⟩,
      ⟨(some 4), none, (.op (.alloc true [.nil 5, .lit (.int .i64 0)]))⟩,
      ⟨(some 5), none, (.op (.alloc false [.lit (.int .i64 0)]))⟩])
    (.seq (.sregion [
      ⟨(some 8), none, (.op (.func (.func 25) [] [(.tmp 5), (.tmp 4)]))⟩,
      ⟨none, none, (.defer (.tmp 8) [])⟩])
    (.seq (.sregion [
      ⟨none, none, (.defer (.dat (.fn (.func 22) [] [])) [(.tmp 5)])⟩])
    (.seq (.region none [
      ⟨(some 9), none, (.op (.load 2 true (.tmp 2)))⟩,
      ⟨(some 10), none, (.call (.dat (.fn (.func 23) [] [])) [(.tmp 9)])⟩])
    (.seq (.region (some [[], [], [1], [0, 1, 2], [0, 1, 2, 3], [0, 1, 2, 3, 4], [0, 1, 2, 3, 4], [], [0, 1, 2, 3, 4, 5, 7], [0, 1, 2, 3, 4, 5, 6, 7, 8]]) [
      ⟨(some 12), none, (.call (.dat (.fn (.func 26) [] [])) [])⟩,
      ⟨(some 13), none, (.op (.field 0 1 false (.tmp 3)))⟩,
      ⟨(some 14), none, (.op (.load 1 false (.tmp 13)))⟩,
      ⟨(some 15), none, (.op (.ext (.lookup (.int .i64) true (.agg [.lit (.nilFunc), .lit (.nilFunc)])) [(.tmp 12), (.tmp 14)]))⟩,
      ⟨(some 11), none, (.op (.mov (.tmp 15)))⟩,
      ⟨(some 16), none, (.op (.extract (.tmp 11) 0))⟩,
      ⟨(some 17), none, (.op (.extract (.tmp 11) 1))⟩,
      ⟨(some 6), none, (.op (.alloc true [.lit (.nilFunc), .lit (.nilFunc)]))⟩,
      ⟨none, none, (.op (.store 2 (.tmp 6) (.tmp 16)))⟩,
      ⟨(some 7), none, (.op (.mov (.tmp 17)))⟩])
    (.seq (.region none [
      ⟨(some 18), none, (.op (.mov (.tmp 7)))⟩,
      ⟨(some 19), none, (.op (.mov (.tmp 18)))⟩,
      ⟨(some 20), (some (19, true)), (.op (.field 0 1 false (.tmp 6)))⟩,
      ⟨(some 21), (some (19, true)), (.op (.load 1 false (.tmp 20)))⟩,
      ⟨(some 22), (some (19, true)), (.op (.load 2 true (.tmp 2)))⟩,
      ⟨(some 23), (some (19, true)), (.op (.load 4 true (.tmp 3)))⟩,
      ⟨(some 24), (some (19, true)), (.call (.tmp 21) [(.tmp 22), (.tmp 23)])⟩,
      ⟨(some 25), none, (.op (.pick (.tmp 19) (.tmp 24) (.dat (.lit (.bool false)))))⟩,
      ⟨(some 26), none, (.call (.dat (.fn (.func 27) [] [])) [(.tmp 25), (.dat (.lit (.int .i64 170)))])⟩])
    (.seq (.region none [
      ⟨(some 27), none, (.op (.field 1 1 false (.tmp 6)))⟩,
      ⟨(some 28), none, (.op (.load 1 false (.tmp 27)))⟩,
      ⟨(some 29), none, (.op (.load 2 true (.tmp 2)))⟩,
      ⟨(some 30), none, (.op (.load 4 true (.tmp 3)))⟩,
      ⟨(some 31), none, (.call (.tmp 28) [(.tmp 29), (.tmp 30)])⟩,
      ⟨none, none, (.op (.store 2 (.tmp 4) (.tmp 31)))⟩])
    (.seq (.region none [
      ⟨(some 32), none, (.op (.load 2 true (.tmp 4)))⟩,
      ⟨(some 33), none, (.call (.dat (.fn (.func 23) [] [])) [(.tmp 32)])⟩])
    (.seq (.region none [
      ⟨(some 34), none, (.op (.load 2 true (.tmp 4)))⟩,
      ⟨none, none, (.op (.store 2 (.tmp 4) (.tmp 34)))⟩,
      ⟨none, none, (.op (.store 1 (.tmp 5) (.dat (.lit (.int .i64 0)))))⟩])
    .ret)))))))))
  res := [.cell 4 2 true, .cell 5 1 false]
theorem c15 : CmpF Tryd.prog 15 a15 := chkF_cmp (F := Tryd.f15) (by kernel_rfl) mixed (by kernel_rfl)
/-- hansard/hansardref17.Do -/
def a16 : AF where
  nt := 75
  body := (.seq (.region none [
      ⟨(some 2), none, (.op (.box true (.tmp 0)))⟩,
      ⟨(some 3), none, (.op (.box true (.tmp 1)))⟩,
      ⟨(some 4), none, (.op (.alloc true [.nil 5, .lit (.int .i64 0)]))⟩,
      ⟨(some 5), none, (.op (.mov (.dat (.lit (.int .i64 0)))))⟩])
    (.seq (.region none [
      ⟨(some 9), none, (.op (.load 2 true (.tmp 2)))⟩,
      ⟨(some 10), none, (.call (.dat (.fn (.func 13) [] [])) [(.tmp 9)])⟩,
      ⟨(some 6), none, (.op (.mov (.tmp 10)))⟩])
    (.seq (.seq (.region none [
      ⟨(some 11), none, (.op (.mov (.tmp 6)))⟩,
      ⟨(some 12), none, (.op (.arith .neq (.tmp 11) (.dat (.lit (.int .i64 0)))))⟩])
    (.cond (.tmp 12)
      (.seq (.region none [
        ⟨(some 13), none, (.op (.build [.nil 5, .lit (.int .i64 0)] []))⟩,
        ⟨(some 14), none, (.op (.mov (.tmp 6)))⟩,
        ⟨none, none, (.op (.store 2 (.tmp 4) (.tmp 13)))⟩,
        ⟨(some 5), none, (.op (.mov (.tmp 14)))⟩])
      .ret)
      .skip))
    (.seq (.seq (.region none [
      ⟨(some 15), none, (.op (.load 2 true (.tmp 2)))⟩,
      ⟨(some 16), none, (.op (.load 4 true (.tmp 3)))⟩,
      ⟨(some 17), none, (.call (.dat (.fn (.func 28) [] [])) [(.tmp 15), (.tmp 16)])⟩,
      ⟨(some 18), none, (.op (.not (.tmp 17)))⟩])
    (.cond (.tmp 18)
      (.seq (.region none [
        ⟨(some 19), none, (.op (.build [.nil 5, .lit (.int .i64 0)] []))⟩,
        ⟨none, none, (.op (.store 2 (.tmp 4) (.tmp 19)))⟩,
        ⟨(some 5), none, (.op (.mov (.dat (.lit (.int .i64 170)))))⟩])
      .ret)
      .skip))
    (.seq (.region none [
      ⟨(some 20), none, (.op (.field 1 1 false (.tmp 2)))⟩,
      ⟨(some 21), none, (.op (.load 1 false (.tmp 20)))⟩,
      ⟨(some 22), none, (.op (.build [.nil 5, .lit (.int .i64 0)] [(1, 1, (.tmp 21))]))⟩,
      ⟨(some 7), none, (.op (.alloc true [.nil 5, .lit (.int .i64 0)]))⟩,
      ⟨none, none, (.op (.store 2 (.tmp 7) (.tmp 22)))⟩])
    (.seq (.seq (.region none [
      ⟨(some 23), none, (.op (.field 0 1 false (.tmp 3)))⟩,
      ⟨(some 24), none, (.op (.load 1 false (.tmp 23)))⟩])
    (.block 0
      (.seq (.region none [
        ⟨(some 35), none, (.op (.arith .eql (.tmp 24) (.dat (.lit (.int .i64 1)))))⟩,
        ⟨(some 34), none, (.op (.mov (.tmp 35)))⟩])
      (.cond (.tmp 34)
        (.region (some [[], [0], [], [2], [0, 1, 2, 3], [], [5], [0, 1, 2, 3, 4, 5, 6], [0, 1, 2, 3, 4, 5, 6, 7], [0, 1, 2, 3, 4, 5, 6, 7, 8]]) [
          ⟨(some 36), none, (.op (.field 0 1 false (.tmp 7)))⟩,
          ⟨(some 37), none, (.op (.load 1 false (.tmp 36)))⟩,
          ⟨(some 38), none, (.op (.field 0 1 false (.tmp 2)))⟩,
          ⟨(some 39), none, (.op (.load 1 false (.tmp 38)))⟩,
          ⟨(some 40), none, (.op (.append 5 64 (.tmp 37) (.tmp 39)))⟩,
          ⟨(some 41), none, (.op (.field 3 1 false (.tmp 3)))⟩,
          ⟨(some 42), none, (.op (.load 1 false (.tmp 41)))⟩,
          ⟨(some 43), none, (.op (.append 5 64 (.tmp 40) (.tmp 42)))⟩,
          ⟨(some 44), none, (.op (.field 0 1 false (.tmp 7)))⟩,
          ⟨none, none, (.op (.store 1 (.tmp 44) (.tmp 43)))⟩])
        (.seq (.region none [
          ⟨(some 46), none, (.op (.arith .eql (.tmp 24) (.dat (.lit (.int .i64 2)))))⟩,
          ⟨(some 45), none, (.op (.mov (.tmp 46)))⟩])
        (.cond (.tmp 45)
          (.region (some [[], [0], [], [2], [], [4], [2, 3, 4, 5], [0, 1, 2, 3, 4, 5, 6], [], [8], [0, 1, 2, 3, 4, 5, 6, 7, 8, 9], [], [11], [], [13], [], [15], [13, 14, 15, 16], [11, 12, 13, 14, 15, 16, 17], [0, 1, 2, 3, 4, 5, 6, 7, 8, 9, 10, 11, 12, 13, 14, 15, 16, 17, 18], [0, 1, 2, 3, 4, 5, 6, 7, 8, 9, 10, 11, 12, 13, 14, 15, 16, 17, 18, 19], [0, 1, 2, 3, 4, 5, 6, 7, 8, 9, 10, 11, 12, 13, 14, 15, 16, 17, 18, 19, 20]]) [
            ⟨(some 47), none, (.op (.field 0 1 false (.tmp 7)))⟩,
            ⟨(some 48), none, (.op (.load 1 false (.tmp 47)))⟩,
            ⟨(some 49), none, (.op (.field 0 1 false (.tmp 2)))⟩,
            ⟨(some 50), none, (.op (.load 1 false (.tmp 49)))⟩,
            ⟨(some 51), none, (.op (.field 1 1 false (.tmp 3)))⟩,
            ⟨(some 52), none, (.op (.load 1 false (.tmp 51)))⟩,
            ⟨(some 53), none, (.op (.slice 5 (.tmp 50) none (some (.tmp 52))))⟩,
            ⟨(some 54), none, (.op (.append 5 64 (.tmp 48) (.tmp 53)))⟩,
            ⟨(some 55), none, (.op (.field 3 1 false (.tmp 3)))⟩,
            ⟨(some 56), none, (.op (.load 1 false (.tmp 55)))⟩,
            ⟨(some 57), none, (.op (.append 5 64 (.tmp 54) (.tmp 56)))⟩,
            ⟨(some 58), none, (.op (.field 0 1 false (.tmp 2)))⟩,
            ⟨(some 59), none, (.op (.load 1 false (.tmp 58)))⟩,
            ⟨(some 60), none, (.op (.field 1 1 false (.tmp 3)))⟩,
            ⟨(some 61), none, (.op (.load 1 false (.tmp 60)))⟩,
            ⟨(some 62), none, (.op (.field 2 1 false (.tmp 3)))⟩,
            ⟨(some 63), none, (.op (.load 1 false (.tmp 62)))⟩,
            ⟨(some 64), none, (.op (.arith .add (.tmp 61) (.tmp 63)))⟩,
            ⟨(some 65), none, (.op (.slice 5 (.tmp 59) (some (.tmp 64)) none))⟩,
            ⟨(some 66), none, (.op (.append 5 64 (.tmp 57) (.tmp 65)))⟩,
            ⟨(some 67), none, (.op (.field 0 1 false (.tmp 7)))⟩,
            ⟨none, none, (.op (.store 1 (.tmp 67) (.tmp 66)))⟩])
          (.seq (.region none [
            ⟨(some 25), none, (.op (.field 0 1 false (.tmp 7)))⟩,
            ⟨(some 26), none, (.op (.load 1 false (.tmp 25)))⟩,
            ⟨(some 27), none, (.op (.field 0 1 false (.tmp 2)))⟩,
            ⟨(some 28), none, (.op (.load 1 false (.tmp 27)))⟩,
            ⟨(some 29), none, (.op (.append 5 64 (.tmp 26) (.tmp 28)))⟩,
            ⟨(some 30), none, (.op (.field 0 1 false (.tmp 7)))⟩,
            ⟨none, none, (.op (.store 1 (.tmp 30) (.tmp 29)))⟩])
          (.region none [
            ⟨(some 31), none, (.op (.field 1 1 false (.tmp 3)))⟩,
            ⟨(some 32), none, (.op (.load 1 false (.tmp 31)))⟩,
            ⟨(some 33), none, (.op (.field 1 1 false (.tmp 7)))⟩,
            ⟨none, none, (.op (.store 1 (.tmp 33) (.tmp 32)))⟩]))))))))
    (.seq (.region none [
      ⟨(some 68), none, (.op (.load 2 true (.tmp 7)))⟩,
      ⟨(some 69), none, (.call (.dat (.fn (.func 13) [] [])) [(.tmp 68)])⟩,
      ⟨(some 8), none, (.op (.mov (.tmp 69)))⟩])
    (.seq (.seq (.region none [
      ⟨(some 70), none, (.op (.mov (.tmp 8)))⟩,
      ⟨(some 71), none, (.op (.arith .neq (.tmp 70) (.dat (.lit (.int .i64 0)))))⟩])
    (.cond (.tmp 71)
      (.seq (.region none [
        ⟨(some 72), none, (.op (.build [.nil 5, .lit (.int .i64 0)] []))⟩,
        ⟨(some 73), none, (.op (.mov (.tmp 8)))⟩,
        ⟨none, none, (.op (.store 2 (.tmp 4) (.tmp 72)))⟩,
        ⟨(some 5), none, (.op (.mov (.tmp 73)))⟩])
      .ret)
      .skip))
    (.seq (.region none [
      ⟨(some 74), none, (.op (.load 2 true (.tmp 7)))⟩,
      ⟨none, none, (.op (.store 2 (.tmp 4) (.tmp 74)))⟩,
      ⟨(some 5), none, (.op (.mov (.dat (.lit (.int .i64 0)))))⟩])
    .ret)))))))))
  res := [.cell 4 2 true, .tmp 5]
theorem c16 : CmpF Tryd.prog 16 a16 := chkF_cmp (F := Tryd.f16) (by kernel_rfl) mixed (by kernel_rfl)
/-- hansard/hansardref17.Same -/
def a17 : AF where
  nt := 17
  body := (.seq (.region none [
      ⟨(some 2), none, (.op (.box true (.tmp 0)))⟩,
      ⟨(some 3), none, (.op (.box true (.tmp 1)))⟩,
      ⟨(some 4), none, (.op (.mov (.dat (.lit (.bool false)))))⟩])
    (.seq (.region none [
      ⟨(some 5), none, (.op (.field 1 1 false (.tmp 2)))⟩,
      ⟨(some 6), none, (.op (.load 1 false (.tmp 5)))⟩,
      ⟨(some 7), none, (.op (.field 1 1 false (.tmp 3)))⟩,
      ⟨(some 8), none, (.op (.load 1 false (.tmp 7)))⟩,
      ⟨(some 9), none, (.op (.arith .eql (.tmp 6) (.tmp 8)))⟩,
      ⟨(some 10), none, (.op (.mov (.tmp 9)))⟩,
      ⟨(some 11), (some (10, true)), (.op (.field 0 1 false (.tmp 2)))⟩,
      ⟨(some 12), (some (10, true)), (.op (.load 1 false (.tmp 11)))⟩,
      ⟨(some 13), (some (10, true)), (.op (.field 0 1 false (.tmp 3)))⟩,
      ⟨(some 14), (some (10, true)), (.op (.load 1 false (.tmp 13)))⟩,
      ⟨(some 15), (some (10, true)), (.call (.dat (.fn (.func 19) [] [])) [(.tmp 12), (.tmp 14)])⟩,
      ⟨(some 16), none, (.op (.pick (.tmp 10) (.tmp 15) (.dat (.lit (.bool false)))))⟩,
      ⟨(some 4), none, (.op (.mov (.tmp 16)))⟩])
    .ret))
  res := [.tmp 4]
theorem c17 : CmpF Tryd.prog 17 a17 := chkF_cmp (F := Tryd.f17) (by kernel_rfl) mixed (by kernel_rfl)
/-- hansard/hansardlaw17.few -/
def a18 : AF where
  nt := 38
  body := (.seq (.region none [
      ⟨(some 2), none, (.op (.box true (.tmp 0)))⟩,
      ⟨(some 4), none, (.op (.mov (.dat (.lit (.bool false)))))⟩])
    (.seq (.seq (.region none [
      ⟨(some 7), none, (.op (.mov (.tmp 1)))⟩,
      ⟨(some 8), none, (.op (.len (.tmp 7)))⟩,
      ⟨(some 9), none, (.op (.mov (.dat (.lit (.int .i64 0)))))⟩])
    (.block 0
      (.loop
        (.seq (.region none [
          ⟨(some 10), none, (.op (.arith .lss (.tmp 9) (.tmp 8)))⟩])
        (.seq (.cond (.tmp 10)
          .skip
          (.exit 0))
        (.seq (.block 1
          (.seq (.region none [
            ⟨(some 11), none, (.op (.index 4 (.tmp 7) (.tmp 9)))⟩,
            ⟨(some 12), none, (.op (.load 4 true (.tmp 11)))⟩,
            ⟨(some 6), none, (.op (.alloc true [.lit (.int .i64 0), .lit (.int .i64 0), .lit (.int .i64 0), .nil 5]))⟩,
            ⟨none, none, (.op (.store 4 (.tmp 6) (.tmp 12)))⟩])
          (.seq (.region none [
            ⟨(some 13), none, (.op (.field 3 1 false (.tmp 6)))⟩,
            ⟨(some 14), none, (.op (.load 1 false (.tmp 13)))⟩,
            ⟨(some 15), none, (.call (.dat (.fn (.func 11) [] [])) [(.tmp 14)])⟩,
            ⟨(some 16), none, (.op (.not (.tmp 15)))⟩,
            ⟨(some 17), none, (.op (.mov (.tmp 16)))⟩,
            ⟨(some 18), (some (17, false)), (.op (.field 3 1 false (.tmp 6)))⟩,
            ⟨(some 19), (some (17, false)), (.op (.load 1 false (.tmp 18)))⟩,
            ⟨(some 20), (some (17, false)), (.op (.len (.tmp 19)))⟩,
            ⟨(some 21), (some (17, false)), (.op (.arith .gtr (.tmp 20) (.dat (.lit (.int .i64 100)))))⟩,
            ⟨(some 22), none, (.op (.pick (.tmp 17) (.dat (.lit (.bool true))) (.tmp 21)))⟩])
          (.cond (.tmp 22)
            (.seq (.region none [
              ⟨(some 4), none, (.op (.mov (.dat (.lit (.bool false)))))⟩])
            .ret)
            .skip))))
        (.region none [
          ⟨(some 23), none, (.op (.arith .add (.tmp 9) (.dat (.lit (.int .i64 1)))))⟩,
          ⟨(some 9), none, (.op (.mov (.tmp 23)))⟩])))))))
    (.seq (.region none [
      ⟨(some 24), none, (.op (.field 0 1 false (.tmp 2)))⟩,
      ⟨(some 25), none, (.op (.load 1 false (.tmp 24)))⟩,
      ⟨(some 26), none, (.op (.len (.tmp 25)))⟩,
      ⟨(some 27), none, (.op (.arith .leq (.tmp 26) (.dat (.lit (.int .i64 100)))))⟩,
      ⟨(some 28), none, (.op (.mov (.tmp 27)))⟩,
      ⟨(some 29), (some (28, true)), (.op (.field 0 1 false (.tmp 2)))⟩,
      ⟨(some 30), (some (28, true)), (.op (.load 1 false (.tmp 29)))⟩,
      ⟨(some 31), (some (28, true)), (.call (.dat (.fn (.func 11) [] [])) [(.tmp 30)])⟩,
      ⟨(some 32), none, (.op (.pick (.tmp 28) (.tmp 31) (.dat (.lit (.bool false)))))⟩,
      ⟨(some 33), none, (.op (.mov (.tmp 32)))⟩,
      ⟨(some 34), (some (33, true)), (.op (.mov (.tmp 1)))⟩,
      ⟨(some 35), (some (33, true)), (.op (.len (.tmp 34)))⟩,
      ⟨(some 36), (some (33, true)), (.op (.arith .leq (.tmp 35) (.dat (.lit (.int .i64 20)))))⟩,
      ⟨(some 37), none, (.op (.pick (.tmp 33) (.tmp 36) (.dat (.lit (.bool false)))))⟩,
      ⟨(some 4), none, (.op (.mov (.tmp 37)))⟩])
    .ret)))
  res := [.tmp 4]
theorem c18 : CmpF Tryd.prog 18 a18 := chkF_cmp (F := Tryd.f18) (by kernel_rfl) mixed (by kernel_rfl)
/-- hansard/hansardref17.SameWords -/
def a19 : AF where
  nt := 27
  body := (.seq (.region none [
      ⟨(some 4), none, (.op (.mov (.dat (.lit (.bool false)))))⟩])
    (.seq (.seq (.region none [
      ⟨(some 6), none, (.op (.mov (.tmp 0)))⟩,
      ⟨(some 7), none, (.op (.len (.tmp 6)))⟩,
      ⟨(some 8), none, (.op (.mov (.tmp 1)))⟩,
      ⟨(some 9), none, (.op (.len (.tmp 8)))⟩,
      ⟨(some 10), none, (.op (.arith .neq (.tmp 7) (.tmp 9)))⟩])
    (.cond (.tmp 10)
      (.seq (.region none [
        ⟨(some 4), none, (.op (.mov (.dat (.lit (.bool false)))))⟩])
      .ret)
      .skip))
    (.seq (.seq (.region none [
      ⟨(some 5), none, (.op (.mov (.dat (.lit (.int .i64 0)))))⟩])
    (.block 0
      (.loop
        (.seq (.seq (.region none [
          ⟨(some 11), none, (.op (.mov (.tmp 5)))⟩,
          ⟨(some 12), none, (.op (.mov (.tmp 0)))⟩,
          ⟨(some 13), none, (.op (.len (.tmp 12)))⟩,
          ⟨(some 14), none, (.op (.arith .lss (.tmp 11) (.tmp 13)))⟩])
        (.cond (.tmp 14)
          .skip
          (.exit 0)))
        (.seq (.block 1
          (.seq (.region (some [[], [], [0, 1], [0, 1, 2], [], [], [4, 5], [4, 5, 6], [0, 1, 2, 3, 4, 5, 6, 7], [0, 1, 2, 3, 4, 5, 6, 7, 8]]) [
            ⟨(some 17), none, (.op (.mov (.tmp 0)))⟩,
            ⟨(some 18), none, (.op (.mov (.tmp 5)))⟩,
            ⟨(some 19), none, (.op (.index 5 (.tmp 17) (.tmp 18)))⟩,
            ⟨(some 20), none, (.op (.load 5 true (.tmp 19)))⟩,
            ⟨(some 21), none, (.op (.mov (.tmp 1)))⟩,
            ⟨(some 22), none, (.op (.mov (.tmp 5)))⟩,
            ⟨(some 23), none, (.op (.index 5 (.tmp 21) (.tmp 22)))⟩,
            ⟨(some 24), none, (.op (.load 5 true (.tmp 23)))⟩,
            ⟨(some 25), none, (.call (.dat (.fn (.func 29) [] [])) [(.tmp 20), (.tmp 24)])⟩,
            ⟨(some 26), none, (.op (.not (.tmp 25)))⟩])
          (.cond (.tmp 26)
            (.seq (.region none [
              ⟨(some 4), none, (.op (.mov (.dat (.lit (.bool false)))))⟩])
            .ret)
            .skip)))
        (.region none [
          ⟨(some 15), none, (.op (.mov (.tmp 5)))⟩,
          ⟨(some 16), none, (.op (.arith .add (.tmp 15) (.dat (.lit (.int .i64 1)))))⟩,
          ⟨(some 5), none, (.op (.mov (.tmp 16)))⟩]))))))
    (.seq (.region none [
      ⟨(some 4), none, (.op (.mov (.dat (.lit (.bool true)))))⟩])
    .ret))))
  res := [.tmp 4]
theorem c19 : CmpF Tryd.prog 19 a19 := chkF_cmp (F := Tryd.f19) (by kernel_rfl) mixed (by kernel_rfl)
/-- hansard/hansardlaw17.word -/
def a20 : AF where
  nt := 13
  body := (.seq (.region none [
      ⟨(some 6), none, (.op (.alloc true [.lit (.string ⟨#[]⟩), .lit (.int .i64 0), .lit (.int .i64 0), .lit (.int .i64 0), .nil 1]))⟩])
    (.seq (.region none [
      ⟨(some 7), none, (.op (.mov (.tmp 0)))⟩,
      ⟨(some 8), none, (.op (.mov (.tmp 1)))⟩,
      ⟨(some 9), none, (.op (.mov (.tmp 1)))⟩,
      ⟨(some 10), none, (.op (.arith .add (.tmp 9) (.dat (.lit (.int .i64 5)))))⟩,
      ⟨(some 11), none, (.op (.mov (.tmp 2)))⟩,
      ⟨(some 12), none, (.op (.build [.lit (.string ⟨#[]⟩), .lit (.int .i64 0), .lit (.int .i64 0), .lit (.int .i64 0), .nil 1] [(0, 1, (.tmp 7)), (1, 1, (.tmp 8)), (2, 1, (.tmp 10)), (3, 1, (.dat (.lit (.int .i64 1)))), (4, 1, (.tmp 11))]))⟩,
      ⟨none, none, (.op (.store 5 (.tmp 6) (.tmp 12)))⟩])
    .ret))
  res := [.cell 6 5 true]
theorem c20 : CmpF Tryd.prog 20 a20 := chkF_cmp (F := Tryd.f20) (by kernel_rfl) mixed (by kernel_rfl)
/-- hansard/hansardlaw17.of -/
def a21 : AF where
  nt := 8
  body := (.seq (.region none [
      ⟨(some 4), none, (.op (.alloc true [.nil 5, .lit (.int .i64 0)]))⟩])
    (.seq (.region none [
      ⟨(some 5), none, (.op (.mov (.tmp 1)))⟩,
      ⟨(some 6), none, (.op (.mov (.tmp 0)))⟩,
      ⟨(some 7), none, (.op (.build [.nil 5, .lit (.int .i64 0)] [(0, 1, (.tmp 5)), (1, 1, (.tmp 6))]))⟩,
      ⟨none, none, (.op (.store 2 (.tmp 4) (.tmp 7)))⟩])
    .ret))
  res := [.cell 4 2 true]
theorem c21 : CmpF Tryd.prog 21 a21 := chkF_cmp (F := Tryd.f21) (by kernel_rfl) mixed (by kernel_rfl)
/-- hansard/stream.caught -/
def a22 : AR where
  nt := 19
  ta := 5
  tb := 2
  rest := (.seq (.region none [
      ⟨(some 6), none, (.op (.mov (.tmp 2)))⟩,
      ⟨(some 7), none, (.op (.ext (.isNil true) [(.tmp 6)]))⟩])
    (.cond (.tmp 7)
      (.seq (.region none [
        ⟨(some 9), none, (.op (.mov (.tmp 2)))⟩,
        ⟨(some 10), none, (.op (.ext (.tassert 27 (.lit (.int .i64 0))) [(.tmp 9)]))⟩,
        ⟨(some 8), none, (.op (.mov (.tmp 10)))⟩,
        ⟨(some 11), none, (.op (.extract (.tmp 8) 0))⟩,
        ⟨(some 12), none, (.op (.extract (.tmp 8) 1))⟩,
        ⟨(some 3), none, (.op (.mov (.tmp 11)))⟩,
        ⟨(some 4), none, (.op (.mov (.tmp 12)))⟩])
      (.seq (.seq (.region none [
        ⟨(some 13), none, (.op (.mov (.tmp 4)))⟩,
        ⟨(some 14), none, (.op (.not (.tmp 13)))⟩])
      (.cond (.tmp 14)
        (.sregion [
          ⟨(some 15), none, (.op (.mov (.tmp 2)))⟩,
          ⟨none, none, (.panic (.tmp 15))⟩])
        .skip))
      (.region none [
        ⟨(some 16), none, (.op (.mov (.tmp 0)))⟩,
        ⟨(some 17), none, (.op (.mov (.tmp 3)))⟩,
        ⟨(some 18), none, (.op (.ext .nilChk [(.tmp 16)]))⟩,
        ⟨none, none, (.op (.store 1 (.tmp 18) (.tmp 17)))⟩])))
      .skip))
  res := []
theorem c22 : CmpRF Tryd.prog 22 a22 := chkRF_cmp (F := Tryd.f22) (by kernel_rfl) mixed (by kernel_rfl)
/-- hansard/stream.check -/
def a23 : AF where
  nt := 41
  body := (.seq (.region none [
      ⟨(some 1), none, (.op (.box true (.tmp 0)))⟩])
    (.seq (.region none [
      ⟨(some 5), none, (.op (.field 0 1 false (.tmp 1)))⟩,
      ⟨(some 6), none, (.op (.load 1 false (.tmp 5)))⟩,
      ⟨(some 7), none, (.op (.len (.tmp 6)))⟩,
      ⟨(some 8), none, (.op (.arith .leq (.tmp 7) (.dat (.lit (.int .i64 4096)))))⟩,
      ⟨(some 9), none, (.call (.dat (.fn (.func 27) [] [])) [(.tmp 8), (.dat (.lit (.int .i64 2)))])⟩])
    (.seq (.region none [
      ⟨(some 10), none, (.op (.field 1 1 false (.tmp 1)))⟩,
      ⟨(some 11), none, (.op (.load 1 false (.tmp 10)))⟩,
      ⟨(some 12), none, (.op (.arith .geq (.tmp 11) (.dat (.lit (.int .i64 0)))))⟩,
      ⟨(some 13), none, (.op (.mov (.tmp 12)))⟩,
      ⟨(some 14), (some (13, true)), (.op (.field 1 1 false (.tmp 1)))⟩,
      ⟨(some 15), (some (13, true)), (.op (.load 1 false (.tmp 14)))⟩,
      ⟨(some 16), (some (13, true)), (.op (.field 0 1 false (.tmp 1)))⟩,
      ⟨(some 17), (some (13, true)), (.op (.load 1 false (.tmp 16)))⟩,
      ⟨(some 18), (some (13, true)), (.op (.len (.tmp 17)))⟩,
      ⟨(some 19), (some (13, true)), (.op (.arith .leq (.tmp 15) (.tmp 18)))⟩,
      ⟨(some 20), none, (.op (.pick (.tmp 13) (.tmp 19) (.dat (.lit (.bool false)))))⟩,
      ⟨(some 21), none, (.call (.dat (.fn (.func 27) [] [])) [(.tmp 20), (.dat (.lit (.int .i64 170)))])⟩])
    (.seq (.region none [
      ⟨(some 2), none, (.op (.mov (.dat (.lit (.int .i64 0)))))⟩])
    (.seq (.region none [
      ⟨(some 22), none, (.op (.field 0 1 false (.tmp 1)))⟩,
      ⟨(some 23), none, (.op (.load 1 false (.tmp 22)))⟩,
      ⟨(some 24), none, (.op (.len (.tmp 23)))⟩,
      ⟨(some 25), none, (.op (.mov (.dat (.lit (.int .i64 0)))))⟩])
    (.block 0
      (.loop
        (.seq (.region none [
          ⟨(some 26), none, (.op (.arith .lss (.tmp 25) (.tmp 24)))⟩])
        (.seq (.cond (.tmp 26)
          .skip
          (.exit 0))
        (.seq (.block 1
          (.seq (.region none [
            ⟨(some 27), none, (.op (.index 5 (.tmp 23) (.tmp 25)))⟩,
            ⟨(some 28), none, (.op (.load 5 true (.tmp 27)))⟩,
            ⟨(some 4), none, (.op (.alloc true [.lit (.string ⟨#[]⟩), .lit (.int .i64 0), .lit (.int .i64 0), .lit (.int .i64 0), .nil 1]))⟩,
            ⟨none, none, (.op (.store 5 (.tmp 4) (.tmp 28)))⟩])
          (.seq (.region none [
            ⟨(some 29), none, (.op (.load 5 true (.tmp 4)))⟩,
            ⟨(some 30), none, (.call (.dat (.fn (.func 30) [] [])) [(.tmp 29)])⟩,
            ⟨(some 31), none, (.op (.mov (.tmp 30)))⟩,
            ⟨(some 32), (some (31, true)), (.op (.field 1 1 false (.tmp 4)))⟩,
            ⟨(some 33), (some (31, true)), (.op (.load 1 false (.tmp 32)))⟩,
            ⟨(some 34), (some (31, true)), (.op (.mov (.tmp 2)))⟩,
            ⟨(some 35), (some (31, true)), (.op (.arith .geq (.tmp 33) (.tmp 34)))⟩,
            ⟨(some 36), none, (.op (.pick (.tmp 31) (.tmp 35) (.dat (.lit (.bool false)))))⟩,
            ⟨(some 37), none, (.call (.dat (.fn (.func 27) [] [])) [(.tmp 36), (.dat (.lit (.int .i64 170)))])⟩])
          (.region none [
            ⟨(some 38), none, (.op (.field 1 1 false (.tmp 4)))⟩,
            ⟨(some 39), none, (.op (.load 1 false (.tmp 38)))⟩,
            ⟨(some 2), none, (.op (.mov (.tmp 39)))⟩]))))
        (.region none [
          ⟨(some 40), none, (.op (.arith .add (.tmp 25) (.dat (.lit (.int .i64 1)))))⟩,
          ⟨(some 25), none, (.op (.mov (.tmp 40)))⟩])))))))))))
  res := []
theorem c23 : CmpF Tryd.prog 23 a23 := chkF_cmp (F := Tryd.f23) (by kernel_rfl) mixed (by kernel_rfl)
/-- hansard/hansardref17.Words -/
def a24 : AF where
  nt := 34
  body := (.seq (.region none [
      ⟨(some 2), none, (.op (.mov (.dat (.lit (.bool false)))))⟩])
    (.seq (.seq (.region none [
      ⟨(some 3), none, (.op (.mov (.dat (.lit (.int .i64 0)))))⟩])
    (.block 0
      (.loop
        (.seq (.seq (.region none [
          ⟨(some 4), none, (.op (.mov (.tmp 3)))⟩,
          ⟨(some 5), none, (.op (.mov (.tmp 0)))⟩,
          ⟨(some 6), none, (.op (.len (.tmp 5)))⟩,
          ⟨(some 7), none, (.op (.arith .lss (.tmp 4) (.tmp 6)))⟩])
        (.cond (.tmp 7)
          .skip
          (.exit 0)))
        (.seq (.block 1
          (.seq (.region (some [[], [], [0, 1], [0, 1, 2], [0, 1, 2, 3], [0, 1, 2, 3, 4], [0, 1, 2, 3, 4, 5], [0, 1, 2, 3, 4, 5, 6], [0, 1, 2, 3, 4, 5, 6, 7], [0, 1, 2, 3, 4, 5, 6, 7, 8], [0, 1, 2, 3, 4, 5, 6, 7, 8, 9], [0, 1, 2, 3, 4, 5, 6, 7, 8, 9], [0, 1, 2, 3, 4, 5, 6, 7, 8, 9, 10, 11], [0, 1, 2, 3, 4, 5, 6, 7, 8, 9, 10, 11, 12], [0, 1, 2, 3, 4, 5, 6, 7, 8, 9, 10, 11, 12, 13], [0, 1, 2, 3, 4, 5, 6, 7, 8, 9], [0, 1, 2, 3, 4, 5, 6, 7, 8, 9], [0, 1, 2, 3, 4, 5, 6, 7, 8, 9, 16], [0, 1, 2, 3, 4, 5, 6, 7, 8, 9, 15, 16, 17], [0, 1, 2, 3, 4, 5, 6, 7, 8, 9, 15, 16, 17, 18], [0, 1, 2, 3, 4, 5, 6, 7, 8, 9, 15, 16, 17, 18, 19], [0, 1, 2, 3, 4, 5, 6, 7, 8, 9, 10, 11, 12, 13, 14, 15, 16, 17, 18, 19, 20], [0, 1, 2, 3, 4, 5, 6, 7, 8, 9, 10, 11, 12, 13, 14, 15, 16, 17, 18, 19, 20, 21], [0, 1, 2, 3, 4, 5, 6, 7, 8, 9, 10, 11, 12, 13, 14, 15, 16, 17, 18, 19, 20, 21, 22]]) [
            ⟨(some 10), none, (.op (.mov (.tmp 0)))⟩,
            ⟨(some 11), none, (.op (.mov (.tmp 3)))⟩,
            ⟨(some 12), none, (.op (.index 5 (.tmp 10) (.tmp 11)))⟩,
            ⟨(some 13), none, (.op (.load 5 true (.tmp 12)))⟩,
            ⟨(some 14), none, (.call (.dat (.fn (.func 31) [] [])) [(.tmp 13)])⟩,
            ⟨(some 15), none, (.op (.not (.tmp 14)))⟩,
            ⟨(some 16), none, (.op (.mov (.tmp 15)))⟩,
            ⟨(some 17), (some (16, false)), (.op (.mov (.tmp 3)))⟩,
            ⟨(some 18), (some (16, false)), (.op (.arith .gtr (.tmp 17) (.dat (.lit (.int .i64 0)))))⟩,
            ⟨(some 19), (some (16, false)), (.op (.mov (.tmp 18)))⟩,
            ⟨(some 20), (some (19, true)), (.op (.mov (.tmp 0)))⟩,
            ⟨(some 21), (some (19, true)), (.op (.mov (.tmp 3)))⟩,
            ⟨(some 22), (some (19, true)), (.op (.index 5 (.tmp 20) (.tmp 21)))⟩,
            ⟨(some 23), (some (19, true)), (.op (.field 1 1 false (.tmp 22)))⟩,
            ⟨(some 24), (some (19, true)), (.op (.load 1 false (.tmp 23)))⟩,
            ⟨(some 25), (some (19, true)), (.op (.mov (.tmp 0)))⟩,
            ⟨(some 26), (some (19, true)), (.op (.mov (.tmp 3)))⟩,
            ⟨(some 27), (some (19, true)), (.op (.arith .sub (.tmp 26) (.dat (.lit (.int .i64 1)))))⟩,
            ⟨(some 28), (some (19, true)), (.op (.index 5 (.tmp 25) (.tmp 27)))⟩,
            ⟨(some 29), (some (19, true)), (.op (.field 1 1 false (.tmp 28)))⟩,
            ⟨(some 30), (some (19, true)), (.op (.load 1 false (.tmp 29)))⟩,
            ⟨(some 31), (some (19, true)), (.op (.arith .lss (.tmp 24) (.tmp 30)))⟩,
            ⟨(some 32), (some (16, false)), (.op (.pick (.tmp 19) (.tmp 31) (.dat (.lit (.bool false)))))⟩,
            ⟨(some 33), none, (.op (.pick (.tmp 16) (.dat (.lit (.bool true))) (.tmp 32)))⟩])
          (.cond (.tmp 33)
            (.seq (.region none [
              ⟨(some 2), none, (.op (.mov (.dat (.lit (.bool false)))))⟩])
            .ret)
            .skip)))
        (.region none [
          ⟨(some 8), none, (.op (.mov (.tmp 3)))⟩,
          ⟨(some 9), none, (.op (.arith .add (.tmp 8) (.dat (.lit (.int .i64 1)))))⟩,
          ⟨(some 3), none, (.op (.mov (.tmp 9)))⟩]))))))
    (.seq (.region none [
      ⟨(some 2), none, (.op (.mov (.dat (.lit (.bool true)))))⟩])
    .ret)))
  res := [.tmp 2]
theorem c24 : CmpF Tryd.prog 24 a24 := chkF_cmp (F := Tryd.f24) (by kernel_rfl) mixed (by kernel_rfl)
/-- hansard/stream.Do$1 -/
def a25 : AF where
  nt := 5
  body := (.seq (.region none [
      ⟨(some 2), none, (.op (.load 1 false (.tmp 0)))⟩,
      ⟨(some 3), none, (.op (.arith .neq (.tmp 2) (.dat (.lit (.int .i64 0)))))⟩])
    (.cond (.tmp 3)
      (.region none [
        ⟨(some 4), none, (.op (.build [.nil 5, .lit (.int .i64 0)] []))⟩,
        ⟨none, none, (.op (.store 2 (.tmp 1) (.tmp 4)))⟩])
      .skip))
  res := []
theorem c25 : CmpF Tryd.prog 25 a25 := chkF_cmp (F := Tryd.f25) (by kernel_rfl) mixed (by kernel_rfl)
/-- hansard/stream.kinds -/
def a26 : AF where
  nt := 6
  body := (.seq (.region none [
      ⟨(some 0), none, (.op (.mov (.dat (.lit (.map none)))))⟩])
    (.seq (.region none [
      ⟨(some 1), none, (.op (.ext .mkmap []))⟩,
      ⟨(some 2), none, (.op (.build [.lit (.nilFunc), .lit (.nilFunc)] [(0, 1, (.dat (.fn (.func 32) [] []))), (1, 1, (.dat (.fn (.func 33) [] [])))]))⟩,
      ⟨none, none, (.op (.ext (.insert (.int .i64)) [(.tmp 1), (.dat (.lit (.int .i64 1))), (.tmp 2)]))⟩,
      ⟨(some 3), none, (.op (.build [.lit (.nilFunc), .lit (.nilFunc)] [(0, 1, (.dat (.fn (.func 35) [] []))), (1, 1, (.dat (.fn (.func 38) [] [])))]))⟩,
      ⟨none, none, (.op (.ext (.insert (.int .i64)) [(.tmp 1), (.dat (.lit (.int .i64 2))), (.tmp 3)]))⟩,
      ⟨(some 4), none, (.op (.build [.lit (.nilFunc), .lit (.nilFunc)] [(0, 1, (.dat (.fn (.func 39) [] []))), (1, 1, (.dat (.fn (.func 40) [] [])))]))⟩,
      ⟨none, none, (.op (.ext (.insert (.int .i64)) [(.tmp 1), (.dat (.lit (.int .i64 3))), (.tmp 4)]))⟩,
      ⟨(some 5), none, (.op (.mov (.tmp 1)))⟩,
      ⟨(some 0), none, (.op (.mov (.tmp 5)))⟩])
    .ret))
  res := [.tmp 0]
theorem c26 : CmpF Tryd.prog 26 a26 := chkF_cmp (F := Tryd.f26) (by kernel_rfl) mixed (by kernel_rfl)
/-- hansard/stream.need -/
def a27 : AF where
  nt := 8
  body := (.seq (.region none [
      ⟨(some 4), none, (.op (.mov (.tmp 0)))⟩,
      ⟨(some 5), none, (.op (.not (.tmp 4)))⟩])
    (.cond (.tmp 5)
      (.sregion [
        ⟨(some 6), none, (.op (.mov (.tmp 1)))⟩,
        ⟨(some 7), none, (.op (.ifc 27 (.tmp 6)))⟩,
        ⟨none, none, (.panic (.tmp 7))⟩])
      .skip))
  res := []
theorem c27 : CmpF Tryd.prog 27 a27 := chkF_cmp (F := Tryd.f27) (by kernel_rfl) mixed (by kernel_rfl)
/-- hansard/hansardref17.Allowed -/
def a28 : AF where
  nt := 109
  body := (.seq (.region none [
      ⟨(some 2), none, (.op (.box true (.tmp 0)))⟩,
      ⟨(some 3), none, (.op (.box true (.tmp 1)))⟩,
      ⟨(some 4), none, (.op (.mov (.dat (.lit (.bool false)))))⟩])
    (.seq (.region none [
      ⟨(some 6), none, (.op (.field 0 1 false (.tmp 2)))⟩,
      ⟨(some 7), none, (.op (.load 1 false (.tmp 6)))⟩,
      ⟨(some 8), none, (.op (.len (.tmp 7)))⟩,
      ⟨(some 5), none, (.op (.mov (.tmp 8)))⟩])
    (.seq (.seq (.region none [
      ⟨(some 9), none, (.op (.field 0 1 false (.tmp 3)))⟩,
      ⟨(some 10), none, (.op (.load 1 false (.tmp 9)))⟩])
    (.block 0
      (.seq (.region none [
        ⟨(some 12), none, (.op (.arith .eql (.tmp 10) (.dat (.lit (.int .i64 1)))))⟩,
        ⟨(some 11), none, (.op (.mov (.tmp 12)))⟩])
      (.cond (.tmp 11)
        (.seq (.region none [
          ⟨(some 13), none, (.op (.field 1 1 false (.tmp 3)))⟩,
          ⟨(some 14), none, (.op (.load 1 false (.tmp 13)))⟩,
          ⟨(some 15), none, (.op (.arith .eql (.tmp 14) (.dat (.lit (.int .i64 0)))))⟩,
          ⟨(some 16), none, (.op (.mov (.tmp 15)))⟩,
          ⟨(some 17), (some (16, true)), (.op (.field 2 1 false (.tmp 3)))⟩,
          ⟨(some 18), (some (16, true)), (.op (.load 1 false (.tmp 17)))⟩,
          ⟨(some 19), (some (16, true)), (.op (.arith .eql (.tmp 18) (.dat (.lit (.int .i64 0)))))⟩,
          ⟨(some 20), none, (.op (.pick (.tmp 16) (.tmp 19) (.dat (.lit (.bool false)))))⟩,
          ⟨(some 21), none, (.op (.mov (.tmp 20)))⟩,
          ⟨(some 22), (some (21, true)), (.op (.field 3 1 false (.tmp 3)))⟩,
          ⟨(some 23), (some (21, true)), (.op (.load 1 false (.tmp 22)))⟩,
          ⟨(some 24), (some (21, true)), (.op (.len (.tmp 23)))⟩,
          ⟨(some 25), (some (21, true)), (.op (.arith .geq (.tmp 24) (.dat (.lit (.int .i64 1)))))⟩,
          ⟨(some 26), none, (.op (.pick (.tmp 21) (.tmp 25) (.dat (.lit (.bool false)))))⟩,
          ⟨(some 27), none, (.op (.mov (.tmp 26)))⟩,
          ⟨(some 28), (some (27, true)), (.op (.field 3 1 false (.tmp 3)))⟩,
          ⟨(some 29), (some (27, true)), (.op (.load 1 false (.tmp 28)))⟩,
          ⟨(some 30), (some (27, true)), (.op (.len (.tmp 29)))⟩,
          ⟨(some 31), (some (27, true)), (.op (.arith .leq (.tmp 30) (.dat (.lit (.int .i64 64)))))⟩,
          ⟨(some 32), none, (.op (.pick (.tmp 27) (.tmp 31) (.dat (.lit (.bool false)))))⟩,
          ⟨(some 4), none, (.op (.mov (.tmp 32)))⟩])
        .ret)
        (.seq (.region none [
          ⟨(some 34), none, (.op (.arith .eql (.tmp 10) (.dat (.lit (.int .i64 2)))))⟩,
          ⟨(some 33), none, (.op (.mov (.tmp 34)))⟩])
        (.cond (.tmp 33)
          (.seq (.seq (.region none [
            ⟨(some 35), none, (.op (.field 1 1 false (.tmp 3)))⟩,
            ⟨(some 36), none, (.op (.load 1 false (.tmp 35)))⟩,
            ⟨(some 37), none, (.op (.field 1 1 false (.tmp 2)))⟩,
            ⟨(some 38), none, (.op (.load 1 false (.tmp 37)))⟩,
            ⟨(some 39), none, (.op (.arith .lss (.tmp 36) (.tmp 38)))⟩,
            ⟨(some 40), none, (.op (.mov (.tmp 39)))⟩,
            ⟨(some 41), (some (40, false)), (.op (.field 1 1 false (.tmp 3)))⟩,
            ⟨(some 42), (some (40, false)), (.op (.load 1 false (.tmp 41)))⟩,
            ⟨(some 43), (some (40, false)), (.op (.mov (.tmp 5)))⟩,
            ⟨(some 44), (some (40, false)), (.op (.arith .gtr (.tmp 42) (.tmp 43)))⟩,
            ⟨(some 45), none, (.op (.pick (.tmp 40) (.dat (.lit (.bool true))) (.tmp 44)))⟩,
            ⟨(some 46), none, (.op (.mov (.tmp 45)))⟩,
            ⟨(some 47), (some (46, false)), (.op (.field 2 1 false (.tmp 3)))⟩,
            ⟨(some 48), (some (46, false)), (.op (.load 1 false (.tmp 47)))⟩,
            ⟨(some 49), (some (46, false)), (.op (.arith .lss (.tmp 48) (.dat (.lit (.int .i64 1)))))⟩,
            ⟨(some 50), none, (.op (.pick (.tmp 46) (.dat (.lit (.bool true))) (.tmp 49)))⟩,
            ⟨(some 51), none, (.op (.mov (.tmp 50)))⟩,
            ⟨(some 52), (some (51, false)), (.op (.field 2 1 false (.tmp 3)))⟩,
            ⟨(some 53), (some (51, false)), (.op (.load 1 false (.tmp 52)))⟩,
            ⟨(some 54), (some (51, false)), (.op (.arith .gtr (.tmp 53) (.dat (.lit (.int .i64 64)))))⟩,
            ⟨(some 55), none, (.op (.pick (.tmp 51) (.dat (.lit (.bool true))) (.tmp 54)))⟩,
            ⟨(some 56), none, (.op (.mov (.tmp 55)))⟩,
            ⟨(some 57), (some (56, false)), (.op (.field 1 1 false (.tmp 3)))⟩,
            ⟨(some 58), (some (56, false)), (.op (.load 1 false (.tmp 57)))⟩,
            ⟨(some 59), (some (56, false)), (.op (.field 2 1 false (.tmp 3)))⟩,
            ⟨(some 60), (some (56, false)), (.op (.load 1 false (.tmp 59)))⟩,
            ⟨(some 61), (some (56, false)), (.op (.arith .add (.tmp 58) (.tmp 60)))⟩,
            ⟨(some 62), (some (56, false)), (.op (.mov (.tmp 5)))⟩,
            ⟨(some 63), (some (56, false)), (.op (.arith .gtr (.tmp 61) (.tmp 62)))⟩,
            ⟨(some 64), none, (.op (.pick (.tmp 56) (.dat (.lit (.bool true))) (.tmp 63)))⟩,
            ⟨(some 65), none, (.op (.mov (.tmp 64)))⟩,
            ⟨(some 66), (some (65, false)), (.op (.field 3 1 false (.tmp 3)))⟩,
            ⟨(some 67), (some (65, false)), (.op (.load 1 false (.tmp 66)))⟩,
            ⟨(some 68), (some (65, false)), (.op (.len (.tmp 67)))⟩,
            ⟨(some 69), (some (65, false)), (.op (.arith .gtr (.tmp 68) (.dat (.lit (.int .i64 64)))))⟩,
            ⟨(some 70), none, (.op (.pick (.tmp 65) (.dat (.lit (.bool true))) (.tmp 69)))⟩])
          (.cond (.tmp 70)
            (.seq (.region none [
              ⟨(some 4), none, (.op (.mov (.dat (.lit (.bool false)))))⟩])
            .ret)
            .skip))
          (.seq (.region (some [[], [0], [], [2], [], [4], [], [6], [], [8], [6, 7, 8, 9], [2, 3, 4, 5, 6, 7, 8, 9, 10], [0, 1, 2, 3, 4, 5, 6, 7, 8, 9, 10, 11], [0, 1, 2, 3, 4, 5, 6, 7, 8, 9, 10, 11, 12], [0, 1, 2, 3, 4, 5, 6, 7, 8, 9, 10, 11, 12, 13]]) [
            ⟨(some 71), none, (.op (.field 3 1 false (.tmp 3)))⟩,
            ⟨(some 72), none, (.op (.load 1 false (.tmp 71)))⟩,
            ⟨(some 73), none, (.op (.field 0 1 false (.tmp 2)))⟩,
            ⟨(some 74), none, (.op (.load 1 false (.tmp 73)))⟩,
            ⟨(some 75), none, (.op (.field 1 1 false (.tmp 3)))⟩,
            ⟨(some 76), none, (.op (.load 1 false (.tmp 75)))⟩,
            ⟨(some 77), none, (.op (.field 1 1 false (.tmp 3)))⟩,
            ⟨(some 78), none, (.op (.load 1 false (.tmp 77)))⟩,
            ⟨(some 79), none, (.op (.field 2 1 false (.tmp 3)))⟩,
            ⟨(some 80), none, (.op (.load 1 false (.tmp 79)))⟩,
            ⟨(some 81), none, (.op (.arith .add (.tmp 78) (.tmp 80)))⟩,
            ⟨(some 82), none, (.op (.slice 5 (.tmp 74) (some (.tmp 76)) (some (.tmp 81))))⟩,
            ⟨(some 83), none, (.call (.dat (.fn (.func 19) [] [])) [(.tmp 72), (.tmp 82)])⟩,
            ⟨(some 84), none, (.op (.not (.tmp 83)))⟩,
            ⟨(some 4), none, (.op (.mov (.tmp 84)))⟩])
          .ret))
          (.seq (.region none [
            ⟨(some 86), none, (.op (.arith .eql (.tmp 10) (.dat (.lit (.int .i64 3)))))⟩,
            ⟨(some 85), none, (.op (.mov (.tmp 86)))⟩])
          (.cond (.tmp 85)
            (.seq (.region none [
              ⟨(some 87), none, (.op (.field 1 1 false (.tmp 3)))⟩,
              ⟨(some 88), none, (.op (.load 1 false (.tmp 87)))⟩,
              ⟨(some 89), none, (.op (.field 1 1 false (.tmp 2)))⟩,
              ⟨(some 90), none, (.op (.load 1 false (.tmp 89)))⟩,
              ⟨(some 91), none, (.op (.arith .geq (.tmp 88) (.tmp 90)))⟩,
              ⟨(some 92), none, (.op (.mov (.tmp 91)))⟩,
              ⟨(some 93), (some (92, true)), (.op (.field 1 1 false (.tmp 3)))⟩,
              ⟨(some 94), (some (92, true)), (.op (.load 1 false (.tmp 93)))⟩,
              ⟨(some 95), (some (92, true)), (.op (.mov (.tmp 5)))⟩,
              ⟨(some 96), (some (92, true)), (.op (.arith .leq (.tmp 94) (.tmp 95)))⟩,
              ⟨(some 97), none, (.op (.pick (.tmp 92) (.tmp 96) (.dat (.lit (.bool false)))))⟩,
              ⟨(some 98), none, (.op (.mov (.tmp 97)))⟩,
              ⟨(some 99), (some (98, true)), (.op (.field 2 1 false (.tmp 3)))⟩,
              ⟨(some 100), (some (98, true)), (.op (.load 1 false (.tmp 99)))⟩,
              ⟨(some 101), (some (98, true)), (.op (.arith .eql (.tmp 100) (.dat (.lit (.int .i64 0)))))⟩,
              ⟨(some 102), none, (.op (.pick (.tmp 98) (.tmp 101) (.dat (.lit (.bool false)))))⟩,
              ⟨(some 103), none, (.op (.mov (.tmp 102)))⟩,
              ⟨(some 104), (some (103, true)), (.op (.field 3 1 false (.tmp 3)))⟩,
              ⟨(some 105), (some (103, true)), (.op (.load 1 false (.tmp 104)))⟩,
              ⟨(some 106), (some (103, true)), (.op (.len (.tmp 105)))⟩,
              ⟨(some 107), (some (103, true)), (.op (.arith .eql (.tmp 106) (.dat (.lit (.int .i64 0)))))⟩,
              ⟨(some 108), none, (.op (.pick (.tmp 103) (.tmp 107) (.dat (.lit (.bool false)))))⟩,
              ⟨(some 4), none, (.op (.mov (.tmp 108)))⟩])
            .ret)
            .skip))))))))
    (.seq (.region none [
      ⟨(some 4), none, (.op (.mov (.dat (.lit (.bool false)))))⟩])
    .ret))))
  res := [.tmp 4]
theorem c28 : CmpF Tryd.prog 28 a28 := chkF_cmp (F := Tryd.f28) (by kernel_rfl) mixed (by kernel_rfl)
/-- hansard/hansardref17.SameWord -/
def a29 : AF where
  nt := 38
  body := (.seq (.region none [
      ⟨(some 2), none, (.op (.box true (.tmp 0)))⟩,
      ⟨(some 3), none, (.op (.box true (.tmp 1)))⟩,
      ⟨(some 4), none, (.op (.mov (.dat (.lit (.bool false)))))⟩])
    (.seq (.region none [
      ⟨(some 5), none, (.op (.field 0 1 false (.tmp 2)))⟩,
      ⟨(some 6), none, (.op (.load 1 false (.tmp 5)))⟩,
      ⟨(some 7), none, (.op (.field 0 1 false (.tmp 3)))⟩,
      ⟨(some 8), none, (.op (.load 1 false (.tmp 7)))⟩,
      ⟨(some 9), none, (.op (.arith .eql (.tmp 6) (.tmp 8)))⟩,
      ⟨(some 10), none, (.op (.mov (.tmp 9)))⟩,
      ⟨(some 11), (some (10, true)), (.op (.field 1 1 false (.tmp 2)))⟩,
      ⟨(some 12), (some (10, true)), (.op (.load 1 false (.tmp 11)))⟩,
      ⟨(some 13), (some (10, true)), (.op (.field 1 1 false (.tmp 3)))⟩,
      ⟨(some 14), (some (10, true)), (.op (.load 1 false (.tmp 13)))⟩,
      ⟨(some 15), (some (10, true)), (.op (.arith .eql (.tmp 12) (.tmp 14)))⟩,
      ⟨(some 16), none, (.op (.pick (.tmp 10) (.tmp 15) (.dat (.lit (.bool false)))))⟩,
      ⟨(some 17), none, (.op (.mov (.tmp 16)))⟩,
      ⟨(some 18), (some (17, true)), (.op (.field 2 1 false (.tmp 2)))⟩,
      ⟨(some 19), (some (17, true)), (.op (.load 1 false (.tmp 18)))⟩,
      ⟨(some 20), (some (17, true)), (.op (.field 2 1 false (.tmp 3)))⟩,
      ⟨(some 21), (some (17, true)), (.op (.load 1 false (.tmp 20)))⟩,
      ⟨(some 22), (some (17, true)), (.op (.arith .eql (.tmp 19) (.tmp 21)))⟩,
      ⟨(some 23), none, (.op (.pick (.tmp 17) (.tmp 22) (.dat (.lit (.bool false)))))⟩,
      ⟨(some 24), none, (.op (.mov (.tmp 23)))⟩,
      ⟨(some 25), (some (24, true)), (.op (.field 3 1 false (.tmp 2)))⟩,
      ⟨(some 26), (some (24, true)), (.op (.load 1 false (.tmp 25)))⟩,
      ⟨(some 27), (some (24, true)), (.op (.field 3 1 false (.tmp 3)))⟩,
      ⟨(some 28), (some (24, true)), (.op (.load 1 false (.tmp 27)))⟩,
      ⟨(some 29), (some (24, true)), (.op (.arith .eql (.tmp 26) (.tmp 28)))⟩,
      ⟨(some 30), none, (.op (.pick (.tmp 24) (.tmp 29) (.dat (.lit (.bool false)))))⟩,
      ⟨(some 31), none, (.op (.mov (.tmp 30)))⟩,
      ⟨(some 32), (some (31, true)), (.op (.field 4 1 false (.tmp 2)))⟩,
      ⟨(some 33), (some (31, true)), (.op (.load 1 false (.tmp 32)))⟩,
      ⟨(some 34), (some (31, true)), (.op (.field 4 1 false (.tmp 3)))⟩,
      ⟨(some 35), (some (31, true)), (.op (.load 1 false (.tmp 34)))⟩,
      ⟨(some 36), (some (31, true)), (.call (.dat (.fn (.func 41) [] [])) [(.tmp 33), (.tmp 35)])⟩,
      ⟨(some 37), none, (.op (.pick (.tmp 31) (.tmp 36) (.dat (.lit (.bool false)))))⟩,
      ⟨(some 4), none, (.op (.mov (.tmp 37)))⟩])
    .ret))
  res := [.tmp 4]
theorem c29 : CmpF Tryd.prog 29 a29 := chkF_cmp (F := Tryd.f29) (by kernel_rfl) mixed (by kernel_rfl)
/-- hansard/stream.right -/
def a30 : AF where
  nt := 54
  body := (.seq (.region none [
      ⟨(some 1), none, (.op (.box true (.tmp 0)))⟩,
      ⟨(some 2), none, (.op (.mov (.dat (.lit (.bool false)))))⟩])
    (.seq (.region none [
      ⟨(some 6), none, (.op (.field 0 1 false (.tmp 1)))⟩,
      ⟨(some 7), none, (.op (.load 1 false (.tmp 6)))⟩,
      ⟨(some 8), none, (.op (.mkslice 1 [(.tmp 7)]))⟩,
      ⟨(some 3), none, (.op (.alloc false [.nil 1]))⟩,
      ⟨none, none, (.op (.store 1 (.tmp 3) (.tmp 8)))⟩])
    (.seq (.region none [
      ⟨(some 9), none, (.op (.func (.func 42) [] [(.tmp 3)]))⟩,
      ⟨(some 4), none, (.op (.mov (.tmp 9)))⟩])
    (.seq (.region none [
      ⟨(some 10), none, (.op (.field 1 1 false (.tmp 1)))⟩,
      ⟨(some 11), none, (.op (.load 1 false (.tmp 10)))⟩,
      ⟨(some 12), none, (.op (.arith .geq (.tmp 11) (.dat (.lit (.int .i64 0)))))⟩,
      ⟨(some 13), none, (.op (.mov (.tmp 12)))⟩,
      ⟨(some 14), (some (13, true)), (.op (.field 1 1 false (.tmp 1)))⟩,
      ⟨(some 15), (some (13, true)), (.op (.load 1 false (.tmp 14)))⟩,
      ⟨(some 16), (some (13, true)), (.op (.field 2 1 false (.tmp 1)))⟩,
      ⟨(some 17), (some (13, true)), (.op (.load 1 false (.tmp 16)))⟩,
      ⟨(some 18), (some (13, true)), (.op (.arith .lss (.tmp 15) (.tmp 17)))⟩,
      ⟨(some 19), none, (.op (.pick (.tmp 13) (.tmp 18) (.dat (.lit (.bool false)))))⟩,
      ⟨(some 20), none, (.op (.mov (.tmp 19)))⟩,
      ⟨(some 21), (some (20, true)), (.op (.field 2 1 false (.tmp 1)))⟩,
      ⟨(some 22), (some (20, true)), (.op (.load 1 false (.tmp 21)))⟩,
      ⟨(some 23), (some (20, true)), (.op (.arith .lss (.tmp 22) (.dat (.lit (.int .i64 1099511627775)))))⟩,
      ⟨(some 24), none, (.op (.pick (.tmp 20) (.tmp 23) (.dat (.lit (.bool false)))))⟩,
      ⟨(some 5), none, (.op (.mov (.tmp 24)))⟩])
    (.seq (.sregion [
      ⟨(some 25), none, (.op (.mov (.tmp 5)))⟩,
      ⟨(some 26), none, (.op (.mov (.tmp 25)))⟩,
      ⟨(some 27), (some (26, true)), (.op (.field 0 1 false (.tmp 1)))⟩,
      ⟨(some 28), (some (26, true)), (.op (.load 1 false (.tmp 27)))⟩,
      ⟨(some 29), (some (26, true)), (.call (.dat (.fn (.func 44) [] [])) [(.tmp 28)])⟩,
      ⟨(some 30), none, (.op (.pick (.tmp 26) (.tmp 29) (.dat (.lit (.bool false)))))⟩,
      ⟨(some 31), none, (.op (.mov (.tmp 30)))⟩,
      ⟨(some 32), (some (31, true)), (.op (.field 3 1 false (.tmp 1)))⟩,
      ⟨(some 33), (some (31, true)), (.op (.load 1 false (.tmp 32)))⟩,
      ⟨(some 34), (some (31, true)), (.op (.arith .geq (.tmp 33) (.dat (.lit (.int .i64 0)))))⟩,
      ⟨(some 35), none, (.op (.pick (.tmp 31) (.tmp 34) (.dat (.lit (.bool false)))))⟩,
      ⟨(some 36), none, (.op (.mov (.tmp 35)))⟩,
      ⟨(some 37), (some (36, true)), (.op (.field 3 1 false (.tmp 1)))⟩,
      ⟨(some 38), (some (36, true)), (.op (.load 1 false (.tmp 37)))⟩,
      ⟨(some 39), (some (36, true)), (.op (.arith .lss (.tmp 38) (.dat (.lit (.int .i64 64)))))⟩,
      ⟨(some 40), none, (.op (.pick (.tmp 36) (.tmp 39) (.dat (.lit (.bool false)))))⟩,
      ⟨(some 41), none, (.op (.mov (.tmp 40)))⟩,
      ⟨(some 42), (some (41, true)), (.op (.field 4 1 false (.tmp 1)))⟩,
      ⟨(some 43), (some (41, true)), (.op (.load 1 false (.tmp 42)))⟩,
      ⟨(some 44), (some (41, true)), (.op (.len (.tmp 43)))⟩,
      ⟨(some 45), (some (41, true)), (.op (.arith .leq (.tmp 44) (.dat (.lit (.int .i64 4)))))⟩,
      ⟨(some 46), none, (.op (.pick (.tmp 41) (.tmp 45) (.dat (.lit (.bool false)))))⟩,
      ⟨(some 47), none, (.op (.mov (.tmp 46)))⟩,
      ⟨(some 48), (some (47, true)), (.op (.field 4 1 false (.tmp 1)))⟩,
      ⟨(some 49), (some (47, true)), (.op (.load 1 false (.tmp 48)))⟩,
      ⟨(some 50), (some (47, true)), (.op (.mov (.tmp 4)))⟩,
      ⟨(some 51), (some (47, true)), (.icall (.dat (.fn (.func 45) [] [])) [(.tmp 49), (.tmp 50)])⟩,
      ⟨(some 52), (some (47, true)), (.op (.not (.tmp 51)))⟩,
      ⟨(some 53), none, (.op (.pick (.tmp 47) (.tmp 52) (.dat (.lit (.bool false)))))⟩,
      ⟨(some 2), none, (.op (.mov (.tmp 53)))⟩])
    .ret)))))
  res := [.tmp 2]
theorem c30 : CmpF Tryd.prog 30 a30 := chkF_cmp (F := Tryd.f30) (by kernel_rfl) mixed (by kernel_rfl)
/-- hansard/hansardref17.Right -/
def a31 : AF where
  nt := 77
  body := (.seq (.region none [
      ⟨(some 1), none, (.op (.box true (.tmp 0)))⟩,
      ⟨(some 2), none, (.op (.mov (.dat (.lit (.bool false)))))⟩])
    (.seq (.seq (.region none [
      ⟨(some 4), none, (.op (.field 0 1 false (.tmp 1)))⟩,
      ⟨(some 5), none, (.op (.load 1 false (.tmp 4)))⟩,
      ⟨(some 6), none, (.call (.dat (.fn (.func 46) [] [])) [(.tmp 5)])⟩,
      ⟨(some 7), none, (.op (.not (.tmp 6)))⟩,
      ⟨(some 8), none, (.op (.mov (.tmp 7)))⟩,
      ⟨(some 9), (some (8, false)), (.op (.field 1 1 false (.tmp 1)))⟩,
      ⟨(some 10), (some (8, false)), (.op (.load 1 false (.tmp 9)))⟩,
      ⟨(some 11), (some (8, false)), (.op (.arith .lss (.tmp 10) (.dat (.lit (.int .i64 0)))))⟩,
      ⟨(some 12), none, (.op (.pick (.tmp 8) (.dat (.lit (.bool true))) (.tmp 11)))⟩,
      ⟨(some 13), none, (.op (.mov (.tmp 12)))⟩,
      ⟨(some 14), (some (13, false)), (.op (.field 1 1 false (.tmp 1)))⟩,
      ⟨(some 15), (some (13, false)), (.op (.load 1 false (.tmp 14)))⟩,
      ⟨(some 16), (some (13, false)), (.op (.field 2 1 false (.tmp 1)))⟩,
      ⟨(some 17), (some (13, false)), (.op (.load 1 false (.tmp 16)))⟩,
      ⟨(some 18), (some (13, false)), (.op (.arith .geq (.tmp 15) (.tmp 17)))⟩,
      ⟨(some 19), none, (.op (.pick (.tmp 13) (.dat (.lit (.bool true))) (.tmp 18)))⟩,
      ⟨(some 20), none, (.op (.mov (.tmp 19)))⟩,
      ⟨(some 21), (some (20, false)), (.op (.field 2 1 false (.tmp 1)))⟩,
      ⟨(some 22), (some (20, false)), (.op (.load 1 false (.tmp 21)))⟩,
      ⟨(some 23), (some (20, false)), (.op (.arith .geq (.tmp 22) (.dat (.lit (.int .i64 1099511627775)))))⟩,
      ⟨(some 24), none, (.op (.pick (.tmp 20) (.dat (.lit (.bool true))) (.tmp 23)))⟩,
      ⟨(some 25), none, (.op (.mov (.tmp 24)))⟩,
      ⟨(some 26), (some (25, false)), (.op (.field 3 1 false (.tmp 1)))⟩,
      ⟨(some 27), (some (25, false)), (.op (.load 1 false (.tmp 26)))⟩,
      ⟨(some 28), (some (25, false)), (.op (.arith .lss (.tmp 27) (.dat (.lit (.int .i64 0)))))⟩,
      ⟨(some 29), none, (.op (.pick (.tmp 25) (.dat (.lit (.bool true))) (.tmp 28)))⟩,
      ⟨(some 30), none, (.op (.mov (.tmp 29)))⟩,
      ⟨(some 31), (some (30, false)), (.op (.field 3 1 false (.tmp 1)))⟩,
      ⟨(some 32), (some (30, false)), (.op (.load 1 false (.tmp 31)))⟩,
      ⟨(some 33), (some (30, false)), (.op (.arith .geq (.tmp 32) (.dat (.lit (.int .i64 64)))))⟩,
      ⟨(some 34), none, (.op (.pick (.tmp 30) (.dat (.lit (.bool true))) (.tmp 33)))⟩,
      ⟨(some 35), none, (.op (.mov (.tmp 34)))⟩,
      ⟨(some 36), (some (35, false)), (.op (.field 4 1 false (.tmp 1)))⟩,
      ⟨(some 37), (some (35, false)), (.op (.load 1 false (.tmp 36)))⟩,
      ⟨(some 38), (some (35, false)), (.op (.len (.tmp 37)))⟩,
      ⟨(some 39), (some (35, false)), (.op (.arith .gtr (.tmp 38) (.dat (.lit (.int .i64 4)))))⟩,
      ⟨(some 40), none, (.op (.pick (.tmp 35) (.dat (.lit (.bool true))) (.tmp 39)))⟩])
    (.cond (.tmp 40)
      (.seq (.region none [
        ⟨(some 2), none, (.op (.mov (.dat (.lit (.bool false)))))⟩])
      .ret)
      .skip))
    (.seq (.seq (.region none [
      ⟨(some 3), none, (.op (.mov (.dat (.lit (.int .i64 0)))))⟩])
    (.block 0
      (.loop
        (.seq (.seq (.region none [
          ⟨(some 41), none, (.op (.mov (.tmp 3)))⟩,
          ⟨(some 42), none, (.op (.field 4 1 false (.tmp 1)))⟩,
          ⟨(some 43), none, (.op (.load 1 false (.tmp 42)))⟩,
          ⟨(some 44), none, (.op (.len (.tmp 43)))⟩,
          ⟨(some 45), none, (.op (.arith .lss (.tmp 41) (.tmp 44)))⟩])
        (.cond (.tmp 45)
          .skip
          (.exit 0)))
        (.seq (.block 1
          (.seq (.region (some [[], [0], [], [0, 1, 2], [0, 1, 2, 3], [0, 1, 2, 3, 4], [0, 1, 2, 3, 4, 5], [0, 1, 2, 3, 4, 5, 6], [0, 1, 2, 3, 4, 5, 6, 7], [0, 1, 2, 3, 4, 5, 6, 7, 8], [0, 1, 2, 3, 4, 5, 6, 7], [0, 1, 2, 3, 4, 5, 6, 7, 8, 9, 10], [0, 1, 2, 3, 4, 5, 6, 7, 8, 9, 10, 11], [0, 1, 2, 3, 4, 5, 6, 7], [0, 1, 2, 3, 4, 5, 6, 7, 13], [0, 1, 2, 3, 4, 5, 6, 7, 8, 9, 10, 11, 12, 13, 14], [0, 1, 2, 3, 4, 5, 6, 7, 8, 9, 10, 11, 12, 13, 14, 15], [0, 1, 2, 3, 4, 5, 6, 7, 8, 9, 10, 11, 12, 13, 14, 15, 16], [0, 1, 2, 3, 4, 5, 6, 7, 8, 9, 10, 11, 12, 13, 14, 15, 16, 17], [0, 1, 2, 3, 4, 5, 6, 7, 8, 9, 10, 11, 12, 13, 14, 15, 16, 17, 18], [0, 1, 2, 3, 4, 5, 6, 7, 8, 9, 10, 11, 12, 13, 14, 15, 16, 17], [0, 1, 2, 3, 4, 5, 6, 7, 8, 9, 10, 11, 12, 13, 14, 15, 16, 17, 18, 19, 20], [0, 1, 2, 3, 4, 5, 6, 7, 8, 9, 10, 11, 12, 13, 14, 15, 16, 17], [0, 1, 2, 3, 4, 5, 6, 7, 8, 9, 10, 11, 12, 13, 14, 15, 16, 17, 22], [0, 1, 2, 3, 4, 5, 6, 7, 8, 9, 10, 11, 12, 13, 14, 15, 16, 17], [0, 1, 2, 3, 4, 5, 6, 7, 8, 9, 10, 11, 12, 13, 14, 15, 16, 17, 22, 23, 24], [0, 1, 2, 3, 4, 5, 6, 7, 8, 9, 10, 11, 12, 13, 14, 15, 16, 17, 22, 23, 24, 25], [0, 1, 2, 3, 4, 5, 6, 7, 8, 9, 10, 11, 12, 13, 14, 15, 16, 17, 18, 19, 20, 21, 22, 23, 24, 25, 26], [0, 1, 2, 3, 4, 5, 6, 7, 8, 9, 10, 11, 12, 13, 14, 15, 16, 17, 18, 19, 20, 21, 22, 23, 24, 25, 26, 27]]) [
            ⟨(some 48), none, (.op (.field 4 1 false (.tmp 1)))⟩,
            ⟨(some 49), none, (.op (.load 1 false (.tmp 48)))⟩,
            ⟨(some 50), none, (.op (.mov (.tmp 3)))⟩,
            ⟨(some 51), none, (.op (.index 1 (.tmp 49) (.tmp 50)))⟩,
            ⟨(some 52), none, (.op (.load 1 false (.tmp 51)))⟩,
            ⟨(some 53), none, (.call (.dat (.fn (.func 46) [] [])) [(.tmp 52)])⟩,
            ⟨(some 54), none, (.op (.not (.tmp 53)))⟩,
            ⟨(some 55), none, (.op (.mov (.tmp 54)))⟩,
            ⟨(some 56), (some (55, false)), (.op (.field 4 1 false (.tmp 1)))⟩,
            ⟨(some 57), (some (55, false)), (.op (.load 1 false (.tmp 56)))⟩,
            ⟨(some 58), (some (55, false)), (.op (.mov (.tmp 3)))⟩,
            ⟨(some 59), (some (55, false)), (.op (.index 1 (.tmp 57) (.tmp 58)))⟩,
            ⟨(some 60), (some (55, false)), (.op (.load 1 false (.tmp 59)))⟩,
            ⟨(some 61), (some (55, false)), (.op (.field 0 1 false (.tmp 1)))⟩,
            ⟨(some 62), (some (55, false)), (.op (.load 1 false (.tmp 61)))⟩,
            ⟨(some 63), (some (55, false)), (.op (.arith .eql (.tmp 60) (.tmp 62)))⟩,
            ⟨(some 64), none, (.op (.pick (.tmp 55) (.dat (.lit (.bool true))) (.tmp 63)))⟩,
            ⟨(some 65), none, (.op (.mov (.tmp 64)))⟩,
            ⟨(some 66), (some (65, false)), (.op (.field 4 1 false (.tmp 1)))⟩,
            ⟨(some 67), (some (65, false)), (.op (.load 1 false (.tmp 66)))⟩,
            ⟨(some 68), (some (65, false)), (.op (.mov (.tmp 3)))⟩,
            ⟨(some 69), (some (65, false)), (.op (.slice 1 (.tmp 67) none (some (.tmp 68))))⟩,
            ⟨(some 70), (some (65, false)), (.op (.field 4 1 false (.tmp 1)))⟩,
            ⟨(some 71), (some (65, false)), (.op (.load 1 false (.tmp 70)))⟩,
            ⟨(some 72), (some (65, false)), (.op (.mov (.tmp 3)))⟩,
            ⟨(some 73), (some (65, false)), (.op (.index 1 (.tmp 71) (.tmp 72)))⟩,
            ⟨(some 74), (some (65, false)), (.op (.load 1 false (.tmp 73)))⟩,
            ⟨(some 75), (some (65, false)), (.call (.dat (.fn (.func 47) [] [])) [(.tmp 69), (.tmp 74)])⟩,
            ⟨(some 76), none, (.op (.pick (.tmp 65) (.dat (.lit (.bool true))) (.tmp 75)))⟩])
          (.cond (.tmp 76)
            (.seq (.region none [
              ⟨(some 2), none, (.op (.mov (.dat (.lit (.bool false)))))⟩])
            .ret)
            .skip)))
        (.region none [
          ⟨(some 46), none, (.op (.mov (.tmp 3)))⟩,
          ⟨(some 47), none, (.op (.arith .add (.tmp 46) (.dat (.lit (.int .i64 1)))))⟩,
          ⟨(some 3), none, (.op (.mov (.tmp 47)))⟩]))))))
    (.seq (.region none [
      ⟨(some 2), none, (.op (.mov (.dat (.lit (.bool true)))))⟩])
    .ret))))
  res := [.tmp 2]
theorem c31 : CmpF Tryd.prog 31 a31 := chkF_cmp (F := Tryd.f31) (by kernel_rfl) mixed (by kernel_rfl)
/-- hansard/stream.kinds$1 -/
def a32 : AF where
  nt := 25
  body := (.seq (.region none [
      ⟨(some 2), none, (.op (.box true (.tmp 0)))⟩,
      ⟨(some 3), none, (.op (.box true (.tmp 1)))⟩,
      ⟨(some 4), none, (.op (.mov (.dat (.lit (.bool false)))))⟩])
    (.seq (.region none [
      ⟨(some 5), none, (.op (.field 1 1 false (.tmp 3)))⟩,
      ⟨(some 6), none, (.op (.load 1 false (.tmp 5)))⟩,
      ⟨(some 7), none, (.op (.arith .eql (.tmp 6) (.dat (.lit (.int .i64 0)))))⟩,
      ⟨(some 8), none, (.op (.mov (.tmp 7)))⟩,
      ⟨(some 9), (some (8, true)), (.op (.field 2 1 false (.tmp 3)))⟩,
      ⟨(some 10), (some (8, true)), (.op (.load 1 false (.tmp 9)))⟩,
      ⟨(some 11), (some (8, true)), (.op (.arith .eql (.tmp 10) (.dat (.lit (.int .i64 0)))))⟩,
      ⟨(some 12), none, (.op (.pick (.tmp 8) (.tmp 11) (.dat (.lit (.bool false)))))⟩,
      ⟨(some 13), none, (.op (.mov (.tmp 12)))⟩,
      ⟨(some 14), (some (13, true)), (.op (.field 3 1 false (.tmp 3)))⟩,
      ⟨(some 15), (some (13, true)), (.op (.load 1 false (.tmp 14)))⟩,
      ⟨(some 16), (some (13, true)), (.op (.len (.tmp 15)))⟩,
      ⟨(some 17), (some (13, true)), (.op (.arith .gtr (.tmp 16) (.dat (.lit (.int .i64 0)))))⟩,
      ⟨(some 18), none, (.op (.pick (.tmp 13) (.tmp 17) (.dat (.lit (.bool false)))))⟩,
      ⟨(some 19), none, (.op (.mov (.tmp 18)))⟩,
      ⟨(some 20), (some (19, true)), (.op (.field 3 1 false (.tmp 3)))⟩,
      ⟨(some 21), (some (19, true)), (.op (.load 1 false (.tmp 20)))⟩,
      ⟨(some 22), (some (19, true)), (.op (.len (.tmp 21)))⟩,
      ⟨(some 23), (some (19, true)), (.op (.arith .leq (.tmp 22) (.dat (.lit (.int .i64 64)))))⟩,
      ⟨(some 24), none, (.op (.pick (.tmp 19) (.tmp 23) (.dat (.lit (.bool false)))))⟩,
      ⟨(some 4), none, (.op (.mov (.tmp 24)))⟩])
    .ret))
  res := [.tmp 4]
theorem c32 : CmpF Tryd.prog 32 a32 := chkF_cmp (F := Tryd.f32) (by kernel_rfl) mixed (by kernel_rfl)
/-- hansard/stream.kinds$2 -/
def a33 : AF where
  nt := 13
  body := (.seq (.region none [
      ⟨(some 2), none, (.op (.box true (.tmp 0)))⟩,
      ⟨(some 3), none, (.op (.box true (.tmp 1)))⟩,
      ⟨(some 4), none, (.op (.alloc true [.nil 5, .lit (.int .i64 0)]))⟩])
    (.seq (.region none [
      ⟨(some 5), none, (.op (.field 0 1 false (.tmp 2)))⟩,
      ⟨(some 6), none, (.op (.load 1 false (.tmp 5)))⟩,
      ⟨(some 7), none, (.op (.field 3 1 false (.tmp 3)))⟩,
      ⟨(some 8), none, (.op (.load 1 false (.tmp 7)))⟩,
      ⟨(some 9), none, (.op (.mkslice 1 [(.tmp 6), (.tmp 8)]))⟩,
      ⟨(some 10), none, (.call (.dat (.fn (.func 34) [] [])) [(.tmp 9)])⟩,
      ⟨(some 11), none, (.op (.field 0 1 false (.tmp 2)))⟩,
      ⟨none, none, (.op (.store 1 (.tmp 11) (.tmp 10)))⟩])
    (.seq (.region none [
      ⟨(some 12), none, (.op (.load 2 true (.tmp 2)))⟩,
      ⟨none, none, (.op (.store 2 (.tmp 4) (.tmp 12)))⟩])
    .ret)))
  res := [.cell 4 2 true]
theorem c33 : CmpF Tryd.prog 33 a33 := chkF_cmp (F := Tryd.f33) (by kernel_rfl) mixed (by kernel_rfl)
/-- hansard/stream.joined(hansard/api.Word) -/
def a34 : AF where
  nt := 5
  body := (.seq (.region none [
      ⟨(some 2), none, (.op (.mov (.dat (.nil 5))))⟩])
    (.seq (.region none [
      ⟨(some 3), none, (.op (.mov (.tmp 0)))⟩,
      ⟨(some 4), none, (.call (.dat (.fn (.func 48) [] [])) [(.tmp 3)])⟩,
      ⟨(some 2), none, (.op (.mov (.tmp 4)))⟩])
    .ret))
  res := [.tmp 2]
theorem c34 : CmpF Tryd.prog 34 a34 := chkF_cmp (F := Tryd.f34) (by kernel_rfl) mixed (by kernel_rfl)
/-- hansard/stream.kinds$3 -/
def a35 : AF where
  nt := 55
  body := (.seq (.region none [
      ⟨(some 2), none, (.op (.box true (.tmp 0)))⟩,
      ⟨(some 3), none, (.op (.box true (.tmp 1)))⟩,
      ⟨(some 4), none, (.op (.mov (.dat (.lit (.bool false)))))⟩])
    (.seq (.region none [
      ⟨(some 6), none, (.op (.field 0 1 false (.tmp 2)))⟩,
      ⟨(some 7), none, (.op (.load 1 false (.tmp 6)))⟩,
      ⟨(some 8), none, (.op (.len (.tmp 7)))⟩,
      ⟨(some 5), none, (.op (.mov (.tmp 8)))⟩])
    (.seq (.seq (.region none [
      ⟨(some 9), none, (.op (.field 1 1 false (.tmp 3)))⟩,
      ⟨(some 10), none, (.op (.load 1 false (.tmp 9)))⟩,
      ⟨(some 11), none, (.op (.field 1 1 false (.tmp 2)))⟩,
      ⟨(some 12), none, (.op (.load 1 false (.tmp 11)))⟩,
      ⟨(some 13), none, (.op (.arith .lss (.tmp 10) (.tmp 12)))⟩,
      ⟨(some 14), none, (.op (.mov (.tmp 13)))⟩,
      ⟨(some 15), (some (14, false)), (.op (.field 1 1 false (.tmp 3)))⟩,
      ⟨(some 16), (some (14, false)), (.op (.load 1 false (.tmp 15)))⟩,
      ⟨(some 17), (some (14, false)), (.op (.mov (.tmp 5)))⟩,
      ⟨(some 18), (some (14, false)), (.op (.arith .gtr (.tmp 16) (.tmp 17)))⟩,
      ⟨(some 19), none, (.op (.pick (.tmp 14) (.dat (.lit (.bool true))) (.tmp 18)))⟩,
      ⟨(some 20), none, (.op (.mov (.tmp 19)))⟩,
      ⟨(some 21), (some (20, false)), (.op (.field 2 1 false (.tmp 3)))⟩,
      ⟨(some 22), (some (20, false)), (.op (.load 1 false (.tmp 21)))⟩,
      ⟨(some 23), (some (20, false)), (.op (.arith .lss (.tmp 22) (.dat (.lit (.int .i64 1)))))⟩,
      ⟨(some 24), none, (.op (.pick (.tmp 20) (.dat (.lit (.bool true))) (.tmp 23)))⟩,
      ⟨(some 25), none, (.op (.mov (.tmp 24)))⟩,
      ⟨(some 26), (some (25, false)), (.op (.field 2 1 false (.tmp 3)))⟩,
      ⟨(some 27), (some (25, false)), (.op (.load 1 false (.tmp 26)))⟩,
      ⟨(some 28), (some (25, false)), (.op (.mov (.tmp 5)))⟩,
      ⟨(some 29), (some (25, false)), (.op (.field 1 1 false (.tmp 3)))⟩,
      ⟨(some 30), (some (25, false)), (.op (.load 1 false (.tmp 29)))⟩,
      ⟨(some 31), (some (25, false)), (.op (.arith .sub (.tmp 28) (.tmp 30)))⟩,
      ⟨(some 32), (some (25, false)), (.op (.minmax false (.dat (.lit (.int .i64 64))) (.tmp 31)))⟩,
      ⟨(some 33), (some (25, false)), (.op (.arith .gtr (.tmp 27) (.tmp 32)))⟩,
      ⟨(some 34), none, (.op (.pick (.tmp 25) (.dat (.lit (.bool true))) (.tmp 33)))⟩,
      ⟨(some 35), none, (.op (.mov (.tmp 34)))⟩,
      ⟨(some 36), (some (35, false)), (.op (.field 3 1 false (.tmp 3)))⟩,
      ⟨(some 37), (some (35, false)), (.op (.load 1 false (.tmp 36)))⟩,
      ⟨(some 38), (some (35, false)), (.op (.len (.tmp 37)))⟩,
      ⟨(some 39), (some (35, false)), (.op (.arith .gtr (.tmp 38) (.dat (.lit (.int .i64 64)))))⟩,
      ⟨(some 40), none, (.op (.pick (.tmp 35) (.dat (.lit (.bool true))) (.tmp 39)))⟩])
    (.cond (.tmp 40)
      (.seq (.region none [
        ⟨(some 4), none, (.op (.mov (.dat (.lit (.bool false)))))⟩])
      .ret)
      .skip))
    (.seq (.region (some [[], [0], [], [2], [], [4], [], [6], [], [8], [6, 7, 8, 9], [2, 3, 4, 5, 6, 7, 8, 9, 10], [0, 1, 2, 3, 4, 5, 6, 7, 8, 9, 10, 11], [0, 1, 2, 3, 4, 5, 6, 7, 8, 9, 10, 11, 12], [0, 1, 2, 3, 4, 5, 6, 7, 8, 9, 10, 11, 12, 13]]) [
      ⟨(some 41), none, (.op (.field 3 1 false (.tmp 3)))⟩,
      ⟨(some 42), none, (.op (.load 1 false (.tmp 41)))⟩,
      ⟨(some 43), none, (.op (.field 0 1 false (.tmp 2)))⟩,
      ⟨(some 44), none, (.op (.load 1 false (.tmp 43)))⟩,
      ⟨(some 45), none, (.op (.field 1 1 false (.tmp 3)))⟩,
      ⟨(some 46), none, (.op (.load 1 false (.tmp 45)))⟩,
      ⟨(some 47), none, (.op (.field 1 1 false (.tmp 3)))⟩,
      ⟨(some 48), none, (.op (.load 1 false (.tmp 47)))⟩,
      ⟨(some 49), none, (.op (.field 2 1 false (.tmp 3)))⟩,
      ⟨(some 50), none, (.op (.load 1 false (.tmp 49)))⟩,
      ⟨(some 51), none, (.op (.arith .add (.tmp 48) (.tmp 50)))⟩,
      ⟨(some 52), none, (.op (.slice 5 (.tmp 44) (some (.tmp 46)) (some (.tmp 51))))⟩,
      ⟨(some 53), none, (.call (.dat (.fn (.func 36) [] [])) [(.tmp 42), (.tmp 52), (.dat (.fn (.func 37) [] []))])⟩,
      ⟨(some 54), none, (.op (.not (.tmp 53)))⟩,
      ⟨(some 4), none, (.op (.mov (.tmp 54)))⟩])
    .ret))))
  res := [.tmp 4]
theorem c35 : CmpF Tryd.prog 35 a35 := chkF_cmp (F := Tryd.f35) (by kernel_rfl) mixed (by kernel_rfl)
/-- slices.EqualFunc(()hansard/api.Word,()hansard/api.Word,hansard/api.Word,hansard/api.Word) -/
def a36 : AF where
  nt := 32
  body := (.seq (.region none [
      ⟨(some 6), none, (.op (.mov (.dat (.lit (.bool false)))))⟩])
    (.seq (.seq (.region none [
      ⟨(some 10), none, (.op (.mov (.tmp 0)))⟩,
      ⟨(some 11), none, (.op (.len (.tmp 10)))⟩,
      ⟨(some 12), none, (.op (.mov (.tmp 1)))⟩,
      ⟨(some 13), none, (.op (.len (.tmp 12)))⟩,
      ⟨(some 14), none, (.op (.arith .neq (.tmp 11) (.tmp 13)))⟩])
    (.cond (.tmp 14)
      (.seq (.region none [
        ⟨(some 6), none, (.op (.mov (.dat (.lit (.bool false)))))⟩])
      .ret)
      .skip))
    (.seq (.seq (.region none [
      ⟨(some 15), none, (.op (.mov (.tmp 0)))⟩,
      ⟨(some 16), none, (.op (.len (.tmp 15)))⟩,
      ⟨(some 17), none, (.op (.mov (.dat (.lit (.int .i64 0)))))⟩])
    (.block 0
      (.loop
        (.seq (.region none [
          ⟨(some 18), none, (.op (.arith .lss (.tmp 17) (.tmp 16)))⟩])
        (.seq (.cond (.tmp 18)
          .skip
          (.exit 0))
        (.seq (.block 1
          (.seq (.region none [
            ⟨(some 19), none, (.op (.mov (.tmp 17)))⟩,
            ⟨(some 20), none, (.op (.index 5 (.tmp 15) (.tmp 17)))⟩,
            ⟨(some 21), none, (.op (.load 5 true (.tmp 20)))⟩,
            ⟨(some 8), none, (.op (.alloc true [.lit (.string ⟨#[]⟩), .lit (.int .i64 0), .lit (.int .i64 0), .lit (.int .i64 0), .nil 1]))⟩,
            ⟨(some 7), none, (.op (.mov (.tmp 19)))⟩,
            ⟨none, none, (.op (.store 5 (.tmp 8) (.tmp 21)))⟩])
          (.seq (.region none [
            ⟨(some 22), none, (.op (.mov (.tmp 1)))⟩,
            ⟨(some 23), none, (.op (.mov (.tmp 7)))⟩,
            ⟨(some 24), none, (.op (.index 5 (.tmp 22) (.tmp 23)))⟩,
            ⟨(some 25), none, (.op (.load 5 true (.tmp 24)))⟩,
            ⟨(some 9), none, (.op (.alloc true [.lit (.string ⟨#[]⟩), .lit (.int .i64 0), .lit (.int .i64 0), .lit (.int .i64 0), .nil 1]))⟩,
            ⟨none, none, (.op (.store 5 (.tmp 9) (.tmp 25)))⟩])
          (.seq (.region none [
            ⟨(some 26), none, (.op (.mov (.tmp 2)))⟩,
            ⟨(some 27), none, (.op (.load 5 true (.tmp 8)))⟩,
            ⟨(some 28), none, (.op (.load 5 true (.tmp 9)))⟩,
            ⟨(some 29), none, (.call (.tmp 26) [(.tmp 27), (.tmp 28)])⟩,
            ⟨(some 30), none, (.op (.not (.tmp 29)))⟩])
          (.cond (.tmp 30)
            (.seq (.region none [
              ⟨(some 6), none, (.op (.mov (.dat (.lit (.bool false)))))⟩])
            .ret)
            .skip)))))
        (.region none [
          ⟨(some 31), none, (.op (.arith .add (.tmp 17) (.dat (.lit (.int .i64 1)))))⟩,
          ⟨(some 17), none, (.op (.mov (.tmp 31)))⟩])))))))
    (.seq (.region none [
      ⟨(some 6), none, (.op (.mov (.dat (.lit (.bool true)))))⟩])
    .ret))))
  res := [.tmp 6]
theorem c36 : CmpF Tryd.prog 36 a36 := chkF_cmp (F := Tryd.f36) (by kernel_rfl) mixed (by kernel_rfl)
/-- hansard/stream.same -/
def a37 : AF where
  nt := 38
  body := (.seq (.region none [
      ⟨(some 2), none, (.op (.box true (.tmp 0)))⟩,
      ⟨(some 3), none, (.op (.box true (.tmp 1)))⟩,
      ⟨(some 4), none, (.op (.mov (.dat (.lit (.bool false)))))⟩])
    (.seq (.region none [
      ⟨(some 5), none, (.op (.field 0 1 false (.tmp 2)))⟩,
      ⟨(some 6), none, (.op (.load 1 false (.tmp 5)))⟩,
      ⟨(some 7), none, (.op (.field 0 1 false (.tmp 3)))⟩,
      ⟨(some 8), none, (.op (.load 1 false (.tmp 7)))⟩,
      ⟨(some 9), none, (.op (.arith .eql (.tmp 6) (.tmp 8)))⟩,
      ⟨(some 10), none, (.op (.mov (.tmp 9)))⟩,
      ⟨(some 11), (some (10, true)), (.op (.field 1 1 false (.tmp 2)))⟩,
      ⟨(some 12), (some (10, true)), (.op (.load 1 false (.tmp 11)))⟩,
      ⟨(some 13), (some (10, true)), (.op (.field 1 1 false (.tmp 3)))⟩,
      ⟨(some 14), (some (10, true)), (.op (.load 1 false (.tmp 13)))⟩,
      ⟨(some 15), (some (10, true)), (.op (.arith .eql (.tmp 12) (.tmp 14)))⟩,
      ⟨(some 16), none, (.op (.pick (.tmp 10) (.tmp 15) (.dat (.lit (.bool false)))))⟩,
      ⟨(some 17), none, (.op (.mov (.tmp 16)))⟩,
      ⟨(some 18), (some (17, true)), (.op (.field 2 1 false (.tmp 2)))⟩,
      ⟨(some 19), (some (17, true)), (.op (.load 1 false (.tmp 18)))⟩,
      ⟨(some 20), (some (17, true)), (.op (.field 2 1 false (.tmp 3)))⟩,
      ⟨(some 21), (some (17, true)), (.op (.load 1 false (.tmp 20)))⟩,
      ⟨(some 22), (some (17, true)), (.op (.arith .eql (.tmp 19) (.tmp 21)))⟩,
      ⟨(some 23), none, (.op (.pick (.tmp 17) (.tmp 22) (.dat (.lit (.bool false)))))⟩,
      ⟨(some 24), none, (.op (.mov (.tmp 23)))⟩,
      ⟨(some 25), (some (24, true)), (.op (.field 3 1 false (.tmp 2)))⟩,
      ⟨(some 26), (some (24, true)), (.op (.load 1 false (.tmp 25)))⟩,
      ⟨(some 27), (some (24, true)), (.op (.field 3 1 false (.tmp 3)))⟩,
      ⟨(some 28), (some (24, true)), (.op (.load 1 false (.tmp 27)))⟩,
      ⟨(some 29), (some (24, true)), (.op (.arith .eql (.tmp 26) (.tmp 28)))⟩,
      ⟨(some 30), none, (.op (.pick (.tmp 24) (.tmp 29) (.dat (.lit (.bool false)))))⟩,
      ⟨(some 31), none, (.op (.mov (.tmp 30)))⟩,
      ⟨(some 32), (some (31, true)), (.op (.field 4 1 false (.tmp 2)))⟩,
      ⟨(some 33), (some (31, true)), (.op (.load 1 false (.tmp 32)))⟩,
      ⟨(some 34), (some (31, true)), (.op (.field 4 1 false (.tmp 3)))⟩,
      ⟨(some 35), (some (31, true)), (.op (.load 1 false (.tmp 34)))⟩,
      ⟨(some 36), (some (31, true)), (.call (.dat (.fn (.func 49) [] [])) [(.tmp 33), (.tmp 35)])⟩,
      ⟨(some 37), none, (.op (.pick (.tmp 31) (.tmp 36) (.dat (.lit (.bool false)))))⟩,
      ⟨(some 4), none, (.op (.mov (.tmp 37)))⟩])
    .ret))
  res := [.tmp 4]
theorem c37 : CmpF Tryd.prog 37 a37 := chkF_cmp (F := Tryd.f37) (by kernel_rfl) mixed (by kernel_rfl)
/-- hansard/stream.kinds$4 -/
def a38 : AF where
  nt := 24
  body := (.seq (.region none [
      ⟨(some 2), none, (.op (.box true (.tmp 0)))⟩,
      ⟨(some 3), none, (.op (.box true (.tmp 1)))⟩,
      ⟨(some 4), none, (.op (.alloc true [.nil 5, .lit (.int .i64 0)]))⟩])
    (.seq (.region (some [[], [0], [], [2], [0, 1, 2, 3], [], [5], [], [7], [], [9], [], [11], [9, 10, 11, 12], [7, 8, 9, 10, 11, 12, 13], [0, 1, 2, 3, 4, 5, 6, 7, 8, 9, 10, 11, 12, 13, 14], [0, 1, 2, 3, 4, 5, 6, 7, 8, 9, 10, 11, 12, 13, 14, 15], [0, 1, 2, 3, 4, 5, 6, 7, 8, 9, 10, 11, 12, 13, 14, 15, 16], [0, 1, 2, 3, 4, 5, 6, 7, 8, 9, 10, 11, 12, 13, 14, 15, 16, 17]]) [
      ⟨(some 5), none, (.op (.field 0 1 false (.tmp 2)))⟩,
      ⟨(some 6), none, (.op (.load 1 false (.tmp 5)))⟩,
      ⟨(some 7), none, (.op (.field 1 1 false (.tmp 3)))⟩,
      ⟨(some 8), none, (.op (.load 1 false (.tmp 7)))⟩,
      ⟨(some 9), none, (.op (.slice 5 (.tmp 6) none (some (.tmp 8))))⟩,
      ⟨(some 10), none, (.op (.field 3 1 false (.tmp 3)))⟩,
      ⟨(some 11), none, (.op (.load 1 false (.tmp 10)))⟩,
      ⟨(some 12), none, (.op (.field 0 1 false (.tmp 2)))⟩,
      ⟨(some 13), none, (.op (.load 1 false (.tmp 12)))⟩,
      ⟨(some 14), none, (.op (.field 1 1 false (.tmp 3)))⟩,
      ⟨(some 15), none, (.op (.load 1 false (.tmp 14)))⟩,
      ⟨(some 16), none, (.op (.field 2 1 false (.tmp 3)))⟩,
      ⟨(some 17), none, (.op (.load 1 false (.tmp 16)))⟩,
      ⟨(some 18), none, (.op (.arith .add (.tmp 15) (.tmp 17)))⟩,
      ⟨(some 19), none, (.op (.slice 5 (.tmp 13) (some (.tmp 18)) none))⟩,
      ⟨(some 20), none, (.op (.mkslice 1 [(.tmp 9), (.tmp 11), (.tmp 19)]))⟩,
      ⟨(some 21), none, (.call (.dat (.fn (.func 34) [] [])) [(.tmp 20)])⟩,
      ⟨(some 22), none, (.op (.field 0 1 false (.tmp 2)))⟩,
      ⟨none, none, (.op (.store 1 (.tmp 22) (.tmp 21)))⟩])
    (.seq (.region none [
      ⟨(some 23), none, (.op (.load 2 true (.tmp 2)))⟩,
      ⟨none, none, (.op (.store 2 (.tmp 4) (.tmp 23)))⟩])
    .ret)))
  res := [.cell 4 2 true]
theorem c38 : CmpF Tryd.prog 38 a38 := chkF_cmp (F := Tryd.f38) (by kernel_rfl) mixed (by kernel_rfl)
/-- hansard/stream.kinds$5 -/
def a39 : AF where
  nt := 29
  body := (.seq (.region none [
      ⟨(some 2), none, (.op (.box true (.tmp 0)))⟩,
      ⟨(some 3), none, (.op (.box true (.tmp 1)))⟩,
      ⟨(some 4), none, (.op (.mov (.dat (.lit (.bool false)))))⟩])
    (.seq (.region none [
      ⟨(some 5), none, (.op (.field 1 1 false (.tmp 3)))⟩,
      ⟨(some 6), none, (.op (.load 1 false (.tmp 5)))⟩,
      ⟨(some 7), none, (.op (.field 1 1 false (.tmp 2)))⟩,
      ⟨(some 8), none, (.op (.load 1 false (.tmp 7)))⟩,
      ⟨(some 9), none, (.op (.arith .geq (.tmp 6) (.tmp 8)))⟩,
      ⟨(some 10), none, (.op (.mov (.tmp 9)))⟩,
      ⟨(some 11), (some (10, true)), (.op (.field 1 1 false (.tmp 3)))⟩,
      ⟨(some 12), (some (10, true)), (.op (.load 1 false (.tmp 11)))⟩,
      ⟨(some 13), (some (10, true)), (.op (.field 0 1 false (.tmp 2)))⟩,
      ⟨(some 14), (some (10, true)), (.op (.load 1 false (.tmp 13)))⟩,
      ⟨(some 15), (some (10, true)), (.op (.len (.tmp 14)))⟩,
      ⟨(some 16), (some (10, true)), (.op (.arith .leq (.tmp 12) (.tmp 15)))⟩,
      ⟨(some 17), none, (.op (.pick (.tmp 10) (.tmp 16) (.dat (.lit (.bool false)))))⟩,
      ⟨(some 18), none, (.op (.mov (.tmp 17)))⟩,
      ⟨(some 19), (some (18, true)), (.op (.field 2 1 false (.tmp 3)))⟩,
      ⟨(some 20), (some (18, true)), (.op (.load 1 false (.tmp 19)))⟩,
      ⟨(some 21), (some (18, true)), (.op (.arith .eql (.tmp 20) (.dat (.lit (.int .i64 0)))))⟩,
      ⟨(some 22), none, (.op (.pick (.tmp 18) (.tmp 21) (.dat (.lit (.bool false)))))⟩,
      ⟨(some 23), none, (.op (.mov (.tmp 22)))⟩,
      ⟨(some 24), (some (23, true)), (.op (.field 3 1 false (.tmp 3)))⟩,
      ⟨(some 25), (some (23, true)), (.op (.load 1 false (.tmp 24)))⟩,
      ⟨(some 26), (some (23, true)), (.op (.len (.tmp 25)))⟩,
      ⟨(some 27), (some (23, true)), (.op (.arith .eql (.tmp 26) (.dat (.lit (.int .i64 0)))))⟩,
      ⟨(some 28), none, (.op (.pick (.tmp 23) (.tmp 27) (.dat (.lit (.bool false)))))⟩,
      ⟨(some 4), none, (.op (.mov (.tmp 28)))⟩])
    .ret))
  res := [.tmp 4]
theorem c39 : CmpF Tryd.prog 39 a39 := chkF_cmp (F := Tryd.f39) (by kernel_rfl) mixed (by kernel_rfl)
/-- hansard/stream.kinds$6 -/
def a40 : AF where
  nt := 9
  body := (.seq (.region none [
      ⟨(some 2), none, (.op (.box true (.tmp 0)))⟩,
      ⟨(some 3), none, (.op (.box true (.tmp 1)))⟩,
      ⟨(some 4), none, (.op (.alloc true [.nil 5, .lit (.int .i64 0)]))⟩])
    (.seq (.region none [
      ⟨(some 5), none, (.op (.field 1 1 false (.tmp 3)))⟩,
      ⟨(some 6), none, (.op (.load 1 false (.tmp 5)))⟩,
      ⟨(some 7), none, (.op (.field 1 1 false (.tmp 2)))⟩,
      ⟨none, none, (.op (.store 1 (.tmp 7) (.tmp 6)))⟩])
    (.seq (.region none [
      ⟨(some 8), none, (.op (.load 2 true (.tmp 2)))⟩,
      ⟨none, none, (.op (.store 2 (.tmp 4) (.tmp 8)))⟩])
    .ret)))
  res := [.cell 4 2 true]
theorem c40 : CmpF Tryd.prog 40 a40 := chkF_cmp (F := Tryd.f40) (by kernel_rfl) mixed (by kernel_rfl)
/-- hansard/hansardref09.Same -/
def a41 : AF where
  nt := 26
  body := (.seq (.region none [
      ⟨(some 4), none, (.op (.mov (.dat (.lit (.bool false)))))⟩])
    (.seq (.seq (.region none [
      ⟨(some 6), none, (.op (.mov (.tmp 0)))⟩,
      ⟨(some 7), none, (.op (.len (.tmp 6)))⟩,
      ⟨(some 8), none, (.op (.mov (.tmp 1)))⟩,
      ⟨(some 9), none, (.op (.len (.tmp 8)))⟩,
      ⟨(some 10), none, (.op (.arith .neq (.tmp 7) (.tmp 9)))⟩])
    (.cond (.tmp 10)
      (.seq (.region none [
        ⟨(some 4), none, (.op (.mov (.dat (.lit (.bool false)))))⟩])
      .ret)
      .skip))
    (.seq (.seq (.region none [
      ⟨(some 5), none, (.op (.mov (.dat (.lit (.int .i64 0)))))⟩])
    (.block 0
      (.loop
        (.seq (.seq (.region none [
          ⟨(some 11), none, (.op (.mov (.tmp 5)))⟩,
          ⟨(some 12), none, (.op (.mov (.tmp 0)))⟩,
          ⟨(some 13), none, (.op (.len (.tmp 12)))⟩,
          ⟨(some 14), none, (.op (.arith .lss (.tmp 11) (.tmp 13)))⟩])
        (.cond (.tmp 14)
          .skip
          (.exit 0)))
        (.seq (.block 1
          (.seq (.region (some [[], [], [0, 1], [0, 1, 2], [], [], [4, 5], [4, 5, 6], [0, 1, 2, 3, 4, 5, 6, 7]]) [
            ⟨(some 17), none, (.op (.mov (.tmp 0)))⟩,
            ⟨(some 18), none, (.op (.mov (.tmp 5)))⟩,
            ⟨(some 19), none, (.op (.index 1 (.tmp 17) (.tmp 18)))⟩,
            ⟨(some 20), none, (.op (.load 1 false (.tmp 19)))⟩,
            ⟨(some 21), none, (.op (.mov (.tmp 1)))⟩,
            ⟨(some 22), none, (.op (.mov (.tmp 5)))⟩,
            ⟨(some 23), none, (.op (.index 1 (.tmp 21) (.tmp 22)))⟩,
            ⟨(some 24), none, (.op (.load 1 false (.tmp 23)))⟩,
            ⟨(some 25), none, (.op (.arith .neq (.tmp 20) (.tmp 24)))⟩])
          (.cond (.tmp 25)
            (.seq (.region none [
              ⟨(some 4), none, (.op (.mov (.dat (.lit (.bool false)))))⟩])
            .ret)
            .skip)))
        (.region none [
          ⟨(some 15), none, (.op (.mov (.tmp 5)))⟩,
          ⟨(some 16), none, (.op (.arith .add (.tmp 15) (.dat (.lit (.int .i64 1)))))⟩,
          ⟨(some 5), none, (.op (.mov (.tmp 16)))⟩]))))))
    (.seq (.region none [
      ⟨(some 4), none, (.op (.mov (.dat (.lit (.bool true)))))⟩])
    .ret))))
  res := [.tmp 4]
theorem c41 : CmpF Tryd.prog 41 a41 := chkF_cmp (F := Tryd.f41) (by kernel_rfl) mixed (by kernel_rfl)
/-- hansard/stream.right$1 -/
def a42 : AF where
  nt := 18
  body := (.seq (.region none [
      ⟨(some 3), none, (.op (.mov (.dat (.lit (.bool false)))))⟩])
    (.seq (.region none [
      ⟨(some 5), none, (.op (.load 1 false (.tmp 1)))⟩,
      ⟨(some 6), none, (.op (.mov (.tmp 0)))⟩,
      ⟨(some 7), none, (.call (.dat (.fn (.func 43) [] [])) [(.tmp 5), (.tmp 6)])⟩,
      ⟨(some 4), none, (.op (.mov (.tmp 7)))⟩])
    (.seq (.region none [
      ⟨(some 8), none, (.op (.load 1 false (.tmp 1)))⟩,
      ⟨(some 9), none, (.op (.mov (.tmp 0)))⟩,
      ⟨(some 10), none, (.op (.mkslice 1 [(.tmp 9)]))⟩,
      ⟨(some 11), none, (.op (.append 1 16 (.tmp 8) (.tmp 10)))⟩,
      ⟨none, none, (.op (.store 1 (.tmp 1) (.tmp 11)))⟩])
    (.seq (.region none [
      ⟨(some 12), none, (.op (.mov (.tmp 4)))⟩,
      ⟨(some 13), none, (.op (.mov (.tmp 12)))⟩,
      ⟨(some 14), (some (13, false)), (.op (.mov (.tmp 0)))⟩,
      ⟨(some 15), (some (13, false)), (.call (.dat (.fn (.func 44) [] [])) [(.tmp 14)])⟩,
      ⟨(some 16), (some (13, false)), (.op (.not (.tmp 15)))⟩,
      ⟨(some 17), none, (.op (.pick (.tmp 13) (.dat (.lit (.bool true))) (.tmp 16)))⟩,
      ⟨(some 3), none, (.op (.mov (.tmp 17)))⟩])
    .ret))))
  res := [.tmp 3]
theorem c42 : CmpF Tryd.prog 42 a42 := chkF_cmp (F := Tryd.f42) (by kernel_rfl) mixed (by kernel_rfl)
/-- slices.Contains(()string,string) -/
def a43 : AF where
  nt := 9
  body := (.seq (.region none [
      ⟨(some 4), none, (.op (.mov (.dat (.lit (.bool false)))))⟩])
    (.seq (.region none [
      ⟨(some 5), none, (.op (.mov (.tmp 0)))⟩,
      ⟨(some 6), none, (.op (.mov (.tmp 1)))⟩,
      ⟨(some 7), none, (.call (.dat (.fn (.func 50) [] [])) [(.tmp 5), (.tmp 6)])⟩,
      ⟨(some 8), none, (.op (.arith .geq (.tmp 7) (.dat (.lit (.int .i64 0)))))⟩,
      ⟨(some 4), none, (.op (.mov (.tmp 8)))⟩])
    .ret))
  res := [.tmp 4]
theorem c43 : CmpF Tryd.prog 43 a43 := chkF_cmp (F := Tryd.f43) (by kernel_rfl) mixed (by kernel_rfl)
/-- hansard/text.Word -/
def a44 : AF where
  nt := 31
  body := (.seq (.region none [
      ⟨(some 2), none, (.op (.mov (.dat (.lit (.bool false)))))⟩])
    (.seq (.region none [
      ⟨(some 6), none, (.op (.mov (.tmp 0)))⟩,
      ⟨(some 7), none, (.call (.dat (.fn (.func 51) [] [])) [(.tmp 6)])⟩,
      ⟨(some 5), none, (.op (.mov (.tmp 7)))⟩,
      ⟨(some 8), none, (.op (.extract (.tmp 5) 0))⟩,
      ⟨(some 9), none, (.op (.extract (.tmp 5) 1))⟩,
      ⟨(some 3), none, (.op (.mov (.tmp 8)))⟩,
      ⟨(some 4), none, (.op (.mov (.tmp 9)))⟩])
    (.seq (.region none [
      ⟨(some 10), none, (.op (.mov (.tmp 4)))⟩,
      ⟨(some 11), none, (.op (.arith .eql (.tmp 10) (.dat (.lit (.int .i64 0)))))⟩,
      ⟨(some 12), none, (.op (.mov (.tmp 11)))⟩,
      ⟨(some 13), (some (12, true)), (.op (.mov (.tmp 0)))⟩,
      ⟨(some 14), (some (12, true)), (.op (.lenS (.tmp 13)))⟩,
      ⟨(some 15), (some (12, true)), (.op (.arith .gtr (.tmp 14) (.dat (.lit (.int .i64 0)))))⟩,
      ⟨(some 16), none, (.op (.pick (.tmp 12) (.tmp 15) (.dat (.lit (.bool false)))))⟩,
      ⟨(some 17), none, (.op (.mov (.tmp 16)))⟩,
      ⟨(some 18), (some (17, true)), (.op (.mov (.tmp 0)))⟩,
      ⟨(some 19), (some (17, true)), (.op (.lenS (.tmp 18)))⟩,
      ⟨(some 20), (some (17, true)), (.op (.arith .leq (.tmp 19) (.dat (.lit (.int .i64 64)))))⟩,
      ⟨(some 21), none, (.op (.pick (.tmp 17) (.tmp 20) (.dat (.lit (.bool false)))))⟩,
      ⟨(some 22), none, (.op (.mov (.tmp 21)))⟩,
      ⟨(some 23), (some (22, true)), (.op (.mov (.tmp 3)))⟩,
      ⟨(some 24), (some (22, true)), (.call (.dat (.fn (.func 53) [] [])) [])⟩,
      ⟨(some 25), (some (22, true)), (.op (.index 2 (.tmp 24) (.dat (.lit (.int .i64 0)))))⟩,
      ⟨(some 26), (some (22, true)), (.op (.field 1 1 false (.tmp 25)))⟩,
      ⟨(some 27), (some (22, true)), (.op (.load 1 false (.tmp 26)))⟩,
      ⟨(some 28), (some (22, true)), (.call (.dat (.fn (.func 52) [] [])) [(.tmp 23), (.tmp 27)])⟩,
      ⟨(some 29), (some (22, true)), (.op (.not (.tmp 28)))⟩,
      ⟨(some 30), none, (.op (.pick (.tmp 22) (.tmp 29) (.dat (.lit (.bool false)))))⟩,
      ⟨(some 2), none, (.op (.mov (.tmp 30)))⟩])
    .ret)))
  res := [.tmp 2]
theorem c44 : CmpF Tryd.prog 44 a44 := chkF_cmp (F := Tryd.f44) (by kernel_rfl) mixed (by kernel_rfl)
/-- slices.ContainsFunc(()string,string) -/
def a45 : AF where
  nt := 9
  body := (.seq (.region none [
      ⟨(some 4), none, (.op (.mov (.dat (.lit (.bool false)))))⟩])
    (.seq (.sregion [
      ⟨(some 5), none, (.op (.mov (.tmp 0)))⟩,
      ⟨(some 6), none, (.op (.mov (.tmp 1)))⟩,
      ⟨(some 7), none, (.icall (.dat (.fn (.func 54) [] [])) [(.tmp 5), (.tmp 6)])⟩,
      ⟨(some 8), none, (.op (.arith .geq (.tmp 7) (.dat (.lit (.int .i64 0)))))⟩,
      ⟨(some 4), none, (.op (.mov (.tmp 8)))⟩])
    .ret))
  res := [.tmp 4]
theorem c45 : CmpF Tryd.prog 45 a45 := chkF_cmp (F := Tryd.f45) (by kernel_rfl) mixed (by kernel_rfl)
/-- hansard/hansardref09.Word -/
def a46 : AF where
  nt := 32
  body := (.seq (.region none [
      ⟨(some 2), none, (.op (.mov (.dat (.lit (.bool false)))))⟩])
    (.seq (.seq (.region none [
      ⟨(some 6), none, (.op (.mov (.tmp 0)))⟩,
      ⟨(some 7), none, (.op (.lenS (.tmp 6)))⟩,
      ⟨(some 8), none, (.op (.arith .lss (.tmp 7) (.dat (.lit (.int .i64 1)))))⟩,
      ⟨(some 9), none, (.op (.mov (.tmp 8)))⟩,
      ⟨(some 10), (some (9, false)), (.op (.mov (.tmp 0)))⟩,
      ⟨(some 11), (some (9, false)), (.op (.lenS (.tmp 10)))⟩,
      ⟨(some 12), (some (9, false)), (.op (.arith .gtr (.tmp 11) (.dat (.lit (.int .i64 64)))))⟩,
      ⟨(some 13), none, (.op (.pick (.tmp 9) (.dat (.lit (.bool true))) (.tmp 12)))⟩])
    (.cond (.tmp 13)
      (.seq (.region none [
        ⟨(some 2), none, (.op (.mov (.dat (.lit (.bool false)))))⟩])
      .ret)
      .skip))
    (.seq (.region none [
      ⟨(some 15), none, (.op (.mov (.tmp 0)))⟩,
      ⟨(some 16), none, (.call (.dat (.fn (.func 55) [] [])) [(.tmp 15)])⟩,
      ⟨(some 14), none, (.op (.mov (.tmp 16)))⟩,
      ⟨(some 17), none, (.op (.extract (.tmp 14) 0))⟩,
      ⟨(some 18), none, (.op (.extract (.tmp 14) 1))⟩,
      ⟨(some 3), none, (.op (.mov (.tmp 17)))⟩,
      ⟨(some 4), none, (.op (.mov (.tmp 18)))⟩])
    (.seq (.seq (.region none [
      ⟨(some 19), none, (.op (.mov (.tmp 4)))⟩,
      ⟨(some 20), none, (.op (.arith .neq (.tmp 19) (.dat (.lit (.int .i64 0)))))⟩])
    (.cond (.tmp 20)
      (.seq (.region none [
        ⟨(some 2), none, (.op (.mov (.dat (.lit (.bool false)))))⟩])
      .ret)
      .skip))
    (.seq (.seq (.region none [
      ⟨(some 5), none, (.op (.mov (.dat (.lit (.int .i64 0)))))⟩])
    (.block 0
      (.loop
        (.seq (.seq (.region none [
          ⟨(some 21), none, (.op (.mov (.tmp 5)))⟩,
          ⟨(some 22), none, (.op (.mov (.tmp 3)))⟩,
          ⟨(some 23), none, (.op (.len (.tmp 22)))⟩,
          ⟨(some 24), none, (.op (.arith .lss (.tmp 21) (.tmp 23)))⟩])
        (.cond (.tmp 24)
          .skip
          (.exit 0)))
        (.seq (.block 1
          (.seq (.region none [
            ⟨(some 27), none, (.op (.mov (.tmp 3)))⟩,
            ⟨(some 28), none, (.op (.mov (.tmp 5)))⟩,
            ⟨(some 29), none, (.op (.index 1 (.tmp 27) (.tmp 28)))⟩,
            ⟨(some 30), none, (.op (.load 1 false (.tmp 29)))⟩,
            ⟨(some 31), none, (.call (.dat (.fn (.func 56) [] [])) [(.tmp 30)])⟩])
          (.cond (.tmp 31)
            (.seq (.region none [
              ⟨(some 2), none, (.op (.mov (.dat (.lit (.bool false)))))⟩])
            .ret)
            .skip)))
        (.region none [
          ⟨(some 25), none, (.op (.mov (.tmp 5)))⟩,
          ⟨(some 26), none, (.op (.arith .add (.tmp 25) (.dat (.lit (.int .i64 1)))))⟩,
          ⟨(some 5), none, (.op (.mov (.tmp 26)))⟩]))))))
    (.seq (.region none [
      ⟨(some 2), none, (.op (.mov (.dat (.lit (.bool true)))))⟩])
    .ret))))))
  res := [.tmp 2]
theorem c46 : CmpF Tryd.prog 46 a46 := chkF_cmp (F := Tryd.f46) (by kernel_rfl) mixed (by kernel_rfl)
/-- hansard/hansardref17.Has -/
def a47 : AF where
  nt := 18
  body := (.seq (.region none [
      ⟨(some 4), none, (.op (.mov (.dat (.lit (.bool false)))))⟩])
    (.seq (.seq (.region none [
      ⟨(some 5), none, (.op (.mov (.dat (.lit (.int .i64 0)))))⟩])
    (.block 0
      (.loop
        (.seq (.seq (.region none [
          ⟨(some 6), none, (.op (.mov (.tmp 5)))⟩,
          ⟨(some 7), none, (.op (.mov (.tmp 0)))⟩,
          ⟨(some 8), none, (.op (.len (.tmp 7)))⟩,
          ⟨(some 9), none, (.op (.arith .lss (.tmp 6) (.tmp 8)))⟩])
        (.cond (.tmp 9)
          .skip
          (.exit 0)))
        (.seq (.block 1
          (.seq (.region none [
            ⟨(some 12), none, (.op (.mov (.tmp 0)))⟩,
            ⟨(some 13), none, (.op (.mov (.tmp 5)))⟩,
            ⟨(some 14), none, (.op (.index 1 (.tmp 12) (.tmp 13)))⟩,
            ⟨(some 15), none, (.op (.load 1 false (.tmp 14)))⟩,
            ⟨(some 16), none, (.op (.mov (.tmp 1)))⟩,
            ⟨(some 17), none, (.op (.arith .eql (.tmp 15) (.tmp 16)))⟩])
          (.cond (.tmp 17)
            (.seq (.region none [
              ⟨(some 4), none, (.op (.mov (.dat (.lit (.bool true)))))⟩])
            .ret)
            .skip)))
        (.region none [
          ⟨(some 10), none, (.op (.mov (.tmp 5)))⟩,
          ⟨(some 11), none, (.op (.arith .add (.tmp 10) (.dat (.lit (.int .i64 1)))))⟩,
          ⟨(some 5), none, (.op (.mov (.tmp 11)))⟩]))))))
    (.seq (.region none [
      ⟨(some 4), none, (.op (.mov (.dat (.lit (.bool false)))))⟩])
    .ret)))
  res := [.tmp 4]
theorem c47 : CmpF Tryd.prog 47 a47 := chkF_cmp (F := Tryd.f47) (by kernel_rfl) mixed (by kernel_rfl)
/-- slices.Concat(()hansard/api.Word,hansard/api.Word) -/
def a48 : AF where
  nt := 36
  body := (.seq (.region none [
      ⟨(some 2), none, (.op (.mov (.dat (.nil 5))))⟩])
    (.seq (.region none [
      ⟨(some 3), none, (.op (.mov (.dat (.lit (.int .i64 0)))))⟩])
    (.seq (.seq (.region none [
      ⟨(some 9), none, (.op (.mov (.tmp 0)))⟩,
      ⟨(some 10), none, (.op (.len (.tmp 9)))⟩,
      ⟨(some 11), none, (.op (.mov (.dat (.lit (.int .i64 0)))))⟩])
    (.block 0
      (.loop
        (.seq (.region none [
          ⟨(some 12), none, (.op (.arith .lss (.tmp 11) (.tmp 10)))⟩])
        (.seq (.cond (.tmp 12)
          .skip
          (.exit 0))
        (.seq (.block 1
          (.seq (.region none [
            ⟨(some 13), none, (.op (.index 1 (.tmp 9) (.tmp 11)))⟩,
            ⟨(some 14), none, (.op (.load 1 false (.tmp 13)))⟩,
            ⟨(some 5), none, (.op (.mov (.tmp 14)))⟩])
          (.seq (.region none [
            ⟨(some 15), none, (.op (.mov (.tmp 3)))⟩,
            ⟨(some 16), none, (.op (.mov (.tmp 5)))⟩,
            ⟨(some 17), none, (.op (.len (.tmp 16)))⟩,
            ⟨(some 18), none, (.op (.arith .add (.tmp 15) (.tmp 17)))⟩,
            ⟨(some 3), none, (.op (.mov (.tmp 18)))⟩])
          (.seq (.region none [
            ⟨(some 19), none, (.op (.mov (.tmp 3)))⟩,
            ⟨(some 20), none, (.op (.arith .lss (.tmp 19) (.dat (.lit (.int .i64 0)))))⟩])
          (.cond (.tmp 20)
            (.sregion [
              ⟨(some 21), none, (.op (.ifc 9 (.dat (.lit (.string ⟨#[108, 101, 110, 32, 111, 117, 116, 32, 111, 102, 32, 114, 97, 110, 103, 101]⟩)))))⟩,
              ⟨none, none, (.panic (.tmp 21))⟩])
            .skip)))))
        (.region none [
          ⟨(some 22), none, (.op (.arith .add (.tmp 11) (.dat (.lit (.int .i64 1)))))⟩,
          ⟨(some 11), none, (.op (.mov (.tmp 22)))⟩])))))))
    (.seq (.sregion [
      ⟨(some 23), none, (.op (.mov (.tmp 3)))⟩,
      ⟨(some 24), none, (.icall (.dat (.fn (.func 57) [] [])) [(.dat (.nil 5)), (.tmp 23)])⟩,
      ⟨(some 6), none, (.op (.mov (.tmp 24)))⟩])
    (.seq (.seq (.region none [
      ⟨(some 25), none, (.op (.mov (.tmp 0)))⟩,
      ⟨(some 26), none, (.op (.len (.tmp 25)))⟩,
      ⟨(some 27), none, (.op (.mov (.dat (.lit (.int .i64 0)))))⟩])
    (.block 2
      (.loop
        (.seq (.region none [
          ⟨(some 28), none, (.op (.arith .lss (.tmp 27) (.tmp 26)))⟩])
        (.seq (.cond (.tmp 28)
          .skip
          (.exit 2))
        (.seq (.block 3
          (.seq (.region none [
            ⟨(some 29), none, (.op (.index 1 (.tmp 25) (.tmp 27)))⟩,
            ⟨(some 30), none, (.op (.load 1 false (.tmp 29)))⟩,
            ⟨(some 8), none, (.op (.mov (.tmp 30)))⟩])
          (.region none [
            ⟨(some 31), none, (.op (.mov (.tmp 6)))⟩,
            ⟨(some 32), none, (.op (.mov (.tmp 8)))⟩,
            ⟨(some 33), none, (.op (.append 5 64 (.tmp 31) (.tmp 32)))⟩,
            ⟨(some 6), none, (.op (.mov (.tmp 33)))⟩])))
        (.region none [
          ⟨(some 34), none, (.op (.arith .add (.tmp 27) (.dat (.lit (.int .i64 1)))))⟩,
          ⟨(some 27), none, (.op (.mov (.tmp 34)))⟩])))))))
    (.seq (.region none [
      ⟨(some 35), none, (.op (.mov (.tmp 6)))⟩,
      ⟨(some 2), none, (.op (.mov (.tmp 35)))⟩])
    .ret))))))
  res := [.tmp 2]
theorem c48 : CmpF Tryd.prog 48 a48 := chkF_cmp (F := Tryd.f48) (by kernel_rfl) mixed (by kernel_rfl)
/-- slices.Equal(()string,string) -/
def a49 : AF where
  nt := 26
  body := (.seq (.region none [
      ⟨(some 4), none, (.op (.mov (.dat (.lit (.bool false)))))⟩])
    (.seq (.seq (.region none [
      ⟨(some 6), none, (.op (.mov (.tmp 0)))⟩,
      ⟨(some 7), none, (.op (.len (.tmp 6)))⟩,
      ⟨(some 8), none, (.op (.mov (.tmp 1)))⟩,
      ⟨(some 9), none, (.op (.len (.tmp 8)))⟩,
      ⟨(some 10), none, (.op (.arith .neq (.tmp 7) (.tmp 9)))⟩])
    (.cond (.tmp 10)
      (.seq (.region none [
        ⟨(some 4), none, (.op (.mov (.dat (.lit (.bool false)))))⟩])
      .ret)
      .skip))
    (.seq (.seq (.region none [
      ⟨(some 11), none, (.op (.mov (.tmp 0)))⟩,
      ⟨(some 12), none, (.op (.len (.tmp 11)))⟩,
      ⟨(some 13), none, (.op (.mov (.dat (.lit (.int .i64 0)))))⟩])
    (.block 0
      (.loop
        (.seq (.region none [
          ⟨(some 14), none, (.op (.arith .lss (.tmp 13) (.tmp 12)))⟩])
        (.seq (.cond (.tmp 14)
          .skip
          (.exit 0))
        (.seq (.block 1
          (.seq (.region none [
            ⟨(some 15), none, (.op (.mov (.tmp 13)))⟩,
            ⟨(some 5), none, (.op (.mov (.tmp 15)))⟩])
          (.seq (.region (some [[], [], [0, 1], [0, 1, 2], [], [], [4, 5], [4, 5, 6], [0, 1, 2, 3, 4, 5, 6, 7]]) [
            ⟨(some 16), none, (.op (.mov (.tmp 0)))⟩,
            ⟨(some 17), none, (.op (.mov (.tmp 5)))⟩,
            ⟨(some 18), none, (.op (.index 1 (.tmp 16) (.tmp 17)))⟩,
            ⟨(some 19), none, (.op (.load 1 false (.tmp 18)))⟩,
            ⟨(some 20), none, (.op (.mov (.tmp 1)))⟩,
            ⟨(some 21), none, (.op (.mov (.tmp 5)))⟩,
            ⟨(some 22), none, (.op (.index 1 (.tmp 20) (.tmp 21)))⟩,
            ⟨(some 23), none, (.op (.load 1 false (.tmp 22)))⟩,
            ⟨(some 24), none, (.op (.arith .neq (.tmp 19) (.tmp 23)))⟩])
          (.cond (.tmp 24)
            (.seq (.region none [
              ⟨(some 4), none, (.op (.mov (.dat (.lit (.bool false)))))⟩])
            .ret)
            .skip))))
        (.region none [
          ⟨(some 25), none, (.op (.arith .add (.tmp 13) (.dat (.lit (.int .i64 1)))))⟩,
          ⟨(some 13), none, (.op (.mov (.tmp 25)))⟩])))))))
    (.seq (.region none [
      ⟨(some 4), none, (.op (.mov (.dat (.lit (.bool true)))))⟩])
    .ret))))
  res := [.tmp 4]
theorem c49 : CmpF Tryd.prog 49 a49 := chkF_cmp (F := Tryd.f49) (by kernel_rfl) mixed (by kernel_rfl)
/-- slices.Index(()string,string) -/
def a50 : AF where
  nt := 19
  body := (.seq (.region none [
      ⟨(some 4), none, (.op (.mov (.dat (.lit (.int .i64 0)))))⟩])
    (.seq (.seq (.region none [
      ⟨(some 6), none, (.op (.mov (.tmp 0)))⟩,
      ⟨(some 7), none, (.op (.len (.tmp 6)))⟩,
      ⟨(some 8), none, (.op (.mov (.dat (.lit (.int .i64 0)))))⟩])
    (.block 0
      (.loop
        (.seq (.region none [
          ⟨(some 9), none, (.op (.arith .lss (.tmp 8) (.tmp 7)))⟩])
        (.seq (.cond (.tmp 9)
          .skip
          (.exit 0))
        (.seq (.block 1
          (.seq (.region none [
            ⟨(some 10), none, (.op (.mov (.tmp 8)))⟩,
            ⟨(some 5), none, (.op (.mov (.tmp 10)))⟩])
          (.seq (.region none [
            ⟨(some 11), none, (.op (.mov (.tmp 1)))⟩,
            ⟨(some 12), none, (.op (.mov (.tmp 0)))⟩,
            ⟨(some 13), none, (.op (.mov (.tmp 5)))⟩,
            ⟨(some 14), none, (.op (.index 1 (.tmp 12) (.tmp 13)))⟩,
            ⟨(some 15), none, (.op (.load 1 false (.tmp 14)))⟩,
            ⟨(some 16), none, (.op (.arith .eql (.tmp 11) (.tmp 15)))⟩])
          (.cond (.tmp 16)
            (.seq (.region none [
              ⟨(some 17), none, (.op (.mov (.tmp 5)))⟩,
              ⟨(some 4), none, (.op (.mov (.tmp 17)))⟩])
            .ret)
            .skip))))
        (.region none [
          ⟨(some 18), none, (.op (.arith .add (.tmp 8) (.dat (.lit (.int .i64 1)))))⟩,
          ⟨(some 8), none, (.op (.mov (.tmp 18)))⟩])))))))
    (.seq (.region none [
      ⟨(some 4), none, (.op (.mov (.dat (.lit (.int .i64 (-1))))))⟩])
    .ret)))
  res := [.tmp 4]
theorem c50 : CmpF Tryd.prog 50 a50 := chkF_cmp (F := Tryd.f50) (by kernel_rfl) mixed (by kernel_rfl)
/-- hansard/text.Runes -/
def a51 : AF where
  nt := 11
  body := (.seq (.region none [
      ⟨(some 2), none, (.op (.alloc false [.nil 1]))⟩,
      ⟨(some 3), none, (.op (.alloc false [.lit (.int .i64 0)]))⟩])
    (.seq (.sregion [
      ⟨(some 4), none, (.op (.func (.func 58) [] [(.tmp 2), (.tmp 3)]))⟩,
      ⟨none, none, (.defer (.tmp 4) [])⟩])
    (.seq (.seq (.region none [
      ⟨(some 5), none, (.op (.mov (.tmp 0)))⟩,
      ⟨(some 6), none, (.op (.lenS (.tmp 5)))⟩,
      ⟨(some 7), none, (.op (.arith .gtr (.tmp 6) (.dat (.lit (.int .i64 4096)))))⟩])
    (.cond (.tmp 7)
      (.seq (.region none [
        ⟨none, none, (.op (.store 1 (.tmp 2) (.dat (.nil 1))))⟩,
        ⟨none, none, (.op (.store 1 (.tmp 3) (.dat (.lit (.int .i64 2)))))⟩])
      .ret)
      .skip))
    (.seq (.sregion [
      ⟨(some 8), none, (.op (.mov (.tmp 0)))⟩,
      ⟨(some 9), none, (.icall (.dat (.fn (.func 60) [] [])) [(.tmp 8)])⟩,
      ⟨(some 10), none, (.icall (.dat (.fn (.func 59) [] [])) [(.tmp 9)])⟩,
      ⟨none, none, (.op (.store 1 (.tmp 2) (.tmp 10)))⟩,
      ⟨none, none, (.op (.store 1 (.tmp 3) (.dat (.lit (.int .i64 0)))))⟩])
    .ret))))
  res := [.cell 2 1 false, .cell 3 1 false]
theorem c51 : CmpF Tryd.prog 51 a51 := chkF_cmp (F := Tryd.f51) (by kernel_rfl) mixed (by kernel_rfl)
/-- slices.ContainsFunc(()int,int) -/
def a52 : AF where
  nt := 9
  body := (.seq (.region none [
      ⟨(some 4), none, (.op (.mov (.dat (.lit (.bool false)))))⟩])
    (.seq (.region none [
      ⟨(some 5), none, (.op (.mov (.tmp 0)))⟩,
      ⟨(some 6), none, (.op (.mov (.tmp 1)))⟩,
      ⟨(some 7), none, (.call (.dat (.fn (.func 61) [] [])) [(.tmp 5), (.tmp 6)])⟩,
      ⟨(some 8), none, (.op (.arith .geq (.tmp 7) (.dat (.lit (.int .i64 0)))))⟩,
      ⟨(some 4), none, (.op (.mov (.tmp 8)))⟩])
    .ret))
  res := [.tmp 4]
theorem c52 : CmpF Tryd.prog 52 a52 := chkF_cmp (F := Tryd.f52) (by kernel_rfl) mixed (by kernel_rfl)
/-- hansard/text.classes -/
def a53 : AF where
  nt := 20
  body := (.seq (.region none [
      ⟨(some 0), none, (.op (.mov (.dat (.nil 2))))⟩])
    (.seq (.region none [
      ⟨(some 1), none, (.op (.build [.lit (.int .i64 0), .lit (.nilFunc)] [(0, 1, (.dat (.lit (.int .i64 1)))), (1, 1, (.dat (.fn (.func 62) [] [])))]))⟩,
      ⟨(some 2), none, (.op (.build [.lit (.int .i64 0), .lit (.int .i64 0)] [(0, 1, (.dat (.lit (.int .i64 48)))), (1, 1, (.dat (.lit (.int .i64 57))))]))⟩,
      ⟨(some 3), none, (.op (.mkslice 2 [(.tmp 2)]))⟩,
      ⟨(some 4), none, (.call (.dat (.fn (.func 63) [] [])) [(.tmp 3)])⟩,
      ⟨(some 5), none, (.op (.build [.lit (.int .i64 0), .lit (.nilFunc)] [(0, 1, (.dat (.lit (.int .i64 2)))), (1, 1, (.tmp 4))]))⟩,
      ⟨(some 6), none, (.op (.build [.lit (.int .i64 0), .lit (.int .i64 0)] [(0, 1, (.dat (.lit (.int .i64 65)))), (1, 1, (.dat (.lit (.int .i64 90))))]))⟩,
      ⟨(some 7), none, (.op (.build [.lit (.int .i64 0), .lit (.int .i64 0)] [(0, 1, (.dat (.lit (.int .i64 97)))), (1, 1, (.dat (.lit (.int .i64 122))))]))⟩,
      ⟨(some 8), none, (.op (.build [.lit (.int .i64 0), .lit (.int .i64 0)] [(0, 1, (.dat (.lit (.int .i64 192)))), (1, 1, (.dat (.lit (.int .i64 214))))]))⟩,
      ⟨(some 9), none, (.op (.build [.lit (.int .i64 0), .lit (.int .i64 0)] [(0, 1, (.dat (.lit (.int .i64 216)))), (1, 1, (.dat (.lit (.int .i64 246))))]))⟩,
      ⟨(some 10), none, (.op (.build [.lit (.int .i64 0), .lit (.int .i64 0)] [(0, 1, (.dat (.lit (.int .i64 248)))), (1, 1, (.dat (.lit (.int .i64 591))))]))⟩,
      ⟨(some 11), none, (.op (.build [.lit (.int .i64 0), .lit (.int .i64 0)] [(0, 1, (.dat (.lit (.int .i64 880)))), (1, 1, (.dat (.lit (.int .i64 1279))))]))⟩,
      ⟨(some 12), none, (.op (.mkslice 2 [(.tmp 6), (.tmp 7), (.tmp 8), (.tmp 9), (.tmp 10), (.tmp 11)]))⟩,
      ⟨(some 13), none, (.call (.dat (.fn (.func 63) [] [])) [(.tmp 12)])⟩,
      ⟨(some 14), none, (.op (.build [.lit (.int .i64 0), .lit (.nilFunc)] [(0, 1, (.dat (.lit (.int .i64 3)))), (1, 1, (.tmp 13))]))⟩,
      ⟨(some 15), none, (.op (.build [.lit (.int .i64 0), .lit (.int .i64 0)] [(0, 1, (.dat (.lit (.int .i64 1424)))), (1, 1, (.dat (.lit (.int .i64 1983))))]))⟩,
      ⟨(some 16), none, (.op (.mkslice 2 [(.tmp 15)]))⟩,
      ⟨(some 17), none, (.call (.dat (.fn (.func 63) [] [])) [(.tmp 16)])⟩,
      ⟨(some 18), none, (.op (.build [.lit (.int .i64 0), .lit (.nilFunc)] [(0, 1, (.dat (.lit (.int .i64 4)))), (1, 1, (.tmp 17))]))⟩,
      ⟨(some 19), none, (.op (.mkslice 2 [(.tmp 1), (.tmp 5), (.tmp 14), (.tmp 18)]))⟩,
      ⟨(some 0), none, (.op (.mov (.tmp 19)))⟩])
    .ret))
  res := [.tmp 0]
theorem c53 : CmpF Tryd.prog 53 a53 := chkF_cmp (F := Tryd.f53) (by kernel_rfl) mixed (by kernel_rfl)
/-- slices.IndexFunc(()string,string) -/
def a54 : AF where
  nt := 19
  body := (.seq (.region none [
      ⟨(some 4), none, (.op (.mov (.dat (.lit (.int .i64 0)))))⟩])
    (.seq (.seq (.region none [
      ⟨(some 6), none, (.op (.mov (.tmp 0)))⟩,
      ⟨(some 7), none, (.op (.len (.tmp 6)))⟩,
      ⟨(some 8), none, (.op (.mov (.dat (.lit (.int .i64 0)))))⟩])
    (.block 0
      (.loop
        (.seq (.region none [
          ⟨(some 9), none, (.op (.arith .lss (.tmp 8) (.tmp 7)))⟩])
        (.seq (.cond (.tmp 9)
          .skip
          (.exit 0))
        (.seq (.block 1
          (.seq (.region none [
            ⟨(some 10), none, (.op (.mov (.tmp 8)))⟩,
            ⟨(some 5), none, (.op (.mov (.tmp 10)))⟩])
          (.seq (.sregion [
            ⟨(some 11), none, (.op (.mov (.tmp 1)))⟩,
            ⟨(some 12), none, (.op (.mov (.tmp 0)))⟩,
            ⟨(some 13), none, (.op (.mov (.tmp 5)))⟩,
            ⟨(some 14), none, (.op (.index 1 (.tmp 12) (.tmp 13)))⟩,
            ⟨(some 15), none, (.op (.load 1 false (.tmp 14)))⟩,
            ⟨(some 16), none, (.icall (.tmp 11) [(.tmp 15)])⟩])
          (.cond (.tmp 16)
            (.seq (.region none [
              ⟨(some 17), none, (.op (.mov (.tmp 5)))⟩,
              ⟨(some 4), none, (.op (.mov (.tmp 17)))⟩])
            .ret)
            .skip))))
        (.region none [
          ⟨(some 18), none, (.op (.arith .add (.tmp 8) (.dat (.lit (.int .i64 1)))))⟩,
          ⟨(some 8), none, (.op (.mov (.tmp 18)))⟩])))))))
    (.seq (.region none [
      ⟨(some 4), none, (.op (.mov (.dat (.lit (.int .i64 (-1))))))⟩])
    .ret)))
  res := [.tmp 4]
theorem c54 : CmpF Tryd.prog 54 a54 := chkF_cmp (F := Tryd.f54) (by kernel_rfl) mixed (by kernel_rfl)
/-- hansard/hansardref09.Runes -/
def a55 : AF where
  nt := 29
  body := (.seq (.region none [
      ⟨(some 2), none, (.op (.mov (.dat (.nil 1))))⟩,
      ⟨(some 3), none, (.op (.mov (.dat (.lit (.int .i64 0)))))⟩])
    (.seq (.seq (.region none [
      ⟨(some 7), none, (.op (.mov (.tmp 0)))⟩,
      ⟨(some 8), none, (.op (.lenS (.tmp 7)))⟩,
      ⟨(some 9), none, (.op (.arith .gtr (.tmp 8) (.dat (.lit (.int .i64 4096)))))⟩])
    (.cond (.tmp 9)
      (.seq (.region none [
        ⟨(some 2), none, (.op (.mov (.dat (.nil 1))))⟩,
        ⟨(some 3), none, (.op (.mov (.dat (.lit (.int .i64 2)))))⟩])
      .ret)
      .skip))
    (.seq (.region none [
      ⟨(some 10), none, (.op (.mkslice 1 []))⟩,
      ⟨(some 4), none, (.op (.mov (.tmp 10)))⟩])
    (.seq (.block 0
      (.loop
        (.seq (.seq (.region none [
          ⟨(some 11), none, (.op (.mov (.tmp 0)))⟩,
          ⟨(some 12), none, (.op (.lenS (.tmp 11)))⟩,
          ⟨(some 13), none, (.op (.arith .gtr (.tmp 12) (.dat (.lit (.int .i64 0)))))⟩])
        (.cond (.tmp 13)
          .skip
          (.exit 0)))
        (.block 1
          (.seq (.region none [
            ⟨(some 15), none, (.op (.mov (.tmp 0)))⟩,
            ⟨(some 16), none, (.call (.dat (.fn (.func 64) [] [])) [(.tmp 15)])⟩,
            ⟨(some 14), none, (.op (.mov (.tmp 16)))⟩,
            ⟨(some 17), none, (.op (.extract (.tmp 14) 0))⟩,
            ⟨(some 18), none, (.op (.extract (.tmp 14) 1))⟩,
            ⟨(some 5), none, (.op (.mov (.tmp 17)))⟩,
            ⟨(some 6), none, (.op (.mov (.tmp 18)))⟩])
          (.seq (.seq (.region none [
            ⟨(some 19), none, (.op (.mov (.tmp 6)))⟩,
            ⟨(some 20), none, (.op (.arith .eql (.tmp 19) (.dat (.lit (.int .i64 0)))))⟩])
          (.cond (.tmp 20)
            (.seq (.region none [
              ⟨(some 2), none, (.op (.mov (.dat (.nil 1))))⟩,
              ⟨(some 3), none, (.op (.mov (.dat (.lit (.int .i64 90)))))⟩])
            .ret)
            .skip))
          (.seq (.region none [
            ⟨(some 21), none, (.op (.mov (.tmp 4)))⟩,
            ⟨(some 22), none, (.op (.mov (.tmp 5)))⟩,
            ⟨(some 23), none, (.op (.mkslice 1 [(.tmp 22)]))⟩,
            ⟨(some 24), none, (.op (.append 1 8 (.tmp 21) (.tmp 23)))⟩,
            ⟨(some 4), none, (.op (.mov (.tmp 24)))⟩])
          (.region none [
            ⟨(some 25), none, (.op (.mov (.tmp 0)))⟩,
            ⟨(some 26), none, (.op (.mov (.tmp 6)))⟩,
            ⟨(some 27), none, (.op (.sliceS (.tmp 25) (some (.tmp 26)) none))⟩,
            ⟨(some 0), none, (.op (.mov (.tmp 27)))⟩]))))))))
    (.seq (.region none [
      ⟨(some 28), none, (.op (.mov (.tmp 4)))⟩,
      ⟨(some 2), none, (.op (.mov (.tmp 28)))⟩,
      ⟨(some 3), none, (.op (.mov (.dat (.lit (.int .i64 0)))))⟩])
    .ret)))))
  res := [.tmp 2, .tmp 3]
theorem c55 : CmpF Tryd.prog 55 a55 := chkF_cmp (F := Tryd.f55) (by kernel_rfl) mixed (by kernel_rfl)
/-- hansard/hansardref09.Space -/
def a56 : AF where
  nt := 12
  body := (.seq (.region none [
      ⟨(some 2), none, (.op (.mov (.dat (.lit (.bool false)))))⟩])
    (.seq (.region none [
      ⟨(some 6), none, (.op (.mov (.tmp 0)))⟩,
      ⟨(some 7), none, (.call (.dat (.fn (.func 65) [] [])) [(.tmp 6)])⟩,
      ⟨(some 5), none, (.op (.mov (.tmp 7)))⟩,
      ⟨(some 8), none, (.op (.extract (.tmp 5) 0))⟩,
      ⟨(some 9), none, (.op (.extract (.tmp 5) 1))⟩,
      ⟨(some 3), none, (.op (.mov (.tmp 8)))⟩,
      ⟨(some 4), none, (.op (.mov (.tmp 9)))⟩])
    (.seq (.region none [
      ⟨(some 10), none, (.op (.mov (.tmp 3)))⟩,
      ⟨(some 11), none, (.op (.arith .eql (.tmp 10) (.dat (.lit (.int .i64 1)))))⟩,
      ⟨(some 2), none, (.op (.mov (.tmp 11)))⟩])
    .ret)))
  res := [.tmp 2]
theorem c56 : CmpF Tryd.prog 56 a56 := chkF_cmp (F := Tryd.f56) (by kernel_rfl) mixed (by kernel_rfl)
/-- slices.Grow(()hansard/api.Word,hansard/api.Word) -/
def a57 : AF where
  nt := 27
  body := (.seq (.region none [
      ⟨(some 4), none, (.op (.mov (.dat (.nil 5))))⟩])
    (.seq (.seq (.region none [
      ⟨(some 5), none, (.op (.mov (.tmp 1)))⟩,
      ⟨(some 6), none, (.op (.arith .lss (.tmp 5) (.dat (.lit (.int .i64 0)))))⟩])
    (.cond (.tmp 6)
      (.sregion [
        ⟨(some 7), none, (.op (.ifc 9 (.dat (.lit (.string ⟨#[99, 97, 110, 110, 111, 116, 32, 98, 101, 32, 110, 101, 103, 97, 116, 105, 118, 101]⟩)))))⟩,
        ⟨none, none, (.panic (.tmp 7))⟩])
      .skip))
    (.seq (.seq (.region none [
      ⟨(some 8), none, (.op (.mov (.tmp 1)))⟩,
      ⟨(some 9), none, (.op (.mov (.tmp 0)))⟩,
      ⟨(some 10), none, (.op (.ext .capNil [(.tmp 9)]))⟩,
      ⟨(some 11), none, (.op (.mov (.tmp 0)))⟩,
      ⟨(some 12), none, (.op (.len (.tmp 11)))⟩,
      ⟨(some 13), none, (.op (.arith .sub (.tmp 10) (.tmp 12)))⟩,
      ⟨(some 14), none, (.op (.arith .sub (.tmp 8) (.tmp 13)))⟩,
      ⟨(some 1), none, (.op (.mov (.tmp 14)))⟩])
    (.seq (.region none [
      ⟨(some 15), none, (.op (.mov (.tmp 1)))⟩,
      ⟨(some 16), none, (.op (.arith .gtr (.tmp 15) (.dat (.lit (.int .i64 0)))))⟩])
    (.cond (.tmp 16)
      (.region none [
        ⟨(some 17), none, (.op (.mov (.tmp 0)))⟩,
        ⟨(some 18), none, (.op (.mov (.tmp 0)))⟩,
        ⟨(some 19), none, (.op (.ext .capNil [(.tmp 18)]))⟩,
        ⟨(some 20), none, (.op (.slice 5 (.tmp 17) none (some (.tmp 19))))⟩,
        ⟨(some 21), none, (.op (.mov (.tmp 1)))⟩,
        ⟨(some 22), none, (.op (.ext (.appendN 5 64) [(.tmp 20), (.tmp 21)]))⟩,
        ⟨(some 23), none, (.op (.mov (.tmp 0)))⟩,
        ⟨(some 24), none, (.op (.len (.tmp 23)))⟩,
        ⟨(some 25), none, (.op (.slice 5 (.tmp 22) none (some (.tmp 24))))⟩,
        ⟨(some 0), none, (.op (.mov (.tmp 25)))⟩])
      .skip)))
    (.seq (.region none [
      ⟨(some 26), none, (.op (.mov (.tmp 0)))⟩,
      ⟨(some 4), none, (.op (.mov (.tmp 26)))⟩])
    .ret))))
  res := [.tmp 4]
theorem c57 : CmpF Tryd.prog 57 a57 := chkF_cmp (F := Tryd.f57) (by kernel_rfl) mixed (by kernel_rfl)
/-- hansard/text.Runes$1 -/
def a58 : AR where
  nt := 16
  ta := 5
  tb := 2
  rest := (.seq (.region none [
      ⟨(some 6), none, (.op (.mov (.tmp 2)))⟩,
      ⟨(some 7), none, (.op (.ext (.isNil true) [(.tmp 6)]))⟩])
    (.cond (.tmp 7)
      (.seq (.seq (.region none [
        ⟨(some 9), none, (.op (.mov (.tmp 2)))⟩,
        ⟨(some 10), none, (.op (.ext (.tassert 80 (.agg [])) [(.tmp 9)]))⟩,
        ⟨(some 8), none, (.op (.mov (.tmp 10)))⟩,
        ⟨(some 11), none, (.op (.extract (.tmp 8) 0))⟩,
        ⟨(some 12), none, (.op (.extract (.tmp 8) 1))⟩,
        ⟨(some 3), none, (.op (.alloc true []))⟩,
        ⟨none, none, (.op (.store 0 (.tmp 3) (.tmp 11)))⟩,
        ⟨(some 4), none, (.op (.mov (.tmp 12)))⟩])
      (.seq (.region none [
        ⟨(some 13), none, (.op (.mov (.tmp 4)))⟩,
        ⟨(some 14), none, (.op (.not (.tmp 13)))⟩])
      (.cond (.tmp 14)
        (.sregion [
          ⟨(some 15), none, (.op (.mov (.tmp 2)))⟩,
          ⟨none, none, (.panic (.tmp 15))⟩])
        .skip)))
      (.region none [
        ⟨none, none, (.op (.store 1 (.tmp 0) (.dat (.nil 1))))⟩,
        ⟨none, none, (.op (.store 1 (.tmp 1) (.dat (.lit (.int .i64 90)))))⟩]))
      .skip))
  res := []
theorem c58 : CmpRF Tryd.prog 58 a58 := chkRF_cmp (F := Tryd.f58) (by kernel_rfl) mixed (by kernel_rfl)
/-- slices.Collect(int) -/
def a59 : AF where
  nt := 5
  body := (.seq (.region none [
      ⟨(some 2), none, (.op (.mov (.dat (.nil 1))))⟩])
    (.seq (.sregion [
      ⟨(some 3), none, (.op (.mov (.tmp 0)))⟩,
      ⟨(some 4), none, (.icall (.dat (.fn (.func 66) [] [])) [(.dat (.nil 1)), (.tmp 3)])⟩,
      ⟨(some 2), none, (.op (.mov (.tmp 4)))⟩])
    .ret))
  res := [.tmp 2]
theorem c59 : CmpF Tryd.prog 59 a59 := chkF_cmp (F := Tryd.f59) (by kernel_rfl) mixed (by kernel_rfl)
/-- hansard/text.points -/
def a60 : AF where
  nt := 4
  body := (.seq (.region none [
      ⟨(some 1), none, (.op (.box false (.tmp 0)))⟩,
      ⟨(some 2), none, (.op (.mov (.dat (.lit (.nilFunc)))))⟩])
    (.seq (.region none [
      ⟨(some 3), none, (.op (.func (.func 67) [] [(.tmp 1)]))⟩,
      ⟨(some 2), none, (.op (.mov (.tmp 3)))⟩])
    .ret))
  res := [.tmp 2]
theorem c60 : CmpF Tryd.prog 60 a60 := chkF_cmp (F := Tryd.f60) (by kernel_rfl) mixed (by kernel_rfl)
/-- slices.IndexFunc(()int,int) -/
def a61 : AF where
  nt := 19
  body := (.seq (.region none [
      ⟨(some 4), none, (.op (.mov (.dat (.lit (.int .i64 0)))))⟩])
    (.seq (.seq (.region none [
      ⟨(some 6), none, (.op (.mov (.tmp 0)))⟩,
      ⟨(some 7), none, (.op (.len (.tmp 6)))⟩,
      ⟨(some 8), none, (.op (.mov (.dat (.lit (.int .i64 0)))))⟩])
    (.block 0
      (.loop
        (.seq (.region none [
          ⟨(some 9), none, (.op (.arith .lss (.tmp 8) (.tmp 7)))⟩])
        (.seq (.cond (.tmp 9)
          .skip
          (.exit 0))
        (.seq (.block 1
          (.seq (.region none [
            ⟨(some 10), none, (.op (.mov (.tmp 8)))⟩,
            ⟨(some 5), none, (.op (.mov (.tmp 10)))⟩])
          (.seq (.region none [
            ⟨(some 11), none, (.op (.mov (.tmp 1)))⟩,
            ⟨(some 12), none, (.op (.mov (.tmp 0)))⟩,
            ⟨(some 13), none, (.op (.mov (.tmp 5)))⟩,
            ⟨(some 14), none, (.op (.index 1 (.tmp 12) (.tmp 13)))⟩,
            ⟨(some 15), none, (.op (.load 1 false (.tmp 14)))⟩,
            ⟨(some 16), none, (.call (.tmp 11) [(.tmp 15)])⟩])
          (.cond (.tmp 16)
            (.seq (.region none [
              ⟨(some 17), none, (.op (.mov (.tmp 5)))⟩,
              ⟨(some 4), none, (.op (.mov (.tmp 17)))⟩])
            .ret)
            .skip))))
        (.region none [
          ⟨(some 18), none, (.op (.arith .add (.tmp 8) (.dat (.lit (.int .i64 1)))))⟩,
          ⟨(some 8), none, (.op (.mov (.tmp 18)))⟩])))))))
    (.seq (.region none [
      ⟨(some 4), none, (.op (.mov (.dat (.lit (.int .i64 (-1))))))⟩])
    .ret)))
  res := [.tmp 4]
theorem c61 : CmpF Tryd.prog 61 a61 := chkF_cmp (F := Tryd.f61) (by kernel_rfl) mixed (by kernel_rfl)
/-- hansard/text.classes$1 -/
def a62 : AF where
  nt := 17
  body := (.seq (.region none [
      ⟨(some 2), none, (.op (.mov (.dat (.lit (.bool false)))))⟩])
    (.seq (.region none [
      ⟨(some 3), none, (.op (.mov (.tmp 0)))⟩,
      ⟨(some 4), none, (.op (.arith .eql (.tmp 3) (.dat (.lit (.int .i64 32)))))⟩,
      ⟨(some 5), none, (.op (.mov (.tmp 4)))⟩,
      ⟨(some 6), (some (5, false)), (.op (.mov (.tmp 0)))⟩,
      ⟨(some 7), (some (5, false)), (.op (.arith .eql (.tmp 6) (.dat (.lit (.int .i64 9)))))⟩,
      ⟨(some 8), none, (.op (.pick (.tmp 5) (.dat (.lit (.bool true))) (.tmp 7)))⟩,
      ⟨(some 9), none, (.op (.mov (.tmp 8)))⟩,
      ⟨(some 10), (some (9, false)), (.op (.mov (.tmp 0)))⟩,
      ⟨(some 11), (some (9, false)), (.op (.arith .eql (.tmp 10) (.dat (.lit (.int .i64 10)))))⟩,
      ⟨(some 12), none, (.op (.pick (.tmp 9) (.dat (.lit (.bool true))) (.tmp 11)))⟩,
      ⟨(some 13), none, (.op (.mov (.tmp 12)))⟩,
      ⟨(some 14), (some (13, false)), (.op (.mov (.tmp 0)))⟩,
      ⟨(some 15), (some (13, false)), (.op (.arith .eql (.tmp 14) (.dat (.lit (.int .i64 13)))))⟩,
      ⟨(some 16), none, (.op (.pick (.tmp 13) (.dat (.lit (.bool true))) (.tmp 15)))⟩,
      ⟨(some 2), none, (.op (.mov (.tmp 16)))⟩])
    .ret))
  res := [.tmp 2]
theorem c62 : CmpF Tryd.prog 62 a62 := chkF_cmp (F := Tryd.f62) (by kernel_rfl) mixed (by kernel_rfl)
/-- hansard/text.among -/
def a63 : AF where
  nt := 4
  body := (.seq (.region none [
      ⟨(some 1), none, (.op (.box false (.tmp 0)))⟩,
      ⟨(some 2), none, (.op (.mov (.dat (.lit (.nilFunc)))))⟩])
    (.seq (.region none [
      ⟨(some 3), none, (.op (.func (.func 69) [] [(.tmp 1)]))⟩,
      ⟨(some 2), none, (.op (.mov (.tmp 3)))⟩])
    .ret))
  res := [.tmp 2]
theorem c63 : CmpF Tryd.prog 63 a63 := chkF_cmp (F := Tryd.f63) (by kernel_rfl) mixed (by kernel_rfl)
/-- hansard/hansardref09.first -/
def a64 : AF where
  nt := 57
  body := (.seq (.region none [
      ⟨(some 2), none, (.op (.mov (.dat (.lit (.int .i64 0)))))⟩,
      ⟨(some 3), none, (.op (.mov (.dat (.lit (.int .i64 0)))))⟩])
    (.seq (.region none [
      ⟨(some 9), none, (.op (.mov (.tmp 0)))⟩,
      ⟨(some 10), none, (.op (.ext .strIdx [(.tmp 9), (.dat (.lit (.int .i64 0)))]))⟩,
      ⟨(some 11), none, (.op (.conv .i64 (.tmp 10)))⟩,
      ⟨(some 12), none, (.call (.dat (.fn (.func 72) [] [])) [(.tmp 11)])⟩,
      ⟨(some 8), none, (.op (.mov (.tmp 12)))⟩,
      ⟨(some 13), none, (.op (.extract (.tmp 8) 0))⟩,
      ⟨(some 14), none, (.op (.extract (.tmp 8) 1))⟩,
      ⟨(some 4), none, (.op (.mov (.tmp 13)))⟩,
      ⟨(some 5), none, (.op (.mov (.tmp 14)))⟩])
    (.seq (.seq (.region none [
      ⟨(some 15), none, (.op (.mov (.tmp 4)))⟩,
      ⟨(some 16), none, (.op (.arith .eql (.tmp 15) (.dat (.lit (.int .i64 0)))))⟩,
      ⟨(some 17), none, (.op (.mov (.tmp 16)))⟩,
      ⟨(some 18), (some (17, false)), (.op (.mov (.tmp 4)))⟩,
      ⟨(some 19), (some (17, false)), (.op (.mov (.tmp 0)))⟩,
      ⟨(some 20), (some (17, false)), (.op (.lenS (.tmp 19)))⟩,
      ⟨(some 21), (some (17, false)), (.op (.arith .gtr (.tmp 18) (.tmp 20)))⟩,
      ⟨(some 22), none, (.op (.pick (.tmp 17) (.dat (.lit (.bool true))) (.tmp 21)))⟩])
    (.cond (.tmp 22)
      (.seq (.region none [
        ⟨(some 2), none, (.op (.mov (.dat (.lit (.int .i64 0)))))⟩,
        ⟨(some 3), none, (.op (.mov (.dat (.lit (.int .i64 0)))))⟩])
      .ret)
      .skip))
    (.seq (.seq (.region none [
      ⟨(some 6), none, (.op (.mov (.dat (.lit (.int .i64 1)))))⟩])
    (.block 0
      (.loop
        (.seq (.seq (.region none [
          ⟨(some 23), none, (.op (.mov (.tmp 6)))⟩,
          ⟨(some 24), none, (.op (.mov (.tmp 4)))⟩,
          ⟨(some 25), none, (.op (.arith .lss (.tmp 23) (.tmp 24)))⟩])
        (.cond (.tmp 25)
          .skip
          (.exit 0)))
        (.seq (.block 1
          (.seq (.region none [
            ⟨(some 28), none, (.op (.mov (.tmp 0)))⟩,
            ⟨(some 29), none, (.op (.mov (.tmp 6)))⟩,
            ⟨(some 30), none, (.op (.ext .strIdx [(.tmp 28), (.tmp 29)]))⟩,
            ⟨(some 31), none, (.op (.conv .i64 (.tmp 30)))⟩,
            ⟨(some 7), none, (.op (.mov (.tmp 31)))⟩])
          (.seq (.seq (.region none [
            ⟨(some 32), none, (.op (.mov (.tmp 7)))⟩,
            ⟨(some 33), none, (.op (.arith .lss (.tmp 32) (.dat (.lit (.int .i64 128)))))⟩,
            ⟨(some 34), none, (.op (.mov (.tmp 33)))⟩,
            ⟨(some 35), (some (34, false)), (.op (.mov (.tmp 7)))⟩,
            ⟨(some 36), (some (34, false)), (.op (.arith .geq (.tmp 35) (.dat (.lit (.int .i64 192)))))⟩,
            ⟨(some 37), none, (.op (.pick (.tmp 34) (.dat (.lit (.bool true))) (.tmp 36)))⟩])
          (.cond (.tmp 37)
            (.seq (.region none [
              ⟨(some 2), none, (.op (.mov (.dat (.lit (.int .i64 0)))))⟩,
              ⟨(some 3), none, (.op (.mov (.dat (.lit (.int .i64 0)))))⟩])
            .ret)
            .skip))
          (.region none [
            ⟨(some 38), none, (.op (.mov (.tmp 5)))⟩,
            ⟨(some 39), none, (.op (.arith .mul (.tmp 38) (.dat (.lit (.int .i64 64)))))⟩,
            ⟨(some 40), none, (.op (.mov (.tmp 7)))⟩,
            ⟨(some 41), none, (.op (.arith .add (.tmp 39) (.tmp 40)))⟩,
            ⟨(some 42), none, (.op (.arith .sub (.tmp 41) (.dat (.lit (.int .i64 128)))))⟩,
            ⟨(some 5), none, (.op (.mov (.tmp 42)))⟩]))))
        (.region none [
          ⟨(some 26), none, (.op (.mov (.tmp 6)))⟩,
          ⟨(some 27), none, (.op (.arith .add (.tmp 26) (.dat (.lit (.int .i64 1)))))⟩,
          ⟨(some 6), none, (.op (.mov (.tmp 27)))⟩]))))))
    (.seq (.seq (.region (some [[], [0], [0, 1], [0, 1, 2], [0, 1, 2, 3], [0, 1, 2, 3, 4], [0, 1, 2, 3, 4, 5], [0, 1, 2, 3], [0, 1, 2, 3], [0, 1, 2, 3, 7, 8], [0, 1, 2, 3, 4, 5, 6, 7, 8, 9], [0, 1, 2, 3, 4, 5, 6, 7, 8, 9, 10]]) [
      ⟨(some 43), none, (.op (.mov (.tmp 5)))⟩,
      ⟨(some 44), none, (.call (.dat (.fn (.func 73) [] [])) [(.tmp 43)])⟩,
      ⟨(some 45), none, (.op (.not (.tmp 44)))⟩,
      ⟨(some 46), none, (.op (.mov (.tmp 45)))⟩,
      ⟨(some 47), (some (46, false)), (.op (.mov (.tmp 5)))⟩,
      ⟨(some 48), (some (46, false)), (.call (.dat (.fn (.func 74) [] [])) [(.tmp 47)])⟩,
      ⟨(some 49), (some (46, false)), (.op (.ext .bytesStr [(.tmp 48)]))⟩,
      ⟨(some 50), (some (46, false)), (.op (.mov (.tmp 0)))⟩,
      ⟨(some 51), (some (46, false)), (.op (.mov (.tmp 4)))⟩,
      ⟨(some 52), (some (46, false)), (.op (.sliceS (.tmp 50) none (some (.tmp 51))))⟩,
      ⟨(some 53), (some (46, false)), (.op (.arith .neq (.tmp 49) (.tmp 52)))⟩,
      ⟨(some 54), none, (.op (.pick (.tmp 46) (.dat (.lit (.bool true))) (.tmp 53)))⟩])
    (.cond (.tmp 54)
      (.seq (.region none [
        ⟨(some 2), none, (.op (.mov (.dat (.lit (.int .i64 0)))))⟩,
        ⟨(some 3), none, (.op (.mov (.dat (.lit (.int .i64 0)))))⟩])
      .ret)
      .skip))
    (.seq (.region none [
      ⟨(some 55), none, (.op (.mov (.tmp 5)))⟩,
      ⟨(some 56), none, (.op (.mov (.tmp 4)))⟩,
      ⟨(some 2), none, (.op (.mov (.tmp 55)))⟩,
      ⟨(some 3), none, (.op (.mov (.tmp 56)))⟩])
    .ret))))))
  res := [.tmp 2, .tmp 3]
theorem c64 : CmpF Tryd.prog 64 a64 := chkF_cmp (F := Tryd.f64) (by kernel_rfl) mixed (by kernel_rfl)
/-- hansard/hansardref09.Kind -/
def a65 : AF where
  nt := 76
  body := (.seq (.region none [
      ⟨(some 2), none, (.op (.mov (.dat (.lit (.int .i64 0)))))⟩,
      ⟨(some 3), none, (.op (.mov (.dat (.lit (.int .i64 0)))))⟩])
    (.seq (.block 0
      (.seq (.region none [
        ⟨(some 5), none, (.op (.mov (.tmp 0)))⟩,
        ⟨(some 6), none, (.call (.dat (.fn (.func 73) [] [])) [(.tmp 5)])⟩,
        ⟨(some 7), none, (.op (.not (.tmp 6)))⟩,
        ⟨(some 4), none, (.op (.mov (.tmp 7)))⟩])
      (.cond (.tmp 4)
        (.seq (.region none [
          ⟨(some 2), none, (.op (.mov (.dat (.lit (.int .i64 0)))))⟩,
          ⟨(some 3), none, (.op (.mov (.dat (.lit (.int .i64 90)))))⟩])
        .ret)
        (.seq (.region none [
          ⟨(some 9), none, (.op (.mov (.tmp 0)))⟩,
          ⟨(some 10), none, (.op (.arith .eql (.tmp 9) (.dat (.lit (.int .i64 9)))))⟩,
          ⟨(some 11), none, (.op (.mov (.tmp 10)))⟩,
          ⟨(some 12), (some (11, false)), (.op (.mov (.tmp 0)))⟩,
          ⟨(some 13), (some (11, false)), (.op (.arith .eql (.tmp 12) (.dat (.lit (.int .i64 10)))))⟩,
          ⟨(some 14), none, (.op (.pick (.tmp 11) (.dat (.lit (.bool true))) (.tmp 13)))⟩,
          ⟨(some 15), none, (.op (.mov (.tmp 14)))⟩,
          ⟨(some 16), (some (15, false)), (.op (.mov (.tmp 0)))⟩,
          ⟨(some 17), (some (15, false)), (.op (.arith .eql (.tmp 16) (.dat (.lit (.int .i64 13)))))⟩,
          ⟨(some 18), none, (.op (.pick (.tmp 15) (.dat (.lit (.bool true))) (.tmp 17)))⟩,
          ⟨(some 19), none, (.op (.mov (.tmp 18)))⟩,
          ⟨(some 20), (some (19, false)), (.op (.mov (.tmp 0)))⟩,
          ⟨(some 21), (some (19, false)), (.op (.arith .eql (.tmp 20) (.dat (.lit (.int .i64 32)))))⟩,
          ⟨(some 22), none, (.op (.pick (.tmp 19) (.dat (.lit (.bool true))) (.tmp 21)))⟩,
          ⟨(some 8), none, (.op (.mov (.tmp 22)))⟩])
        (.cond (.tmp 8)
          (.seq (.region none [
            ⟨(some 2), none, (.op (.mov (.dat (.lit (.int .i64 1)))))⟩,
            ⟨(some 3), none, (.op (.mov (.dat (.lit (.int .i64 0)))))⟩])
          .ret)
          (.seq (.region none [
            ⟨(some 24), none, (.op (.mov (.tmp 0)))⟩,
            ⟨(some 25), none, (.op (.arith .geq (.tmp 24) (.dat (.lit (.int .i64 48)))))⟩,
            ⟨(some 26), none, (.op (.mov (.tmp 25)))⟩,
            ⟨(some 27), (some (26, true)), (.op (.mov (.tmp 0)))⟩,
            ⟨(some 28), (some (26, true)), (.op (.arith .leq (.tmp 27) (.dat (.lit (.int .i64 57)))))⟩,
            ⟨(some 29), none, (.op (.pick (.tmp 26) (.tmp 28) (.dat (.lit (.bool false)))))⟩,
            ⟨(some 23), none, (.op (.mov (.tmp 29)))⟩])
          (.cond (.tmp 23)
            (.seq (.region none [
              ⟨(some 2), none, (.op (.mov (.dat (.lit (.int .i64 2)))))⟩,
              ⟨(some 3), none, (.op (.mov (.dat (.lit (.int .i64 0)))))⟩])
            .ret)
            (.seq (.region none [
              ⟨(some 31), none, (.op (.mov (.tmp 0)))⟩,
              ⟨(some 32), none, (.op (.arith .geq (.tmp 31) (.dat (.lit (.int .i64 65)))))⟩,
              ⟨(some 33), none, (.op (.mov (.tmp 32)))⟩,
              ⟨(some 34), (some (33, true)), (.op (.mov (.tmp 0)))⟩,
              ⟨(some 35), (some (33, true)), (.op (.arith .leq (.tmp 34) (.dat (.lit (.int .i64 90)))))⟩,
              ⟨(some 36), none, (.op (.pick (.tmp 33) (.tmp 35) (.dat (.lit (.bool false)))))⟩,
              ⟨(some 37), none, (.op (.mov (.tmp 36)))⟩,
              ⟨(some 38), (some (37, false)), (.op (.mov (.tmp 0)))⟩,
              ⟨(some 39), (some (37, false)), (.op (.arith .geq (.tmp 38) (.dat (.lit (.int .i64 97)))))⟩,
              ⟨(some 40), (some (37, false)), (.op (.mov (.tmp 39)))⟩,
              ⟨(some 41), (some (40, true)), (.op (.mov (.tmp 0)))⟩,
              ⟨(some 42), (some (40, true)), (.op (.arith .leq (.tmp 41) (.dat (.lit (.int .i64 122)))))⟩,
              ⟨(some 43), (some (37, false)), (.op (.pick (.tmp 40) (.tmp 42) (.dat (.lit (.bool false)))))⟩,
              ⟨(some 44), none, (.op (.pick (.tmp 37) (.dat (.lit (.bool true))) (.tmp 43)))⟩,
              ⟨(some 45), none, (.op (.mov (.tmp 44)))⟩,
              ⟨(some 46), (some (45, false)), (.op (.mov (.tmp 0)))⟩,
              ⟨(some 47), (some (45, false)), (.op (.arith .geq (.tmp 46) (.dat (.lit (.int .i64 192)))))⟩,
              ⟨(some 48), (some (45, false)), (.op (.mov (.tmp 47)))⟩,
              ⟨(some 49), (some (48, true)), (.op (.mov (.tmp 0)))⟩,
              ⟨(some 50), (some (48, true)), (.op (.arith .leq (.tmp 49) (.dat (.lit (.int .i64 591)))))⟩,
              ⟨(some 51), (some (45, false)), (.op (.pick (.tmp 48) (.tmp 50) (.dat (.lit (.bool false)))))⟩,
              ⟨(some 52), (some (45, false)), (.op (.mov (.tmp 51)))⟩,
              ⟨(some 53), (some (52, true)), (.op (.mov (.tmp 0)))⟩,
              ⟨(some 54), (some (52, true)), (.op (.arith .neq (.tmp 53) (.dat (.lit (.int .i64 215)))))⟩,
              ⟨(some 55), (some (45, false)), (.op (.pick (.tmp 52) (.tmp 54) (.dat (.lit (.bool false)))))⟩,
              ⟨(some 56), (some (45, false)), (.op (.mov (.tmp 55)))⟩,
              ⟨(some 57), (some (56, true)), (.op (.mov (.tmp 0)))⟩,
              ⟨(some 58), (some (56, true)), (.op (.arith .neq (.tmp 57) (.dat (.lit (.int .i64 247)))))⟩,
              ⟨(some 59), (some (45, false)), (.op (.pick (.tmp 56) (.tmp 58) (.dat (.lit (.bool false)))))⟩,
              ⟨(some 60), none, (.op (.pick (.tmp 45) (.dat (.lit (.bool true))) (.tmp 59)))⟩,
              ⟨(some 61), none, (.op (.mov (.tmp 60)))⟩,
              ⟨(some 62), (some (61, false)), (.op (.mov (.tmp 0)))⟩,
              ⟨(some 63), (some (61, false)), (.op (.arith .geq (.tmp 62) (.dat (.lit (.int .i64 880)))))⟩,
              ⟨(some 64), (some (61, false)), (.op (.mov (.tmp 63)))⟩,
              ⟨(some 65), (some (64, true)), (.op (.mov (.tmp 0)))⟩,
              ⟨(some 66), (some (64, true)), (.op (.arith .leq (.tmp 65) (.dat (.lit (.int .i64 1279)))))⟩,
              ⟨(some 67), (some (61, false)), (.op (.pick (.tmp 64) (.tmp 66) (.dat (.lit (.bool false)))))⟩,
              ⟨(some 68), none, (.op (.pick (.tmp 61) (.dat (.lit (.bool true))) (.tmp 67)))⟩,
              ⟨(some 30), none, (.op (.mov (.tmp 68)))⟩])
            (.cond (.tmp 30)
              (.seq (.region none [
                ⟨(some 2), none, (.op (.mov (.dat (.lit (.int .i64 3)))))⟩,
                ⟨(some 3), none, (.op (.mov (.dat (.lit (.int .i64 0)))))⟩])
              .ret)
              (.seq (.region none [
                ⟨(some 70), none, (.op (.mov (.tmp 0)))⟩,
                ⟨(some 71), none, (.op (.arith .geq (.tmp 70) (.dat (.lit (.int .i64 1424)))))⟩,
                ⟨(some 72), none, (.op (.mov (.tmp 71)))⟩,
                ⟨(some 73), (some (72, true)), (.op (.mov (.tmp 0)))⟩,
                ⟨(some 74), (some (72, true)), (.op (.arith .leq (.tmp 73) (.dat (.lit (.int .i64 1983)))))⟩,
                ⟨(some 75), none, (.op (.pick (.tmp 72) (.tmp 74) (.dat (.lit (.bool false)))))⟩,
                ⟨(some 69), none, (.op (.mov (.tmp 75)))⟩])
              (.cond (.tmp 69)
                (.seq (.region none [
                  ⟨(some 2), none, (.op (.mov (.dat (.lit (.int .i64 4)))))⟩,
                  ⟨(some 3), none, (.op (.mov (.dat (.lit (.int .i64 0)))))⟩])
                .ret)
                .skip)))))))))))
    (.seq (.region none [
      ⟨(some 2), none, (.op (.mov (.dat (.lit (.int .i64 0)))))⟩,
      ⟨(some 3), none, (.op (.mov (.dat (.lit (.int .i64 0)))))⟩])
    .ret)))
  res := [.tmp 2, .tmp 3]
theorem c65 : CmpF Tryd.prog 65 a65 := chkF_cmp (F := Tryd.f65) (by kernel_rfl) mixed (by kernel_rfl)
/-- slices.AppendSeq(()int,int) -/
def a66 : AF where
  nt := 13
  body := (.seq (.region none [
      ⟨(some 2), none, (.op (.box false (.tmp 0)))⟩,
      ⟨(some 4), none, (.op (.mov (.dat (.nil 1))))⟩])
    (.seq (.seq (.region none [
      ⟨(some 6), none, (.op (.mov (.tmp 1)))⟩])
    (.block 0
      (.range (.tmp 6) [7]
        (.region none [
          ⟨(some 5), none, (.op (.mov (.tmp 7)))⟩])
        (.block 1
          (.region none [
            ⟨(some 8), none, (.op (.load 1 false (.tmp 2)))⟩,
            ⟨(some 9), none, (.op (.mov (.tmp 5)))⟩,
            ⟨(some 10), none, (.op (.mkslice 1 [(.tmp 9)]))⟩,
            ⟨(some 11), none, (.op (.append 1 8 (.tmp 8) (.tmp 10)))⟩,
            ⟨none, none, (.op (.store 1 (.tmp 2) (.tmp 11)))⟩])))))
    (.seq (.region none [
      ⟨(some 12), none, (.op (.load 1 false (.tmp 2)))⟩,
      ⟨(some 4), none, (.op (.mov (.tmp 12)))⟩])
    .ret)))
  res := [.tmp 4]
theorem c66 : CmpF Tryd.prog 66 a66 := chkF_cmp (F := Tryd.f66) (by kernel_rfl) mixed (by kernel_rfl)
/-- hansard/text.points$1 -/
def a67 : AF where
  nt := 29
  body := (.block 0
      (.loop
        (.seq (.seq (.region none [
          ⟨(some 5), none, (.op (.load 1 false (.tmp 1)))⟩,
          ⟨(some 6), none, (.op (.lenS (.tmp 5)))⟩,
          ⟨(some 7), none, (.op (.arith .gtr (.tmp 6) (.dat (.lit (.int .i64 0)))))⟩])
        (.cond (.tmp 7)
          .skip
          (.exit 0)))
        (.block 1
          (.seq (.region none [
            ⟨(some 9), none, (.op (.load 1 false (.tmp 1)))⟩,
            ⟨(some 10), none, (.call (.dat (.fn (.func 68) [] [])) [(.tmp 9)])⟩,
            ⟨(some 8), none, (.op (.mov (.tmp 10)))⟩,
            ⟨(some 11), none, (.op (.extract (.tmp 8) 0))⟩,
            ⟨(some 12), none, (.op (.extract (.tmp 8) 1))⟩,
            ⟨(some 3), none, (.op (.mov (.tmp 11)))⟩,
            ⟨(some 4), none, (.op (.mov (.tmp 12)))⟩])
          (.seq (.seq (.region none [
            ⟨(some 13), none, (.op (.mov (.tmp 3)))⟩,
            ⟨(some 14), none, (.op (.arith .eql (.tmp 13) (.dat (.lit (.int .i32 65533)))))⟩,
            ⟨(some 15), none, (.op (.mov (.tmp 14)))⟩,
            ⟨(some 16), (some (15, true)), (.op (.mov (.tmp 4)))⟩,
            ⟨(some 17), (some (15, true)), (.op (.arith .lss (.tmp 16) (.dat (.lit (.int .i64 2)))))⟩,
            ⟨(some 18), none, (.op (.pick (.tmp 15) (.tmp 17) (.dat (.lit (.bool false)))))⟩])
          (.cond (.tmp 18)
            (.sregion [
              ⟨(some 19), none, (.op (.build [] []))⟩,
              ⟨(some 20), none, (.op (.ifc 80 (.tmp 19)))⟩,
              ⟨none, none, (.panic (.tmp 20))⟩])
            .skip))
          (.seq (.region none [
            ⟨(some 21), none, (.op (.load 1 false (.tmp 1)))⟩,
            ⟨(some 22), none, (.op (.mov (.tmp 4)))⟩,
            ⟨(some 23), none, (.op (.sliceS (.tmp 21) (some (.tmp 22)) none))⟩,
            ⟨none, none, (.op (.store 1 (.tmp 1) (.tmp 23)))⟩])
          (.seq (.sregion [
            ⟨(some 24), none, (.op (.mov (.tmp 0)))⟩,
            ⟨(some 25), none, (.op (.mov (.tmp 3)))⟩,
            ⟨(some 26), none, (.op (.conv .i64 (.tmp 25)))⟩,
            ⟨(some 27), none, (.ycall (.tmp 24) [(.tmp 26)])⟩,
            ⟨(some 28), none, (.op (.not (.tmp 27)))⟩])
          (.cond (.tmp 28)
            .ret
            .skip)))))))))
  res := []
theorem c67 : CmpF Tryd.prog 67 a67 := chkF_cmp (F := Tryd.f67) (by kernel_rfl) mixed (by kernel_rfl)
/-- unicode/utf8.DecodeRuneInString -/
def a68 : AF where
  nt := 19
  body := (.seq (.region none [
      ⟨(some 2), none, (.op (.mov (.dat (.lit (.int .i32 0)))))⟩,
      ⟨(some 3), none, (.op (.mov (.dat (.lit (.int .i64 0)))))⟩])
    (.seq (.seq (.region none [
      ⟨(some 4), none, (.op (.mov (.tmp 0)))⟩,
      ⟨(some 5), none, (.op (.arith .neq (.tmp 4) (.dat (.lit (.string ⟨#[]⟩)))))⟩,
      ⟨(some 6), none, (.op (.mov (.tmp 5)))⟩,
      ⟨(some 7), (some (6, true)), (.op (.mov (.tmp 0)))⟩,
      ⟨(some 8), (some (6, true)), (.op (.ext .strIdx [(.tmp 7), (.dat (.lit (.int .i64 0)))]))⟩,
      ⟨(some 9), (some (6, true)), (.op (.arith .lss (.tmp 8) (.dat (.lit (.int .u8 128)))))⟩,
      ⟨(some 10), none, (.op (.pick (.tmp 6) (.tmp 9) (.dat (.lit (.bool false)))))⟩])
    (.cond (.tmp 10)
      (.seq (.region none [
        ⟨(some 11), none, (.op (.mov (.tmp 0)))⟩,
        ⟨(some 12), none, (.op (.ext .strIdx [(.tmp 11), (.dat (.lit (.int .i64 0)))]))⟩,
        ⟨(some 13), none, (.op (.conv .i32 (.tmp 12)))⟩,
        ⟨(some 2), none, (.op (.mov (.tmp 13)))⟩,
        ⟨(some 3), none, (.op (.mov (.dat (.lit (.int .i64 1)))))⟩])
      .ret)
      (.region none [
        ⟨(some 15), none, (.op (.mov (.tmp 0)))⟩,
        ⟨(some 16), none, (.call (.dat (.fn (.func 75) [] [])) [(.tmp 15)])⟩,
        ⟨(some 14), none, (.op (.mov (.tmp 16)))⟩,
        ⟨(some 17), none, (.op (.extract (.tmp 14) 0))⟩,
        ⟨(some 18), none, (.op (.extract (.tmp 14) 1))⟩,
        ⟨(some 2), none, (.op (.mov (.tmp 17)))⟩,
        ⟨(some 3), none, (.op (.mov (.tmp 18)))⟩])))
    .ret))
  res := [.tmp 2, .tmp 3]
theorem c68 : CmpF Tryd.prog 68 a68 := chkF_cmp (F := Tryd.f68) (by kernel_rfl) mixed (by kernel_rfl)
/-- hansard/text.among$1 -/
def a69 : AF where
  nt := 7
  body := (.seq (.region none [
      ⟨(some 2), none, (.op (.box false (.tmp 0)))⟩,
      ⟨(some 3), none, (.op (.mov (.dat (.lit (.bool false)))))⟩])
    (.seq (.region none [
      ⟨(some 4), none, (.op (.load 1 false (.tmp 1)))⟩,
      ⟨(some 5), none, (.op (.func (.func 71) [] [(.tmp 2)]))⟩,
      ⟨(some 6), none, (.call (.dat (.fn (.func 70) [] [])) [(.tmp 4), (.tmp 5)])⟩,
      ⟨(some 3), none, (.op (.mov (.tmp 6)))⟩])
    .ret))
  res := [.tmp 3]
theorem c69 : CmpF Tryd.prog 69 a69 := chkF_cmp (F := Tryd.f69) (by kernel_rfl) mixed (by kernel_rfl)
/-- slices.ContainsFunc(()(2)int,(2)int) -/
def a70 : AF where
  nt := 9
  body := (.seq (.region none [
      ⟨(some 4), none, (.op (.mov (.dat (.lit (.bool false)))))⟩])
    (.seq (.region none [
      ⟨(some 5), none, (.op (.mov (.tmp 0)))⟩,
      ⟨(some 6), none, (.op (.mov (.tmp 1)))⟩,
      ⟨(some 7), none, (.call (.dat (.fn (.func 76) [] [])) [(.tmp 5), (.tmp 6)])⟩,
      ⟨(some 8), none, (.op (.arith .geq (.tmp 7) (.dat (.lit (.int .i64 0)))))⟩,
      ⟨(some 4), none, (.op (.mov (.tmp 8)))⟩])
    .ret))
  res := [.tmp 4]
theorem c70 : CmpF Tryd.prog 70 a70 := chkF_cmp (F := Tryd.f70) (by kernel_rfl) mixed (by kernel_rfl)
/-- hansard/text.among$1$1 -/
def a71 : AF where
  nt := 14
  body := (.seq (.region none [
      ⟨(some 2), none, (.op (.box true (.tmp 0)))⟩,
      ⟨(some 3), none, (.op (.mov (.dat (.lit (.bool false)))))⟩])
    (.seq (.region none [
      ⟨(some 4), none, (.op (.load 1 false (.tmp 1)))⟩,
      ⟨(some 5), none, (.op (.indexA 1 false 2 (.tmp 2) (.dat (.lit (.int .i64 0)))))⟩,
      ⟨(some 6), none, (.op (.load 1 false (.tmp 5)))⟩,
      ⟨(some 7), none, (.op (.arith .geq (.tmp 4) (.tmp 6)))⟩,
      ⟨(some 8), none, (.op (.mov (.tmp 7)))⟩,
      ⟨(some 9), (some (8, true)), (.op (.load 1 false (.tmp 1)))⟩,
      ⟨(some 10), (some (8, true)), (.op (.indexA 1 false 2 (.tmp 2) (.dat (.lit (.int .i64 1)))))⟩,
      ⟨(some 11), (some (8, true)), (.op (.load 1 false (.tmp 10)))⟩,
      ⟨(some 12), (some (8, true)), (.op (.arith .leq (.tmp 9) (.tmp 11)))⟩,
      ⟨(some 13), none, (.op (.pick (.tmp 8) (.tmp 12) (.dat (.lit (.bool false)))))⟩,
      ⟨(some 3), none, (.op (.mov (.tmp 13)))⟩])
    .ret))
  res := [.tmp 3]
theorem c71 : CmpF Tryd.prog 71 a71 := chkF_cmp (F := Tryd.f71) (by kernel_rfl) mixed (by kernel_rfl)
/-- hansard/hansardref09.long -/
def a72 : AF where
  nt := 35
  body := (.seq (.region none [
      ⟨(some 2), none, (.op (.mov (.dat (.lit (.int .i64 0)))))⟩,
      ⟨(some 3), none, (.op (.mov (.dat (.lit (.int .i64 0)))))⟩])
    (.seq (.block 0
      (.seq (.region none [
        ⟨(some 5), none, (.op (.mov (.tmp 0)))⟩,
        ⟨(some 6), none, (.op (.arith .lss (.tmp 5) (.dat (.lit (.int .i64 128)))))⟩,
        ⟨(some 4), none, (.op (.mov (.tmp 6)))⟩])
      (.cond (.tmp 4)
        (.seq (.region none [
          ⟨(some 7), none, (.op (.mov (.tmp 0)))⟩,
          ⟨(some 2), none, (.op (.mov (.dat (.lit (.int .i64 1)))))⟩,
          ⟨(some 3), none, (.op (.mov (.tmp 7)))⟩])
        .ret)
        (.seq (.region none [
          ⟨(some 9), none, (.op (.mov (.tmp 0)))⟩,
          ⟨(some 10), none, (.op (.arith .geq (.tmp 9) (.dat (.lit (.int .i64 192)))))⟩,
          ⟨(some 11), none, (.op (.mov (.tmp 10)))⟩,
          ⟨(some 12), (some (11, true)), (.op (.mov (.tmp 0)))⟩,
          ⟨(some 13), (some (11, true)), (.op (.arith .lss (.tmp 12) (.dat (.lit (.int .i64 224)))))⟩,
          ⟨(some 14), none, (.op (.pick (.tmp 11) (.tmp 13) (.dat (.lit (.bool false)))))⟩,
          ⟨(some 8), none, (.op (.mov (.tmp 14)))⟩])
        (.cond (.tmp 8)
          (.seq (.region none [
            ⟨(some 15), none, (.op (.mov (.tmp 0)))⟩,
            ⟨(some 16), none, (.op (.arith .sub (.tmp 15) (.dat (.lit (.int .i64 192)))))⟩,
            ⟨(some 2), none, (.op (.mov (.dat (.lit (.int .i64 2)))))⟩,
            ⟨(some 3), none, (.op (.mov (.tmp 16)))⟩])
          .ret)
          (.seq (.region none [
            ⟨(some 18), none, (.op (.mov (.tmp 0)))⟩,
            ⟨(some 19), none, (.op (.arith .geq (.tmp 18) (.dat (.lit (.int .i64 224)))))⟩,
            ⟨(some 20), none, (.op (.mov (.tmp 19)))⟩,
            ⟨(some 21), (some (20, true)), (.op (.mov (.tmp 0)))⟩,
            ⟨(some 22), (some (20, true)), (.op (.arith .lss (.tmp 21) (.dat (.lit (.int .i64 240)))))⟩,
            ⟨(some 23), none, (.op (.pick (.tmp 20) (.tmp 22) (.dat (.lit (.bool false)))))⟩,
            ⟨(some 17), none, (.op (.mov (.tmp 23)))⟩])
          (.cond (.tmp 17)
            (.seq (.region none [
              ⟨(some 24), none, (.op (.mov (.tmp 0)))⟩,
              ⟨(some 25), none, (.op (.arith .sub (.tmp 24) (.dat (.lit (.int .i64 224)))))⟩,
              ⟨(some 2), none, (.op (.mov (.dat (.lit (.int .i64 3)))))⟩,
              ⟨(some 3), none, (.op (.mov (.tmp 25)))⟩])
            .ret)
            (.seq (.region none [
              ⟨(some 27), none, (.op (.mov (.tmp 0)))⟩,
              ⟨(some 28), none, (.op (.arith .geq (.tmp 27) (.dat (.lit (.int .i64 240)))))⟩,
              ⟨(some 29), none, (.op (.mov (.tmp 28)))⟩,
              ⟨(some 30), (some (29, true)), (.op (.mov (.tmp 0)))⟩,
              ⟨(some 31), (some (29, true)), (.op (.arith .lss (.tmp 30) (.dat (.lit (.int .i64 248)))))⟩,
              ⟨(some 32), none, (.op (.pick (.tmp 29) (.tmp 31) (.dat (.lit (.bool false)))))⟩,
              ⟨(some 26), none, (.op (.mov (.tmp 32)))⟩])
            (.cond (.tmp 26)
              (.seq (.region none [
                ⟨(some 33), none, (.op (.mov (.tmp 0)))⟩,
                ⟨(some 34), none, (.op (.arith .sub (.tmp 33) (.dat (.lit (.int .i64 240)))))⟩,
                ⟨(some 2), none, (.op (.mov (.dat (.lit (.int .i64 4)))))⟩,
                ⟨(some 3), none, (.op (.mov (.tmp 34)))⟩])
              .ret)
              .skip)))))))))
    (.seq (.region none [
      ⟨(some 2), none, (.op (.mov (.dat (.lit (.int .i64 0)))))⟩,
      ⟨(some 3), none, (.op (.mov (.dat (.lit (.int .i64 0)))))⟩])
    .ret)))
  res := [.tmp 2, .tmp 3]
theorem c72 : CmpF Tryd.prog 72 a72 := chkF_cmp (F := Tryd.f72) (by kernel_rfl) mixed (by kernel_rfl)
/-- hansard/hansardref09.Point -/
def a73 : AF where
  nt := 17
  body := (.seq (.region none [
      ⟨(some 2), none, (.op (.mov (.dat (.lit (.bool false)))))⟩])
    (.seq (.region none [
      ⟨(some 3), none, (.op (.mov (.tmp 0)))⟩,
      ⟨(some 4), none, (.op (.arith .geq (.tmp 3) (.dat (.lit (.int .i64 0)))))⟩,
      ⟨(some 5), none, (.op (.mov (.tmp 4)))⟩,
      ⟨(some 6), (some (5, true)), (.op (.mov (.tmp 0)))⟩,
      ⟨(some 7), (some (5, true)), (.op (.arith .leq (.tmp 6) (.dat (.lit (.int .i64 1114111)))))⟩,
      ⟨(some 8), none, (.op (.pick (.tmp 5) (.tmp 7) (.dat (.lit (.bool false)))))⟩,
      ⟨(some 9), none, (.op (.mov (.tmp 8)))⟩,
      ⟨(some 10), (some (9, true)), (.op (.mov (.tmp 0)))⟩,
      ⟨(some 11), (some (9, true)), (.op (.arith .lss (.tmp 10) (.dat (.lit (.int .i64 55296)))))⟩,
      ⟨(some 12), (some (9, true)), (.op (.mov (.tmp 11)))⟩,
      ⟨(some 13), (some (12, false)), (.op (.mov (.tmp 0)))⟩,
      ⟨(some 14), (some (12, false)), (.op (.arith .gtr (.tmp 13) (.dat (.lit (.int .i64 57343)))))⟩,
      ⟨(some 15), (some (9, true)), (.op (.pick (.tmp 12) (.dat (.lit (.bool true))) (.tmp 14)))⟩,
      ⟨(some 16), none, (.op (.pick (.tmp 9) (.tmp 15) (.dat (.lit (.bool false)))))⟩,
      ⟨(some 2), none, (.op (.mov (.tmp 16)))⟩])
    .ret))
  res := [.tmp 2]
theorem c73 : CmpF Tryd.prog 73 a73 := chkF_cmp (F := Tryd.f73) (by kernel_rfl) mixed (by kernel_rfl)
/-- hansard/hansardref09.Bytes -/
def a74 : AF where
  nt := 54
  body := (.seq (.region none [
      ⟨(some 2), none, (.op (.mov (.dat (.nil 1))))⟩])
    (.seq (.seq (.region none [
      ⟨(some 3), none, (.op (.mov (.tmp 0)))⟩,
      ⟨(some 4), none, (.op (.arith .lss (.tmp 3) (.dat (.lit (.int .i64 128)))))⟩])
    (.cond (.tmp 4)
      (.seq (.region none [
        ⟨(some 5), none, (.op (.mov (.tmp 0)))⟩,
        ⟨(some 6), none, (.op (.conv .u8 (.tmp 5)))⟩,
        ⟨(some 7), none, (.op (.mkslice 1 [(.tmp 6)]))⟩,
        ⟨(some 2), none, (.op (.mov (.tmp 7)))⟩])
      .ret)
      .skip))
    (.seq (.seq (.region none [
      ⟨(some 8), none, (.op (.mov (.tmp 0)))⟩,
      ⟨(some 9), none, (.op (.arith .lss (.tmp 8) (.dat (.lit (.int .i64 2048)))))⟩])
    (.cond (.tmp 9)
      (.seq (.region none [
        ⟨(some 10), none, (.op (.mov (.tmp 0)))⟩,
        ⟨(some 11), none, (.op (.arith .quo (.tmp 10) (.dat (.lit (.int .i64 64)))))⟩,
        ⟨(some 12), none, (.op (.arith .add (.dat (.lit (.int .i64 192))) (.tmp 11)))⟩,
        ⟨(some 13), none, (.op (.conv .u8 (.tmp 12)))⟩,
        ⟨(some 14), none, (.op (.mov (.tmp 0)))⟩,
        ⟨(some 15), none, (.op (.arith .rem (.tmp 14) (.dat (.lit (.int .i64 64)))))⟩,
        ⟨(some 16), none, (.op (.arith .add (.dat (.lit (.int .i64 128))) (.tmp 15)))⟩,
        ⟨(some 17), none, (.op (.conv .u8 (.tmp 16)))⟩,
        ⟨(some 18), none, (.op (.mkslice 1 [(.tmp 13), (.tmp 17)]))⟩,
        ⟨(some 2), none, (.op (.mov (.tmp 18)))⟩])
      .ret)
      .skip))
    (.seq (.seq (.region none [
      ⟨(some 19), none, (.op (.mov (.tmp 0)))⟩,
      ⟨(some 20), none, (.op (.arith .lss (.tmp 19) (.dat (.lit (.int .i64 65536)))))⟩])
    (.cond (.tmp 20)
      (.seq (.region none [
        ⟨(some 21), none, (.op (.mov (.tmp 0)))⟩,
        ⟨(some 22), none, (.op (.arith .quo (.tmp 21) (.dat (.lit (.int .i64 4096)))))⟩,
        ⟨(some 23), none, (.op (.arith .add (.dat (.lit (.int .i64 224))) (.tmp 22)))⟩,
        ⟨(some 24), none, (.op (.conv .u8 (.tmp 23)))⟩,
        ⟨(some 25), none, (.op (.mov (.tmp 0)))⟩,
        ⟨(some 26), none, (.op (.arith .quo (.tmp 25) (.dat (.lit (.int .i64 64)))))⟩,
        ⟨(some 27), none, (.op (.arith .rem (.tmp 26) (.dat (.lit (.int .i64 64)))))⟩,
        ⟨(some 28), none, (.op (.arith .add (.dat (.lit (.int .i64 128))) (.tmp 27)))⟩,
        ⟨(some 29), none, (.op (.conv .u8 (.tmp 28)))⟩,
        ⟨(some 30), none, (.op (.mov (.tmp 0)))⟩,
        ⟨(some 31), none, (.op (.arith .rem (.tmp 30) (.dat (.lit (.int .i64 64)))))⟩,
        ⟨(some 32), none, (.op (.arith .add (.dat (.lit (.int .i64 128))) (.tmp 31)))⟩,
        ⟨(some 33), none, (.op (.conv .u8 (.tmp 32)))⟩,
        ⟨(some 34), none, (.op (.mkslice 1 [(.tmp 24), (.tmp 29), (.tmp 33)]))⟩,
        ⟨(some 2), none, (.op (.mov (.tmp 34)))⟩])
      .ret)
      .skip))
    (.seq (.region none [
      ⟨(some 35), none, (.op (.mov (.tmp 0)))⟩,
      ⟨(some 36), none, (.op (.arith .quo (.tmp 35) (.dat (.lit (.int .i64 262144)))))⟩,
      ⟨(some 37), none, (.op (.arith .add (.dat (.lit (.int .i64 240))) (.tmp 36)))⟩,
      ⟨(some 38), none, (.op (.conv .u8 (.tmp 37)))⟩,
      ⟨(some 39), none, (.op (.mov (.tmp 0)))⟩,
      ⟨(some 40), none, (.op (.arith .quo (.tmp 39) (.dat (.lit (.int .i64 4096)))))⟩,
      ⟨(some 41), none, (.op (.arith .rem (.tmp 40) (.dat (.lit (.int .i64 64)))))⟩,
      ⟨(some 42), none, (.op (.arith .add (.dat (.lit (.int .i64 128))) (.tmp 41)))⟩,
      ⟨(some 43), none, (.op (.conv .u8 (.tmp 42)))⟩,
      ⟨(some 44), none, (.op (.mov (.tmp 0)))⟩,
      ⟨(some 45), none, (.op (.arith .quo (.tmp 44) (.dat (.lit (.int .i64 64)))))⟩,
      ⟨(some 46), none, (.op (.arith .rem (.tmp 45) (.dat (.lit (.int .i64 64)))))⟩,
      ⟨(some 47), none, (.op (.arith .add (.dat (.lit (.int .i64 128))) (.tmp 46)))⟩,
      ⟨(some 48), none, (.op (.conv .u8 (.tmp 47)))⟩,
      ⟨(some 49), none, (.op (.mov (.tmp 0)))⟩,
      ⟨(some 50), none, (.op (.arith .rem (.tmp 49) (.dat (.lit (.int .i64 64)))))⟩,
      ⟨(some 51), none, (.op (.arith .add (.dat (.lit (.int .i64 128))) (.tmp 50)))⟩,
      ⟨(some 52), none, (.op (.conv .u8 (.tmp 51)))⟩,
      ⟨(some 53), none, (.op (.mkslice 1 [(.tmp 38), (.tmp 43), (.tmp 48), (.tmp 52)]))⟩,
      ⟨(some 2), none, (.op (.mov (.tmp 53)))⟩])
    .ret)))))
  res := [.tmp 2]
theorem c74 : CmpF Tryd.prog 74 a74 := chkF_cmp (F := Tryd.f74) (by kernel_rfl) mixed (by kernel_rfl)
/-- unicode/utf8.decodeRuneInStringSlow -/
def a75 : AF where
  nt := 117
  body := (.seq (.region none [
      ⟨(some 2), none, (.op (.mov (.dat (.lit (.int .i32 0)))))⟩,
      ⟨(some 3), none, (.op (.mov (.dat (.lit (.int .i64 0)))))⟩])
    (.seq (.region none [
      ⟨(some 13), none, (.op (.mov (.tmp 0)))⟩,
      ⟨(some 14), none, (.op (.lenS (.tmp 13)))⟩,
      ⟨(some 4), none, (.op (.mov (.tmp 14)))⟩])
    (.seq (.seq (.region none [
      ⟨(some 15), none, (.op (.mov (.tmp 4)))⟩,
      ⟨(some 16), none, (.op (.arith .lss (.tmp 15) (.dat (.lit (.int .i64 1)))))⟩])
    (.cond (.tmp 16)
      (.seq (.region none [
        ⟨(some 2), none, (.op (.mov (.dat (.lit (.int .i32 65533)))))⟩,
        ⟨(some 3), none, (.op (.mov (.dat (.lit (.int .i64 0)))))⟩])
      .ret)
      .skip))
    (.seq (.region none [
      ⟨(some 17), none, (.op (.mov (.tmp 0)))⟩,
      ⟨(some 18), none, (.op (.ext .strIdx [(.tmp 17), (.dat (.lit (.int .i64 0)))]))⟩,
      ⟨(some 5), none, (.op (.mov (.tmp 18)))⟩])
    (.seq (.region none [
      ⟨(some 19), none, (.op (.mov (.tmp 5)))⟩,
      ⟨(some 20), none, (.op (.indexA 1 false 256 (.glob 0) (.tmp 19)))⟩,
      ⟨(some 21), none, (.op (.load 1 false (.tmp 20)))⟩,
      ⟨(some 6), none, (.op (.mov (.tmp 21)))⟩])
    (.seq (.seq (.region none [
      ⟨(some 22), none, (.op (.mov (.tmp 6)))⟩,
      ⟨(some 23), none, (.op (.arith .geq (.tmp 22) (.dat (.lit (.int .u8 240)))))⟩])
    (.cond (.tmp 23)
      (.seq (.region none [
        ⟨(some 24), none, (.op (.mov (.tmp 6)))⟩,
        ⟨(some 25), none, (.op (.conv .i32 (.tmp 24)))⟩,
        ⟨(some 26), none, (.op (.ext (.shift true) [(.tmp 25), (.dat (.lit (.int .u64 31)))]))⟩,
        ⟨(some 27), none, (.op (.ext (.shift false) [(.tmp 26), (.dat (.lit (.int .u64 31)))]))⟩,
        ⟨(some 7), none, (.op (.mov (.tmp 27)))⟩])
      (.seq (.region none [
        ⟨(some 28), none, (.op (.mov (.tmp 0)))⟩,
        ⟨(some 29), none, (.op (.ext .strIdx [(.tmp 28), (.dat (.lit (.int .i64 0)))]))⟩,
        ⟨(some 30), none, (.op (.conv .i32 (.tmp 29)))⟩,
        ⟨(some 31), none, (.op (.mov (.tmp 7)))⟩,
        ⟨(some 32), none, (.op (.arith .andNot (.tmp 30) (.tmp 31)))⟩,
        ⟨(some 33), none, (.op (.mov (.tmp 7)))⟩,
        ⟨(some 34), none, (.op (.arith .and (.dat (.lit (.int .i32 65533))) (.tmp 33)))⟩,
        ⟨(some 35), none, (.op (.arith .or (.tmp 32) (.tmp 34)))⟩,
        ⟨(some 2), none, (.op (.mov (.tmp 35)))⟩,
        ⟨(some 3), none, (.op (.mov (.dat (.lit (.int .i64 1)))))⟩])
      .ret))
      .skip))
    (.seq (.region none [
      ⟨(some 36), none, (.op (.mov (.tmp 6)))⟩,
      ⟨(some 37), none, (.op (.arith .and (.tmp 36) (.dat (.lit (.int .u8 7)))))⟩,
      ⟨(some 38), none, (.op (.conv .i64 (.tmp 37)))⟩,
      ⟨(some 8), none, (.op (.mov (.tmp 38)))⟩])
    (.seq (.region none [
      ⟨(some 39), none, (.op (.mov (.tmp 6)))⟩,
      ⟨(some 40), none, (.op (.ext (.shift false) [(.tmp 39), (.dat (.lit (.int .u64 4)))]))⟩,
      ⟨(some 41), none, (.op (.indexA 2 true 16 (.glob 1) (.tmp 40)))⟩,
      ⟨(some 42), none, (.op (.load 2 true (.tmp 41)))⟩,
      ⟨(some 9), none, (.op (.alloc true [.lit (.int .u8 0), .lit (.int .u8 0)]))⟩,
      ⟨none, none, (.op (.store 2 (.tmp 9) (.tmp 42)))⟩])
    (.seq (.seq (.region none [
      ⟨(some 43), none, (.op (.mov (.tmp 4)))⟩,
      ⟨(some 44), none, (.op (.mov (.tmp 8)))⟩,
      ⟨(some 45), none, (.op (.arith .lss (.tmp 43) (.tmp 44)))⟩])
    (.cond (.tmp 45)
      (.seq (.region none [
        ⟨(some 2), none, (.op (.mov (.dat (.lit (.int .i32 65533)))))⟩,
        ⟨(some 3), none, (.op (.mov (.dat (.lit (.int .i64 1)))))⟩])
      .ret)
      .skip))
    (.seq (.region none [
      ⟨(some 46), none, (.op (.mov (.tmp 0)))⟩,
      ⟨(some 47), none, (.op (.ext .strIdx [(.tmp 46), (.dat (.lit (.int .i64 1)))]))⟩,
      ⟨(some 10), none, (.op (.mov (.tmp 47)))⟩])
    (.seq (.seq (.region none [
      ⟨(some 48), none, (.op (.mov (.tmp 10)))⟩,
      ⟨(some 49), none, (.op (.field 0 1 false (.tmp 9)))⟩,
      ⟨(some 50), none, (.op (.load 1 false (.tmp 49)))⟩,
      ⟨(some 51), none, (.op (.arith .lss (.tmp 48) (.tmp 50)))⟩,
      ⟨(some 52), none, (.op (.mov (.tmp 51)))⟩,
      ⟨(some 53), (some (52, false)), (.op (.field 1 1 false (.tmp 9)))⟩,
      ⟨(some 54), (some (52, false)), (.op (.load 1 false (.tmp 53)))⟩,
      ⟨(some 55), (some (52, false)), (.op (.mov (.tmp 10)))⟩,
      ⟨(some 56), (some (52, false)), (.op (.arith .lss (.tmp 54) (.tmp 55)))⟩,
      ⟨(some 57), none, (.op (.pick (.tmp 52) (.dat (.lit (.bool true))) (.tmp 56)))⟩])
    (.cond (.tmp 57)
      (.seq (.region none [
        ⟨(some 2), none, (.op (.mov (.dat (.lit (.int .i32 65533)))))⟩,
        ⟨(some 3), none, (.op (.mov (.dat (.lit (.int .i64 1)))))⟩])
      .ret)
      .skip))
    (.seq (.seq (.region none [
      ⟨(some 58), none, (.op (.mov (.tmp 8)))⟩,
      ⟨(some 59), none, (.op (.arith .leq (.tmp 58) (.dat (.lit (.int .i64 2)))))⟩])
    (.cond (.tmp 59)
      (.seq (.region none [
        ⟨(some 60), none, (.op (.mov (.tmp 5)))⟩,
        ⟨(some 61), none, (.op (.arith .and (.tmp 60) (.dat (.lit (.int .u8 31)))))⟩,
        ⟨(some 62), none, (.op (.conv .i32 (.tmp 61)))⟩,
        ⟨(some 63), none, (.op (.ext (.shift true) [(.tmp 62), (.dat (.lit (.int .u64 6)))]))⟩,
        ⟨(some 64), none, (.op (.mov (.tmp 10)))⟩,
        ⟨(some 65), none, (.op (.arith .and (.tmp 64) (.dat (.lit (.int .u8 63)))))⟩,
        ⟨(some 66), none, (.op (.conv .i32 (.tmp 65)))⟩,
        ⟨(some 67), none, (.op (.arith .or (.tmp 63) (.tmp 66)))⟩,
        ⟨(some 2), none, (.op (.mov (.tmp 67)))⟩,
        ⟨(some 3), none, (.op (.mov (.dat (.lit (.int .i64 2)))))⟩])
      .ret)
      .skip))
    (.seq (.region none [
      ⟨(some 68), none, (.op (.mov (.tmp 0)))⟩,
      ⟨(some 69), none, (.op (.ext .strIdx [(.tmp 68), (.dat (.lit (.int .i64 2)))]))⟩,
      ⟨(some 11), none, (.op (.mov (.tmp 69)))⟩])
    (.seq (.seq (.region none [
      ⟨(some 70), none, (.op (.mov (.tmp 11)))⟩,
      ⟨(some 71), none, (.op (.arith .lss (.tmp 70) (.dat (.lit (.int .u8 128)))))⟩,
      ⟨(some 72), none, (.op (.mov (.tmp 71)))⟩,
      ⟨(some 73), (some (72, false)), (.op (.mov (.tmp 11)))⟩,
      ⟨(some 74), (some (72, false)), (.op (.arith .lss (.dat (.lit (.int .u8 191))) (.tmp 73)))⟩,
      ⟨(some 75), none, (.op (.pick (.tmp 72) (.dat (.lit (.bool true))) (.tmp 74)))⟩])
    (.cond (.tmp 75)
      (.seq (.region none [
        ⟨(some 2), none, (.op (.mov (.dat (.lit (.int .i32 65533)))))⟩,
        ⟨(some 3), none, (.op (.mov (.dat (.lit (.int .i64 1)))))⟩])
      .ret)
      .skip))
    (.seq (.seq (.region none [
      ⟨(some 76), none, (.op (.mov (.tmp 8)))⟩,
      ⟨(some 77), none, (.op (.arith .leq (.tmp 76) (.dat (.lit (.int .i64 3)))))⟩])
    (.cond (.tmp 77)
      (.seq (.region none [
        ⟨(some 78), none, (.op (.mov (.tmp 5)))⟩,
        ⟨(some 79), none, (.op (.arith .and (.tmp 78) (.dat (.lit (.int .u8 15)))))⟩,
        ⟨(some 80), none, (.op (.conv .i32 (.tmp 79)))⟩,
        ⟨(some 81), none, (.op (.ext (.shift true) [(.tmp 80), (.dat (.lit (.int .u64 12)))]))⟩,
        ⟨(some 82), none, (.op (.mov (.tmp 10)))⟩,
        ⟨(some 83), none, (.op (.arith .and (.tmp 82) (.dat (.lit (.int .u8 63)))))⟩,
        ⟨(some 84), none, (.op (.conv .i32 (.tmp 83)))⟩,
        ⟨(some 85), none, (.op (.ext (.shift true) [(.tmp 84), (.dat (.lit (.int .u64 6)))]))⟩,
        ⟨(some 86), none, (.op (.arith .or (.tmp 81) (.tmp 85)))⟩,
        ⟨(some 87), none, (.op (.mov (.tmp 11)))⟩,
        ⟨(some 88), none, (.op (.arith .and (.tmp 87) (.dat (.lit (.int .u8 63)))))⟩,
        ⟨(some 89), none, (.op (.conv .i32 (.tmp 88)))⟩,
        ⟨(some 90), none, (.op (.arith .or (.tmp 86) (.tmp 89)))⟩,
        ⟨(some 2), none, (.op (.mov (.tmp 90)))⟩,
        ⟨(some 3), none, (.op (.mov (.dat (.lit (.int .i64 3)))))⟩])
      .ret)
      .skip))
    (.seq (.region none [
      ⟨(some 91), none, (.op (.mov (.tmp 0)))⟩,
      ⟨(some 92), none, (.op (.ext .strIdx [(.tmp 91), (.dat (.lit (.int .i64 3)))]))⟩,
      ⟨(some 12), none, (.op (.mov (.tmp 92)))⟩])
    (.seq (.seq (.region none [
      ⟨(some 93), none, (.op (.mov (.tmp 12)))⟩,
      ⟨(some 94), none, (.op (.arith .lss (.tmp 93) (.dat (.lit (.int .u8 128)))))⟩,
      ⟨(some 95), none, (.op (.mov (.tmp 94)))⟩,
      ⟨(some 96), (some (95, false)), (.op (.mov (.tmp 12)))⟩,
      ⟨(some 97), (some (95, false)), (.op (.arith .lss (.dat (.lit (.int .u8 191))) (.tmp 96)))⟩,
      ⟨(some 98), none, (.op (.pick (.tmp 95) (.dat (.lit (.bool true))) (.tmp 97)))⟩])
    (.cond (.tmp 98)
      (.seq (.region none [
        ⟨(some 2), none, (.op (.mov (.dat (.lit (.int .i32 65533)))))⟩,
        ⟨(some 3), none, (.op (.mov (.dat (.lit (.int .i64 1)))))⟩])
      .ret)
      .skip))
    (.seq (.region none [
      ⟨(some 99), none, (.op (.mov (.tmp 5)))⟩,
      ⟨(some 100), none, (.op (.arith .and (.tmp 99) (.dat (.lit (.int .u8 7)))))⟩,
      ⟨(some 101), none, (.op (.conv .i32 (.tmp 100)))⟩,
      ⟨(some 102), none, (.op (.ext (.shift true) [(.tmp 101), (.dat (.lit (.int .u64 18)))]))⟩,
      ⟨(some 103), none, (.op (.mov (.tmp 10)))⟩,
      ⟨(some 104), none, (.op (.arith .and (.tmp 103) (.dat (.lit (.int .u8 63)))))⟩,
      ⟨(some 105), none, (.op (.conv .i32 (.tmp 104)))⟩,
      ⟨(some 106), none, (.op (.ext (.shift true) [(.tmp 105), (.dat (.lit (.int .u64 12)))]))⟩,
      ⟨(some 107), none, (.op (.arith .or (.tmp 102) (.tmp 106)))⟩,
      ⟨(some 108), none, (.op (.mov (.tmp 11)))⟩,
      ⟨(some 109), none, (.op (.arith .and (.tmp 108) (.dat (.lit (.int .u8 63)))))⟩,
      ⟨(some 110), none, (.op (.conv .i32 (.tmp 109)))⟩,
      ⟨(some 111), none, (.op (.ext (.shift true) [(.tmp 110), (.dat (.lit (.int .u64 6)))]))⟩,
      ⟨(some 112), none, (.op (.arith .or (.tmp 107) (.tmp 111)))⟩,
      ⟨(some 113), none, (.op (.mov (.tmp 12)))⟩,
      ⟨(some 114), none, (.op (.arith .and (.tmp 113) (.dat (.lit (.int .u8 63)))))⟩,
      ⟨(some 115), none, (.op (.conv .i32 (.tmp 114)))⟩,
      ⟨(some 116), none, (.op (.arith .or (.tmp 112) (.tmp 115)))⟩,
      ⟨(some 2), none, (.op (.mov (.tmp 116)))⟩,
      ⟨(some 3), none, (.op (.mov (.dat (.lit (.int .i64 4)))))⟩])
    .ret))))))))))))))))))
  res := [.tmp 2, .tmp 3]
theorem c75 : CmpF Tryd.prog 75 a75 := chkF_cmp (F := Tryd.f75) (by kernel_rfl) mixed (by kernel_rfl)
/-- slices.IndexFunc(()(2)int,(2)int) -/
def a76 : AF where
  nt := 19
  body := (.seq (.region none [
      ⟨(some 4), none, (.op (.mov (.dat (.lit (.int .i64 0)))))⟩])
    (.seq (.seq (.region none [
      ⟨(some 6), none, (.op (.mov (.tmp 0)))⟩,
      ⟨(some 7), none, (.op (.len (.tmp 6)))⟩,
      ⟨(some 8), none, (.op (.mov (.dat (.lit (.int .i64 0)))))⟩])
    (.block 0
      (.loop
        (.seq (.region none [
          ⟨(some 9), none, (.op (.arith .lss (.tmp 8) (.tmp 7)))⟩])
        (.seq (.cond (.tmp 9)
          .skip
          (.exit 0))
        (.seq (.block 1
          (.seq (.region none [
            ⟨(some 10), none, (.op (.mov (.tmp 8)))⟩,
            ⟨(some 5), none, (.op (.mov (.tmp 10)))⟩])
          (.seq (.region none [
            ⟨(some 11), none, (.op (.mov (.tmp 1)))⟩,
            ⟨(some 12), none, (.op (.mov (.tmp 0)))⟩,
            ⟨(some 13), none, (.op (.mov (.tmp 5)))⟩,
            ⟨(some 14), none, (.op (.index 2 (.tmp 12) (.tmp 13)))⟩,
            ⟨(some 15), none, (.op (.load 2 true (.tmp 14)))⟩,
            ⟨(some 16), none, (.call (.tmp 11) [(.tmp 15)])⟩])
          (.cond (.tmp 16)
            (.seq (.region none [
              ⟨(some 17), none, (.op (.mov (.tmp 5)))⟩,
              ⟨(some 4), none, (.op (.mov (.tmp 17)))⟩])
            .ret)
            .skip))))
        (.region none [
          ⟨(some 18), none, (.op (.arith .add (.tmp 8) (.dat (.lit (.int .i64 1)))))⟩,
          ⟨(some 8), none, (.op (.mov (.tmp 18)))⟩])))))))
    (.seq (.region none [
      ⟨(some 4), none, (.op (.mov (.dat (.lit (.int .i64 (-1))))))⟩])
    .ret)))
  res := [.tmp 4]
theorem c76 : CmpF Tryd.prog 76 a76 := chkF_cmp (F := Tryd.f76) (by kernel_rfl) mixed (by kernel_rfl)
/-- gosem.cut.vars -/
def a97 : AF where
  nt := 6
  body := (.region none [
      ⟨(some 0), none, (.op (.build [.lit (.int .u8 0), .lit (.int .u8 0)] [(0, 1, (.dat (.lit (.int .u8 128)))), (1, 1, (.dat (.lit (.int .u8 191))))]))⟩,
      ⟨(some 1), none, (.op (.build [.lit (.int .u8 0), .lit (.int .u8 0)] [(0, 1, (.dat (.lit (.int .u8 160)))), (1, 1, (.dat (.lit (.int .u8 191))))]))⟩,
      ⟨(some 2), none, (.op (.build [.lit (.int .u8 0), .lit (.int .u8 0)] [(0, 1, (.dat (.lit (.int .u8 128)))), (1, 1, (.dat (.lit (.int .u8 159))))]))⟩,
      ⟨(some 3), none, (.op (.build [.lit (.int .u8 0), .lit (.int .u8 0)] [(0, 1, (.dat (.lit (.int .u8 144)))), (1, 1, (.dat (.lit (.int .u8 191))))]))⟩,
      ⟨(some 4), none, (.op (.build [.lit (.int .u8 0), .lit (.int .u8 0)] [(0, 1, (.dat (.lit (.int .u8 128)))), (1, 1, (.dat (.lit (.int .u8 143))))]))⟩,
      ⟨(some 5), none, (.op (.build [.lit (.int .u8 0), .lit (.int .u8 0), .lit (.int .u8 0), .lit (.int .u8 0), .lit (.int .u8 0), .lit (.int .u8 0), .lit (.int .u8 0), .lit (.int .u8 0), .lit (.int .u8 0), .lit (.int .u8 0), .lit (.int .u8 0), .lit (.int .u8 0), .lit (.int .u8 0), .lit (.int .u8 0), .lit (.int .u8 0), .lit (.int .u8 0), .lit (.int .u8 0), .lit (.int .u8 0), .lit (.int .u8 0), .lit (.int .u8 0), .lit (.int .u8 0), .lit (.int .u8 0), .lit (.int .u8 0), .lit (.int .u8 0), .lit (.int .u8 0), .lit (.int .u8 0), .lit (.int .u8 0), .lit (.int .u8 0), .lit (.int .u8 0), .lit (.int .u8 0), .lit (.int .u8 0), .lit (.int .u8 0)] [(0, 2, (.tmp 0)), (2, 2, (.tmp 1)), (4, 2, (.tmp 2)), (6, 2, (.tmp 3)), (8, 2, (.tmp 4))]))⟩,
      ⟨none, none, (.op (.store 32 (.glob 1) (.tmp 5)))⟩])
  res := []
theorem c97 : CmpF Tryd.prog 97 a97 := chkF_cmp (F := Tryd.f97) (by kernel_rfl) mixed (by kernel_rfl)
end Go.Proofs.YtabddhmejpknbaaDoor
end
