/- Part of the proof: S1, S2, S3, S4, S5. -/
import Derived.Test.YtbfjmachkbhfnaaProg
import Derived.KernelRfl
import Derived.Test.YtbfjmachkbhfnaaD
set_option linter.unnecessarySimpa false
set_option linter.unusedVariables false
set_option linter.unusedSimpArgs false
section
namespace Go.Proofs.Ytbfjmachkbhfnaa
open Go Go.Proofs.Ytbfjmachkbhfnaa.AL
theorem mixed : Try.prog.follows .mixedOrders = true := by kernel_rfl
/-- gosem.cut.init -/
def a2 : AF where
  nt := 1
  body := (.region none [
      ⟨(some 0), none, (.call (.dat (.fn (.func 1) [] [])) [])⟩])
  res := []
theorem c2 : CmpF Try.prog 2 a2 := chkF_cmp (F := Try.f2) (by kernel_rfl) mixed (by kernel_rfl)
/-- hansard/hansardlaw06.NetworkSpec -/
def a3 : AF where
  nt := 46
  body := (.seq (.region none [
      ⟨(some 2), none, (.op (.box true (.tmp 0)))⟩,
      ⟨(some 3), none, (.op (.box true (.tmp 1)))⟩,
      ⟨(some 4), none, (.op (.mov (.dat (.lit (.bool false)))))⟩])
    (.seq (.seq (.region none [
      ⟨(some 9), none, (.call (.dat (.fn (.func 9) [] [])) [])⟩,
      ⟨(some 10), none, (.op (.not (.tmp 9)))⟩])
    (.cond (.tmp 10)
      (.seq (.region none [
        ⟨(some 4), none, (.op (.mov (.dat (.lit (.bool false)))))⟩])
      .ret)
      .skip))
    (.seq (.seq (.region none [
      ⟨(some 11), none, (.op (.load 2 true (.tmp 2)))⟩,
      ⟨(some 12), none, (.call (.dat (.fn (.func 10) [] [])) [(.tmp 11)])⟩,
      ⟨(some 13), none, (.op (.not (.tmp 12)))⟩])
    (.cond (.tmp 13)
      (.seq (.region none [
        ⟨(some 4), none, (.op (.mov (.dat (.lit (.bool true)))))⟩])
      .ret)
      .skip))
    (.seq (.region none [
      ⟨(some 15), none, (.op (.load 2 true (.tmp 2)))⟩,
      ⟨(some 16), none, (.op (.load 3 true (.tmp 3)))⟩,
      ⟨(some 17), none, (.call (.dat (.fn (.func 11) [] [])) [(.tmp 15), (.tmp 16)])⟩,
      ⟨(some 14), none, (.op (.mov (.tmp 17)))⟩,
      ⟨(some 18), none, (.op (.extract (.tmp 14) 0))⟩,
      ⟨(some 19), none, (.op (.extract (.tmp 14) 1))⟩,
      ⟨(some 5), none, (.op (.alloc true [.nil 3, .nil 2]))⟩,
      ⟨none, none, (.op (.store 2 (.tmp 5) (.tmp 18)))⟩,
      ⟨(some 6), none, (.op (.mov (.tmp 19)))⟩])
    (.seq (.region none [
      ⟨(some 21), none, (.op (.load 2 true (.tmp 2)))⟩,
      ⟨(some 22), none, (.op (.load 3 true (.tmp 3)))⟩,
      ⟨(some 23), none, (.call (.dat (.fn (.func 12) [] [])) [(.tmp 21), (.tmp 22)])⟩,
      ⟨(some 20), none, (.op (.mov (.tmp 23)))⟩,
      ⟨(some 24), none, (.op (.extract (.tmp 20) 0))⟩,
      ⟨(some 25), none, (.op (.extract (.tmp 20) 1))⟩,
      ⟨(some 7), none, (.op (.alloc true [.nil 3, .nil 2]))⟩,
      ⟨none, none, (.op (.store 2 (.tmp 7) (.tmp 24)))⟩,
      ⟨(some 8), none, (.op (.mov (.tmp 25)))⟩])
    (.seq (.region (some [[], [0], [], [0, 1, 2], [0, 1, 2, 3], [0, 1, 2, 3, 4], [0, 1, 2, 3, 4, 5], [0, 1, 2, 3, 4, 5], [0, 1, 2, 3, 4, 5, 6, 7], [0, 1, 2, 3, 4, 5, 6, 7, 8], [0, 1, 2, 3, 4, 5, 6, 7, 8, 9], [0, 1, 2, 3, 4, 5, 6, 7, 8, 9, 10], [0, 1, 2, 3, 4, 5, 6, 7, 8, 9, 10], [0, 1, 2, 3, 4, 5, 6, 7, 8, 9, 10, 11, 12], [0, 1, 2, 3, 4, 5, 6, 7, 8, 9, 10, 11, 12, 13], [0, 1, 2, 3, 4, 5, 6, 7, 8, 9, 10, 11, 12, 13, 14], [0, 1, 2, 3, 4, 5, 6, 7, 8, 9, 10, 11, 12, 13, 14, 15], [0, 1, 2, 3, 4, 5, 6, 7, 8, 9, 10, 11, 12, 13, 14, 15, 16], [0, 1, 2, 3, 4, 5, 6, 7, 8, 9, 10, 11, 12, 13, 14, 15, 16, 17], [0, 1, 2, 3, 4, 5, 6, 7, 8, 9, 10, 11, 12, 13, 14, 15, 16, 17, 18], [0, 1, 2, 3, 4, 5, 6, 7, 8, 9, 10, 11, 12, 13, 14, 15, 16, 17, 18, 19]]) [
      ⟨(some 26), none, (.op (.load 2 true (.tmp 2)))⟩,
      ⟨(some 27), none, (.call (.dat (.fn (.func 13) [] [])) [(.tmp 26)])⟩,
      ⟨(some 28), none, (.op (.load 2 true (.tmp 2)))⟩,
      ⟨(some 29), none, (.call (.dat (.fn (.func 14) [] [])) [(.tmp 28)])⟩,
      ⟨(some 30), none, (.op (.arith .eql (.tmp 27) (.tmp 29)))⟩,
      ⟨(some 31), none, (.op (.mov (.tmp 30)))⟩,
      ⟨(some 32), (some (31, true)), (.op (.load 2 true (.tmp 5)))⟩,
      ⟨(some 33), (some (31, true)), (.op (.load 2 true (.tmp 7)))⟩,
      ⟨(some 34), (some (31, true)), (.call (.dat (.fn (.func 15) [] [])) [(.tmp 32), (.tmp 33)])⟩,
      ⟨(some 35), none, (.op (.pick (.tmp 31) (.tmp 34) (.dat (.lit (.bool false)))))⟩,
      ⟨(some 36), none, (.op (.mov (.tmp 35)))⟩,
      ⟨(some 37), (some (36, true)), (.op (.mov (.tmp 6)))⟩,
      ⟨(some 38), (some (36, true)), (.op (.mov (.tmp 8)))⟩,
      ⟨(some 39), (some (36, true)), (.op (.arith .eql (.tmp 37) (.tmp 38)))⟩,
      ⟨(some 40), none, (.op (.pick (.tmp 36) (.tmp 39) (.dat (.lit (.bool false)))))⟩,
      ⟨(some 41), none, (.op (.mov (.tmp 40)))⟩,
      ⟨(some 42), (some (41, true)), (.call (.dat (.fn (.func 16) [] [])) [])⟩,
      ⟨(some 43), (some (41, true)), (.call (.dat (.fn (.func 17) [] [])) [])⟩,
      ⟨(some 44), (some (41, true)), (.call (.dat (.fn (.func 15) [] [])) [(.tmp 42), (.tmp 43)])⟩,
      ⟨(some 45), none, (.op (.pick (.tmp 41) (.tmp 44) (.dat (.lit (.bool false)))))⟩,
      ⟨(some 4), none, (.op (.mov (.tmp 45)))⟩])
    .ret))))))
  res := [.tmp 4]
theorem c3 : CmpF Try.prog 3 a3 := chkF_cmp (F := Try.f3) (by kernel_rfl) mixed (by kernel_rfl)
/-- hansard/hansardlaw06.NetworkAll -/
def a4 : AF where
  nt := 96
  body := (.seq (.region none [
      ⟨(some 4), none, (.op (.mov (.dat (.lit (.bool false)))))⟩])
    (.seq (.seq (.region none [
      ⟨(some 15), none, (.call (.dat (.fn (.func 9) [] [])) [])⟩,
      ⟨(some 16), none, (.op (.not (.tmp 15)))⟩])
    (.cond (.tmp 16)
      (.seq (.region none [
        ⟨(some 4), none, (.op (.mov (.dat (.lit (.bool false)))))⟩])
      .ret)
      .skip))
    (.seq (.seq (.region none [
      ⟨(some 17), none, (.op (.mov (.tmp 0)))⟩,
      ⟨(some 18), none, (.op (.len (.tmp 17)))⟩,
      ⟨(some 19), none, (.op (.arith .gtr (.tmp 18) (.dat (.lit (.int .i64 12)))))⟩])
    (.cond (.tmp 19)
      (.seq (.region none [
        ⟨(some 4), none, (.op (.mov (.dat (.lit (.bool true)))))⟩])
      .ret)
      .skip))
    (.seq (.region none [
      ⟨(some 20), none, (.call (.dat (.fn (.func 16) [] [])) [])⟩,
      ⟨(some 5), none, (.op (.alloc true [.nil 3, .nil 2]))⟩,
      ⟨none, none, (.op (.store 2 (.tmp 5) (.tmp 20)))⟩])
    (.seq (.region none [
      ⟨(some 6), none, (.op (.mov (.dat (.nil 3))))⟩])
    (.seq (.seq (.region none [
      ⟨(some 7), none, (.op (.mov (.dat (.lit (.int .i64 0)))))⟩])
    (.block 0
      (.loop
        (.seq (.seq (.region none [
          ⟨(some 21), none, (.op (.mov (.tmp 7)))⟩,
          ⟨(some 22), none, (.op (.mov (.tmp 0)))⟩,
          ⟨(some 23), none, (.op (.len (.tmp 22)))⟩,
          ⟨(some 24), none, (.op (.arith .lss (.tmp 21) (.tmp 23)))⟩])
        (.cond (.tmp 24)
          .skip
          (.exit 0)))
        (.seq (.block 1
          (.seq (.region (some [[], [], [], [1, 2], [1, 2, 3], [0, 1, 2, 3, 4], [0, 1, 2, 3, 4, 5], [0, 1, 2, 3, 4, 5, 6], [0, 1, 2, 3, 4, 5, 6], [], [0, 1, 2, 3, 4, 5, 6, 7, 9], [0, 1, 2, 3, 4, 5, 6, 7, 8, 9, 10]]) [
            ⟨(some 28), none, (.op (.load 2 true (.tmp 5)))⟩,
            ⟨(some 29), none, (.op (.mov (.tmp 0)))⟩,
            ⟨(some 30), none, (.op (.mov (.tmp 7)))⟩,
            ⟨(some 31), none, (.op (.index 3 (.tmp 29) (.tmp 30)))⟩,
            ⟨(some 32), none, (.op (.load 3 true (.tmp 31)))⟩,
            ⟨(some 33), none, (.call (.dat (.fn (.func 11) [] [])) [(.tmp 28), (.tmp 32)])⟩,
            ⟨(some 27), none, (.op (.mov (.tmp 33)))⟩,
            ⟨(some 34), none, (.op (.extract (.tmp 27) 0))⟩,
            ⟨(some 35), none, (.op (.extract (.tmp 27) 1))⟩,
            ⟨(some 8), none, (.op (.alloc true [.nil 3, .nil 2]))⟩,
            ⟨none, none, (.op (.store 2 (.tmp 8) (.tmp 34)))⟩,
            ⟨(some 9), none, (.op (.mov (.tmp 35)))⟩])
          (.seq (.region none [
            ⟨(some 36), none, (.op (.mov (.tmp 9)))⟩,
            ⟨(some 37), none, (.op (.arith .eql (.tmp 36) (.dat (.lit (.int .i64 0)))))⟩])
          (.cond (.tmp 37)
            (.seq (.region none [
              ⟨(some 38), none, (.op (.load 2 true (.tmp 8)))⟩,
              ⟨none, none, (.op (.store 2 (.tmp 5) (.tmp 38)))⟩])
            (.region none [
              ⟨(some 39), none, (.op (.mov (.tmp 6)))⟩,
              ⟨(some 40), none, (.op (.mov (.tmp 0)))⟩,
              ⟨(some 41), none, (.op (.mov (.tmp 7)))⟩,
              ⟨(some 42), none, (.op (.index 3 (.tmp 40) (.tmp 41)))⟩,
              ⟨(some 43), none, (.op (.load 3 true (.tmp 42)))⟩,
              ⟨(some 44), none, (.op (.mkslice 3 [(.tmp 43)]))⟩,
              ⟨(some 45), none, (.op (.append 3 40 (.tmp 39) (.tmp 44)))⟩,
              ⟨(some 6), none, (.op (.mov (.tmp 45)))⟩]))
            .skip))))
        (.region none [
          ⟨(some 25), none, (.op (.mov (.tmp 7)))⟩,
          ⟨(some 26), none, (.op (.arith .add (.tmp 25) (.dat (.lit (.int .i64 1)))))⟩,
          ⟨(some 7), none, (.op (.mov (.tmp 26)))⟩]))))))
    (.seq (.seq (.region none [
      ⟨(some 10), none, (.op (.mov (.dat (.lit (.int .i64 0)))))⟩])
    (.block 2
      (.loop
        (.seq (.seq (.region none [
          ⟨(some 46), none, (.op (.mov (.tmp 6)))⟩,
          ⟨(some 47), none, (.op (.len (.tmp 46)))⟩,
          ⟨(some 48), none, (.op (.arith .gtr (.tmp 47) (.dat (.lit (.int .i64 0)))))⟩])
        (.cond (.tmp 48)
          .skip
          (.exit 2)))
        (.seq (.block 3
          (.seq (.region none [
            ⟨(some 11), none, (.op (.mov (.dat (.lit (.int .i64 0)))))⟩])
          (.seq (.seq (.region none [
            ⟨(some 51), none, (.op (.mov (.tmp 10)))⟩,
            ⟨(some 52), none, (.op (.mov (.tmp 1)))⟩,
            ⟨(some 53), none, (.op (.len (.tmp 52)))⟩,
            ⟨(some 54), none, (.op (.arith .lss (.tmp 51) (.tmp 53)))⟩])
          (.cond (.tmp 54)
            (.region none [
              ⟨(some 55), none, (.op (.mov (.tmp 1)))⟩,
              ⟨(some 56), none, (.op (.mov (.tmp 10)))⟩,
              ⟨(some 57), none, (.op (.index 1 (.tmp 55) (.tmp 56)))⟩,
              ⟨(some 58), none, (.op (.load 1 false (.tmp 57)))⟩,
              ⟨(some 59), none, (.op (.conv .i64 (.tmp 58)))⟩,
              ⟨(some 60), none, (.op (.mov (.tmp 6)))⟩,
              ⟨(some 61), none, (.op (.len (.tmp 60)))⟩,
              ⟨(some 62), none, (.op (.arith .rem (.tmp 59) (.tmp 61)))⟩,
              ⟨(some 11), none, (.op (.mov (.tmp 62)))⟩])
            .skip))
          (.seq (.region none [
            ⟨(some 64), none, (.op (.load 2 true (.tmp 5)))⟩,
            ⟨(some 65), none, (.op (.mov (.tmp 11)))⟩,
            ⟨(some 66), none, (.call (.dat (.fn (.func 18) [] [])) [(.tmp 64), (.tmp 65)])⟩,
            ⟨(some 63), none, (.op (.mov (.tmp 66)))⟩,
            ⟨(some 67), none, (.op (.extract (.tmp 63) 0))⟩,
            ⟨(some 68), none, (.op (.extract (.tmp 63) 1))⟩,
            ⟨(some 69), none, (.op (.extract (.tmp 63) 2))⟩,
            ⟨(some 12), none, (.op (.alloc true [.lit (.int .i64 0), .lit (.int .i64 0), .nil 1]))⟩,
            ⟨(some 13), none, (.op (.alloc true [.nil 3, .nil 2]))⟩,
            ⟨none, none, (.op (.store 3 (.tmp 12) (.tmp 67)))⟩,
            ⟨none, none, (.op (.store 2 (.tmp 13) (.tmp 68)))⟩,
            ⟨(some 14), none, (.op (.mov (.tmp 69)))⟩])
          (.seq (.seq (.region (some [[], [0], [0, 1], [0, 1, 2], [0, 1, 2], [0, 1, 2], [0, 1, 2, 4, 5], [0, 1, 2, 4, 5, 6], [0, 1, 2, 3, 4, 5, 6, 7], [0, 1, 2, 3, 4, 5, 6, 7, 8], [0, 1, 2, 3, 4, 5, 6, 7, 8, 9]]) [
            ⟨(some 70), none, (.op (.mov (.tmp 14)))⟩,
            ⟨(some 71), none, (.op (.arith .neq (.tmp 70) (.dat (.lit (.int .i64 0)))))⟩,
            ⟨(some 72), none, (.op (.mov (.tmp 71)))⟩,
            ⟨(some 73), (some (72, false)), (.op (.load 3 true (.tmp 12)))⟩,
            ⟨(some 74), (some (72, false)), (.op (.mov (.tmp 6)))⟩,
            ⟨(some 75), (some (72, false)), (.op (.mov (.tmp 11)))⟩,
            ⟨(some 76), (some (72, false)), (.op (.index 3 (.tmp 74) (.tmp 75)))⟩,
            ⟨(some 77), (some (72, false)), (.op (.load 3 true (.tmp 76)))⟩,
            ⟨(some 78), (some (72, false)), (.call (.dat (.fn (.func 19) [] [])) [(.tmp 73), (.tmp 77)])⟩,
            ⟨(some 79), (some (72, false)), (.op (.not (.tmp 78)))⟩,
            ⟨(some 80), none, (.op (.pick (.tmp 72) (.dat (.lit (.bool true))) (.tmp 79)))⟩])
          (.cond (.tmp 80)
            (.seq (.region none [
              ⟨(some 4), none, (.op (.mov (.dat (.lit (.bool false)))))⟩])
            .ret)
            .skip))
          (.seq (.region none [
            ⟨(some 81), none, (.op (.load 2 true (.tmp 13)))⟩,
            ⟨none, none, (.op (.store 2 (.tmp 5) (.tmp 81)))⟩])
          (.region (some [[], [], [], [1, 2], [0, 1, 2, 3], [], [], [6], [5, 6, 7], [0, 1, 2, 3, 4, 5, 6, 7, 8], [0, 1, 2, 3, 4, 5, 6, 7, 8, 9]]) [
            ⟨(some 82), none, (.op (.mkslice 3 []))⟩,
            ⟨(some 83), none, (.op (.mov (.tmp 6)))⟩,
            ⟨(some 84), none, (.op (.mov (.tmp 11)))⟩,
            ⟨(some 85), none, (.op (.slice 3 (.tmp 83) none (some (.tmp 84))))⟩,
            ⟨(some 86), none, (.op (.append 3 40 (.tmp 82) (.tmp 85)))⟩,
            ⟨(some 87), none, (.op (.mov (.tmp 6)))⟩,
            ⟨(some 88), none, (.op (.mov (.tmp 11)))⟩,
            ⟨(some 89), none, (.op (.arith .add (.tmp 88) (.dat (.lit (.int .i64 1)))))⟩,
            ⟨(some 90), none, (.op (.slice 3 (.tmp 87) (some (.tmp 89)) none))⟩,
            ⟨(some 91), none, (.op (.append 3 40 (.tmp 86) (.tmp 90)))⟩,
            ⟨(some 6), none, (.op (.mov (.tmp 91)))⟩])))))))
        (.region none [
          ⟨(some 49), none, (.op (.mov (.tmp 10)))⟩,
          ⟨(some 50), none, (.op (.arith .add (.tmp 49) (.dat (.lit (.int .i64 1)))))⟩,
          ⟨(some 10), none, (.op (.mov (.tmp 50)))⟩]))))))
    (.seq (.region none [
      ⟨(some 92), none, (.op (.field 0 1 false (.tmp 5)))⟩,
      ⟨(some 93), none, (.op (.load 1 false (.tmp 92)))⟩,
      ⟨(some 94), none, (.op (.len (.tmp 93)))⟩,
      ⟨(some 95), none, (.op (.arith .eql (.tmp 94) (.dat (.lit (.int .i64 0)))))⟩,
      ⟨(some 4), none, (.op (.mov (.tmp 95)))⟩])
    .ret))))))))
  res := [.tmp 4]
theorem c4 : CmpF Try.prog 4 a4 := chkF_cmp (F := Try.f4) (by kernel_rfl) mixed (by kernel_rfl)
/-- hansard/hansardlaw06.NetworkCuts -/
def a5 : AF where
  nt := 191
  body := (.seq (.region none [
      ⟨(some 4), none, (.op (.box true (.tmp 0)))⟩,
      ⟨(some 8), none, (.op (.mov (.dat (.lit (.bool false)))))⟩])
    (.seq (.seq (.region none [
      ⟨(some 27), none, (.call (.dat (.fn (.func 9) [] [])) [])⟩,
      ⟨(some 28), none, (.op (.not (.tmp 27)))⟩])
    (.cond (.tmp 28)
      (.seq (.region none [
        ⟨(some 8), none, (.op (.mov (.dat (.lit (.bool false)))))⟩])
      .ret)
      .skip))
    (.seq (.seq (.region none [
      ⟨(some 29), none, (.op (.load 2 true (.tmp 4)))⟩,
      ⟨(some 30), none, (.call (.dat (.fn (.func 10) [] [])) [(.tmp 29)])⟩,
      ⟨(some 31), none, (.op (.not (.tmp 30)))⟩,
      ⟨(some 32), none, (.op (.mov (.tmp 31)))⟩,
      ⟨(some 33), (some (32, false)), (.op (.load 2 true (.tmp 4)))⟩,
      ⟨(some 34), (some (32, false)), (.call (.dat (.fn (.func 13) [] [])) [(.tmp 33)])⟩,
      ⟨(some 35), (some (32, false)), (.op (.arith .neq (.tmp 34) (.dat (.lit (.int .i64 0)))))⟩,
      ⟨(some 36), none, (.op (.pick (.tmp 32) (.dat (.lit (.bool true))) (.tmp 35)))⟩])
    (.cond (.tmp 36)
      (.seq (.region none [
        ⟨(some 8), none, (.op (.mov (.dat (.lit (.bool true)))))⟩])
      .ret)
      .skip))
    (.seq (.region none [
      ⟨(some 38), none, (.op (.load 2 true (.tmp 4)))⟩,
      ⟨(some 39), none, (.op (.mov (.tmp 1)))⟩,
      ⟨(some 40), none, (.op (.mov (.tmp 2)))⟩,
      ⟨(some 41), none, (.call (.dat (.fn (.func 20) [] [])) [(.tmp 38), (.tmp 39), (.tmp 40), (.dat (.lit (.bool true)))])⟩,
      ⟨(some 37), none, (.op (.mov (.tmp 41)))⟩,
      ⟨(some 42), none, (.op (.extract (.tmp 37) 0))⟩,
      ⟨(some 43), none, (.op (.extract (.tmp 37) 1))⟩,
      ⟨(some 9), none, (.op (.alloc true [.nil 3, .nil 2]))⟩,
      ⟨none, none, (.op (.store 2 (.tmp 9) (.tmp 42)))⟩,
      ⟨(some 10), none, (.op (.mov (.tmp 43)))⟩])
    (.seq (.seq (.region none [
      ⟨(some 44), none, (.op (.mov (.tmp 10)))⟩,
      ⟨(some 45), none, (.op (.arith .neq (.tmp 44) (.dat (.lit (.int .i64 0)))))⟩])
    (.cond (.tmp 45)
      (.seq (.region none [
        ⟨(some 46), none, (.op (.mov (.tmp 10)))⟩,
        ⟨(some 47), none, (.op (.arith .eql (.tmp 46) (.dat (.lit (.int .i64 1)))))⟩,
        ⟨(some 8), none, (.op (.mov (.tmp 47)))⟩])
      .ret)
      .skip))
    (.seq (.region none [
      ⟨(some 49), none, (.op (.load 2 true (.tmp 4)))⟩,
      ⟨(some 50), none, (.op (.mov (.tmp 2)))⟩,
      ⟨(some 51), none, (.op (.mov (.tmp 1)))⟩,
      ⟨(some 52), none, (.call (.dat (.fn (.func 20) [] [])) [(.tmp 49), (.tmp 50), (.tmp 51), (.dat (.lit (.bool true)))])⟩,
      ⟨(some 48), none, (.op (.mov (.tmp 52)))⟩,
      ⟨(some 53), none, (.op (.extract (.tmp 48) 0))⟩,
      ⟨(some 54), none, (.op (.extract (.tmp 48) 1))⟩,
      ⟨(some 11), none, (.op (.alloc true [.nil 3, .nil 2]))⟩,
      ⟨none, none, (.op (.store 2 (.tmp 11) (.tmp 53)))⟩,
      ⟨(some 12), none, (.op (.mov (.tmp 54)))⟩])
    (.seq (.region none [
      ⟨(some 56), none, (.op (.load 2 true (.tmp 9)))⟩,
      ⟨(some 57), none, (.op (.mov (.tmp 1)))⟩,
      ⟨(some 58), none, (.op (.mov (.tmp 2)))⟩,
      ⟨(some 59), none, (.call (.dat (.fn (.func 20) [] [])) [(.tmp 56), (.tmp 57), (.tmp 58), (.dat (.lit (.bool true)))])⟩,
      ⟨(some 55), none, (.op (.mov (.tmp 59)))⟩,
      ⟨(some 60), none, (.op (.extract (.tmp 55) 0))⟩,
      ⟨(some 61), none, (.op (.extract (.tmp 55) 1))⟩,
      ⟨(some 13), none, (.op (.alloc true [.nil 3, .nil 2]))⟩,
      ⟨none, none, (.op (.store 2 (.tmp 13) (.tmp 60)))⟩,
      ⟨(some 14), none, (.op (.mov (.tmp 61)))⟩])
    (.seq (.region none [
      ⟨(some 63), none, (.op (.load 2 true (.tmp 9)))⟩,
      ⟨(some 64), none, (.op (.mov (.tmp 2)))⟩,
      ⟨(some 65), none, (.op (.mov (.tmp 1)))⟩,
      ⟨(some 66), none, (.call (.dat (.fn (.func 20) [] [])) [(.tmp 63), (.tmp 64), (.tmp 65), (.dat (.lit (.bool false)))])⟩,
      ⟨(some 62), none, (.op (.mov (.tmp 66)))⟩,
      ⟨(some 67), none, (.op (.extract (.tmp 62) 0))⟩,
      ⟨(some 68), none, (.op (.extract (.tmp 62) 1))⟩,
      ⟨(some 15), none, (.op (.alloc true [.nil 3, .nil 2]))⟩,
      ⟨none, none, (.op (.store 2 (.tmp 15) (.tmp 67)))⟩,
      ⟨(some 16), none, (.op (.mov (.tmp 68)))⟩])
    (.seq (.region none [
      ⟨(some 70), none, (.op (.load 2 true (.tmp 4)))⟩,
      ⟨(some 71), none, (.op (.mov (.tmp 1)))⟩,
      ⟨(some 72), none, (.op (.mov (.tmp 2)))⟩,
      ⟨(some 73), none, (.call (.dat (.fn (.func 20) [] [])) [(.tmp 70), (.tmp 71), (.tmp 72), (.dat (.lit (.bool false)))])⟩,
      ⟨(some 69), none, (.op (.mov (.tmp 73)))⟩,
      ⟨(some 74), none, (.op (.extract (.tmp 69) 0))⟩,
      ⟨(some 75), none, (.op (.extract (.tmp 69) 1))⟩,
      ⟨(some 17), none, (.op (.alloc true [.nil 3, .nil 2]))⟩,
      ⟨none, none, (.op (.store 2 (.tmp 17) (.tmp 74)))⟩,
      ⟨(some 18), none, (.op (.mov (.tmp 75)))⟩])
    (.seq (.seq (.region none [
      ⟨(some 76), none, (.op (.mov (.tmp 12)))⟩,
      ⟨(some 77), none, (.op (.arith .neq (.tmp 76) (.dat (.lit (.int .i64 0)))))⟩,
      ⟨(some 78), none, (.op (.mov (.tmp 77)))⟩,
      ⟨(some 79), (some (78, false)), (.op (.mov (.tmp 14)))⟩,
      ⟨(some 80), (some (78, false)), (.op (.arith .neq (.tmp 79) (.dat (.lit (.int .i64 0)))))⟩,
      ⟨(some 81), none, (.op (.pick (.tmp 78) (.dat (.lit (.bool true))) (.tmp 80)))⟩,
      ⟨(some 82), none, (.op (.mov (.tmp 81)))⟩,
      ⟨(some 83), (some (82, false)), (.op (.mov (.tmp 16)))⟩,
      ⟨(some 84), (some (82, false)), (.op (.arith .neq (.tmp 83) (.dat (.lit (.int .i64 0)))))⟩,
      ⟨(some 85), none, (.op (.pick (.tmp 82) (.dat (.lit (.bool true))) (.tmp 84)))⟩,
      ⟨(some 86), none, (.op (.mov (.tmp 85)))⟩,
      ⟨(some 87), (some (86, false)), (.op (.mov (.tmp 18)))⟩,
      ⟨(some 88), (some (86, false)), (.op (.arith .neq (.tmp 87) (.dat (.lit (.int .i64 0)))))⟩,
      ⟨(some 89), none, (.op (.pick (.tmp 86) (.dat (.lit (.bool true))) (.tmp 88)))⟩,
      ⟨(some 90), none, (.op (.mov (.tmp 89)))⟩,
      ⟨(some 91), (some (90, false)), (.op (.load 2 true (.tmp 9)))⟩,
      ⟨(some 92), (some (90, false)), (.op (.load 2 true (.tmp 11)))⟩,
      ⟨(some 93), (some (90, false)), (.call (.dat (.fn (.func 15) [] [])) [(.tmp 91), (.tmp 92)])⟩,
      ⟨(some 94), (some (90, false)), (.op (.not (.tmp 93)))⟩,
      ⟨(some 95), none, (.op (.pick (.tmp 90) (.dat (.lit (.bool true))) (.tmp 94)))⟩,
      ⟨(some 96), none, (.op (.mov (.tmp 95)))⟩,
      ⟨(some 97), (some (96, false)), (.op (.load 2 true (.tmp 9)))⟩,
      ⟨(some 98), (some (96, false)), (.op (.load 2 true (.tmp 13)))⟩,
      ⟨(some 99), (some (96, false)), (.call (.dat (.fn (.func 15) [] [])) [(.tmp 97), (.tmp 98)])⟩,
      ⟨(some 100), (some (96, false)), (.op (.not (.tmp 99)))⟩,
      ⟨(some 101), none, (.op (.pick (.tmp 96) (.dat (.lit (.bool true))) (.tmp 100)))⟩,
      ⟨(some 102), none, (.op (.mov (.tmp 101)))⟩,
      ⟨(some 103), (some (102, false)), (.op (.load 2 true (.tmp 15)))⟩,
      ⟨(some 104), (some (102, false)), (.op (.load 2 true (.tmp 17)))⟩,
      ⟨(some 105), (some (102, false)), (.call (.dat (.fn (.func 15) [] [])) [(.tmp 103), (.tmp 104)])⟩,
      ⟨(some 106), (some (102, false)), (.op (.not (.tmp 105)))⟩,
      ⟨(some 107), none, (.op (.pick (.tmp 102) (.dat (.lit (.bool true))) (.tmp 106)))⟩,
      ⟨(some 108), none, (.op (.mov (.tmp 107)))⟩,
      ⟨(some 109), (some (108, false)), (.op (.field 1 1 false (.tmp 9)))⟩,
      ⟨(some 110), (some (108, false)), (.op (.load 1 false (.tmp 109)))⟩,
      ⟨(some 111), (some (108, false)), (.op (.len (.tmp 110)))⟩,
      ⟨(some 112), (some (108, false)), (.op (.field 1 1 false (.tmp 17)))⟩,
      ⟨(some 113), (some (108, false)), (.op (.load 1 false (.tmp 112)))⟩,
      ⟨(some 114), (some (108, false)), (.op (.len (.tmp 113)))⟩,
      ⟨(some 115), (some (108, false)), (.op (.arith .add (.tmp 114) (.dat (.lit (.int .i64 1)))))⟩,
      ⟨(some 116), (some (108, false)), (.op (.arith .neq (.tmp 111) (.tmp 115)))⟩,
      ⟨(some 117), none, (.op (.pick (.tmp 108) (.dat (.lit (.bool true))) (.tmp 116)))⟩])
    (.cond (.tmp 117)
      (.seq (.region none [
        ⟨(some 8), none, (.op (.mov (.dat (.lit (.bool false)))))⟩])
      .ret)
      .skip))
    (.seq (.seq (.region none [
      ⟨(some 118), none, (.op (.field 0 1 false (.tmp 4)))⟩,
      ⟨(some 119), none, (.op (.load 1 false (.tmp 118)))⟩,
      ⟨(some 120), none, (.op (.len (.tmp 119)))⟩,
      ⟨(some 121), none, (.op (.arith .eql (.tmp 120) (.dat (.lit (.int .i64 0)))))⟩])
    (.cond (.tmp 121)
      (.seq (.region none [
        ⟨(some 8), none, (.op (.mov (.dat (.lit (.bool true)))))⟩])
      .ret)
      .skip))
    (.seq (.region none [
      ⟨(some 122), none, (.op (.mov (.tmp 3)))⟩,
      ⟨(some 123), none, (.op (.field 0 1 false (.tmp 4)))⟩,
      ⟨(some 124), none, (.op (.load 1 false (.tmp 123)))⟩,
      ⟨(some 125), none, (.op (.len (.tmp 124)))⟩,
      ⟨(some 126), none, (.op (.conv .u64 (.tmp 125)))⟩,
      ⟨(some 127), none, (.op (.arith .rem (.tmp 122) (.tmp 126)))⟩,
      ⟨(some 128), none, (.op (.conv .i64 (.tmp 127)))⟩,
      ⟨(some 19), none, (.op (.mov (.tmp 128)))⟩])
    (.seq (.region none [
      ⟨(some 130), none, (.op (.load 2 true (.tmp 9)))⟩,
      ⟨(some 131), none, (.op (.mov (.tmp 19)))⟩,
      ⟨(some 132), none, (.call (.dat (.fn (.func 18) [] [])) [(.tmp 130), (.tmp 131)])⟩,
      ⟨(some 129), none, (.op (.mov (.tmp 132)))⟩,
      ⟨(some 133), none, (.op (.extract (.tmp 129) 0))⟩,
      ⟨(some 134), none, (.op (.extract (.tmp 129) 1))⟩,
      ⟨(some 135), none, (.op (.extract (.tmp 129) 2))⟩,
      ⟨(some 20), none, (.op (.alloc true [.lit (.int .i64 0), .lit (.int .i64 0), .nil 1]))⟩,
      ⟨(some 21), none, (.op (.alloc true [.nil 3, .nil 2]))⟩,
      ⟨none, none, (.op (.store 3 (.tmp 20) (.tmp 133)))⟩,
      ⟨none, none, (.op (.store 2 (.tmp 21) (.tmp 134)))⟩,
      ⟨(some 22), none, (.op (.mov (.tmp 135)))⟩])
    (.seq (.region none [
      ⟨(some 137), none, (.op (.load 2 true (.tmp 17)))⟩,
      ⟨(some 138), none, (.op (.mov (.tmp 19)))⟩,
      ⟨(some 139), none, (.call (.dat (.fn (.func 18) [] [])) [(.tmp 137), (.tmp 138)])⟩,
      ⟨(some 136), none, (.op (.mov (.tmp 139)))⟩,
      ⟨(some 140), none, (.op (.extract (.tmp 136) 0))⟩,
      ⟨(some 141), none, (.op (.extract (.tmp 136) 1))⟩,
      ⟨(some 142), none, (.op (.extract (.tmp 136) 2))⟩,
      ⟨(some 23), none, (.op (.alloc true [.lit (.int .i64 0), .lit (.int .i64 0), .nil 1]))⟩,
      ⟨(some 24), none, (.op (.alloc true [.nil 3, .nil 2]))⟩,
      ⟨none, none, (.op (.store 3 (.tmp 23) (.tmp 140)))⟩,
      ⟨none, none, (.op (.store 2 (.tmp 24) (.tmp 141)))⟩,
      ⟨(some 25), none, (.op (.mov (.tmp 142)))⟩])
    (.seq (.region none [
      ⟨(some 143), none, (.op (.field 0 1 false (.tmp 23)))⟩,
      ⟨(some 144), none, (.op (.load 1 false (.tmp 143)))⟩,
      ⟨(some 145), none, (.op (.mov (.tmp 1)))⟩,
      ⟨(some 146), none, (.op (.arith .eql (.tmp 144) (.tmp 145)))⟩,
      ⟨(some 147), none, (.op (.mov (.tmp 146)))⟩,
      ⟨(some 148), (some (147, true)), (.op (.field 1 1 false (.tmp 23)))⟩,
      ⟨(some 149), (some (147, true)), (.op (.load 1 false (.tmp 148)))⟩,
      ⟨(some 150), (some (147, true)), (.op (.mov (.tmp 2)))⟩,
      ⟨(some 151), (some (147, true)), (.op (.arith .eql (.tmp 149) (.tmp 150)))⟩,
      ⟨(some 152), none, (.op (.pick (.tmp 147) (.tmp 151) (.dat (.lit (.bool false)))))⟩,
      ⟨(some 153), none, (.op (.mov (.tmp 152)))⟩,
      ⟨(some 154), (some (153, false)), (.op (.field 0 1 false (.tmp 23)))⟩,
      ⟨(some 155), (some (153, false)), (.op (.load 1 false (.tmp 154)))⟩,
      ⟨(some 156), (some (153, false)), (.op (.mov (.tmp 2)))⟩,
      ⟨(some 157), (some (153, false)), (.op (.arith .eql (.tmp 155) (.tmp 156)))⟩,
      ⟨(some 158), (some (153, false)), (.op (.mov (.tmp 157)))⟩,
      ⟨(some 159), (some (158, true)), (.op (.field 1 1 false (.tmp 23)))⟩,
      ⟨(some 160), (some (158, true)), (.op (.load 1 false (.tmp 159)))⟩,
      ⟨(some 161), (some (158, true)), (.op (.mov (.tmp 1)))⟩,
      ⟨(some 162), (some (158, true)), (.op (.arith .eql (.tmp 160) (.tmp 161)))⟩,
      ⟨(some 163), (some (153, false)), (.op (.pick (.tmp 158) (.tmp 162) (.dat (.lit (.bool false)))))⟩,
      ⟨(some 164), none, (.op (.pick (.tmp 153) (.dat (.lit (.bool true))) (.tmp 163)))⟩,
      ⟨(some 26), none, (.op (.mov (.tmp 164)))⟩])
    (.seq (.region none [
      ⟨(some 165), none, (.op (.mov (.tmp 22)))⟩,
      ⟨(some 166), none, (.op (.arith .eql (.tmp 165) (.dat (.lit (.int .i64 0)))))⟩,
      ⟨(some 167), none, (.op (.mov (.tmp 166)))⟩,
      ⟨(some 168), (some (167, true)), (.op (.mov (.tmp 25)))⟩,
      ⟨(some 169), (some (167, true)), (.op (.arith .eql (.tmp 168) (.dat (.lit (.int .i64 0)))))⟩,
      ⟨(some 170), none, (.op (.pick (.tmp 167) (.tmp 169) (.dat (.lit (.bool false)))))⟩,
      ⟨(some 171), none, (.op (.mov (.tmp 170)))⟩,
      ⟨(some 172), (some (171, true)), (.op (.load 3 true (.tmp 20)))⟩,
      ⟨(some 173), (some (171, true)), (.op (.build [.lit (.int .i64 0), .lit (.int .i64 0), .nil 1] []))⟩,
      ⟨(some 174), (some (171, true)), (.call (.dat (.fn (.func 19) [] [])) [(.tmp 172), (.tmp 173)])⟩,
      ⟨(some 175), (some (171, true)), (.op (.mov (.tmp 26)))⟩,
      ⟨(some 176), (some (171, true)), (.op (.mov (.tmp 175)))⟩,
      ⟨(some 177), (some (176, false)), (.op (.load 3 true (.tmp 23)))⟩,
      ⟨(some 178), (some (176, false)), (.op (.build [.lit (.int .i64 0), .lit (.int .i64 0), .nil 1] []))⟩,
      ⟨(some 179), (some (176, false)), (.call (.dat (.fn (.func 19) [] [])) [(.tmp 177), (.tmp 178)])⟩,
      ⟨(some 180), (some (171, true)), (.op (.pick (.tmp 176) (.dat (.lit (.bool true))) (.tmp 179)))⟩,
      ⟨(some 181), (some (171, true)), (.op (.ext (.eqBool false) [(.tmp 174), (.tmp 180)]))⟩,
      ⟨(some 182), none, (.op (.pick (.tmp 171) (.tmp 181) (.dat (.lit (.bool false)))))⟩,
      ⟨(some 183), none, (.op (.mov (.tmp 182)))⟩,
      ⟨(some 184), (some (183, true)), (.op (.mov (.tmp 26)))⟩,
      ⟨(some 185), (some (183, true)), (.op (.mov (.tmp 184)))⟩,
      ⟨(some 186), (some (185, false)), (.op (.load 3 true (.tmp 20)))⟩,
      ⟨(some 187), (some (185, false)), (.op (.load 3 true (.tmp 23)))⟩,
      ⟨(some 188), (some (185, false)), (.call (.dat (.fn (.func 19) [] [])) [(.tmp 186), (.tmp 187)])⟩,
      ⟨(some 189), (some (183, true)), (.op (.pick (.tmp 185) (.dat (.lit (.bool true))) (.tmp 188)))⟩,
      ⟨(some 190), none, (.op (.pick (.tmp 183) (.tmp 189) (.dat (.lit (.bool false)))))⟩,
      ⟨(some 8), none, (.op (.mov (.tmp 190)))⟩])
    .ret))))))))))))))))
  res := [.tmp 8]
theorem c5 : CmpF Try.prog 5 a5 := chkF_cmp (F := Try.f5) (by kernel_rfl) mixed (by kernel_rfl)
/-- hansard/hansardlaw06.NetworkMoveSpec -/
def a6 : AF where
  nt := 150
  body := (.seq (.region none [
      ⟨(some 5), none, (.op (.box true (.tmp 0)))⟩,
      ⟨(some 10), none, (.op (.mov (.dat (.lit (.bool false)))))⟩])
    (.seq (.seq (.region none [
      ⟨(some 25), none, (.call (.dat (.fn (.func 9) [] [])) [])⟩,
      ⟨(some 26), none, (.op (.not (.tmp 25)))⟩])
    (.cond (.tmp 26)
      (.seq (.region none [
        ⟨(some 10), none, (.op (.mov (.dat (.lit (.bool false)))))⟩])
      .ret)
      .skip))
    (.seq (.seq (.region none [
      ⟨(some 27), none, (.op (.load 2 true (.tmp 5)))⟩,
      ⟨(some 28), none, (.call (.dat (.fn (.func 10) [] [])) [(.tmp 27)])⟩,
      ⟨(some 29), none, (.op (.not (.tmp 28)))⟩])
    (.cond (.tmp 29)
      (.seq (.region none [
        ⟨(some 10), none, (.op (.mov (.dat (.lit (.bool true)))))⟩])
      .ret)
      .skip))
    (.seq (.region none [
      ⟨(some 31), none, (.op (.load 2 true (.tmp 5)))⟩,
      ⟨(some 32), none, (.op (.mov (.tmp 2)))⟩,
      ⟨(some 33), none, (.op (.mov (.tmp 3)))⟩,
      ⟨(some 34), none, (.op (.mov (.tmp 4)))⟩,
      ⟨(some 35), none, (.call (.dat (.fn (.func 20) [] [])) [(.tmp 31), (.tmp 32), (.tmp 33), (.tmp 34)])⟩,
      ⟨(some 30), none, (.op (.mov (.tmp 35)))⟩,
      ⟨(some 36), none, (.op (.extract (.tmp 30) 0))⟩,
      ⟨(some 37), none, (.op (.extract (.tmp 30) 1))⟩,
      ⟨(some 11), none, (.op (.alloc true [.nil 3, .nil 2]))⟩,
      ⟨none, none, (.op (.store 2 (.tmp 11) (.tmp 36)))⟩,
      ⟨(some 12), none, (.op (.mov (.tmp 37)))⟩])
    (.seq (.region none [
      ⟨(some 39), none, (.op (.load 2 true (.tmp 5)))⟩,
      ⟨(some 40), none, (.op (.mov (.tmp 2)))⟩,
      ⟨(some 41), none, (.op (.mov (.tmp 3)))⟩,
      ⟨(some 42), none, (.op (.mov (.tmp 4)))⟩,
      ⟨(some 43), none, (.call (.dat (.fn (.func 21) [] [])) [(.tmp 39), (.tmp 40), (.tmp 41), (.tmp 42)])⟩,
      ⟨(some 38), none, (.op (.mov (.tmp 43)))⟩,
      ⟨(some 44), none, (.op (.extract (.tmp 38) 0))⟩,
      ⟨(some 45), none, (.op (.extract (.tmp 38) 1))⟩,
      ⟨(some 13), none, (.op (.alloc true [.nil 3, .nil 2]))⟩,
      ⟨none, none, (.op (.store 2 (.tmp 13) (.tmp 44)))⟩,
      ⟨(some 14), none, (.op (.mov (.tmp 45)))⟩])
    (.seq (.seq (.region none [
      ⟨(some 46), none, (.op (.load 2 true (.tmp 11)))⟩,
      ⟨(some 47), none, (.op (.load 2 true (.tmp 13)))⟩,
      ⟨(some 48), none, (.call (.dat (.fn (.func 15) [] [])) [(.tmp 46), (.tmp 47)])⟩,
      ⟨(some 49), none, (.op (.not (.tmp 48)))⟩,
      ⟨(some 50), none, (.op (.mov (.tmp 49)))⟩,
      ⟨(some 51), (some (50, false)), (.op (.mov (.tmp 12)))⟩,
      ⟨(some 52), (some (50, false)), (.op (.mov (.tmp 14)))⟩,
      ⟨(some 53), (some (50, false)), (.op (.arith .neq (.tmp 51) (.tmp 52)))⟩,
      ⟨(some 54), none, (.op (.pick (.tmp 50) (.dat (.lit (.bool true))) (.tmp 53)))⟩])
    (.cond (.tmp 54)
      (.seq (.region none [
        ⟨(some 10), none, (.op (.mov (.dat (.lit (.bool false)))))⟩])
      .ret)
      .skip))
    (.seq (.region none [
      ⟨(some 55), none, (.op (.mov (.tmp 1)))⟩,
      ⟨(some 56), none, (.op (.mkslice 1 [(.tmp 55)]))⟩,
      ⟨(some 15), none, (.op (.mov (.tmp 56)))⟩])
    (.seq (.seq (.region none [
      ⟨(some 16), none, (.op (.mov (.dat (.lit (.int .i64 0)))))⟩])
    (.block 0
      (.loop
        (.seq (.seq (.region none [
          ⟨(some 57), none, (.op (.mov (.tmp 16)))⟩,
          ⟨(some 58), none, (.op (.field 0 1 false (.tmp 5)))⟩,
          ⟨(some 59), none, (.op (.load 1 false (.tmp 58)))⟩,
          ⟨(some 60), none, (.op (.len (.tmp 59)))⟩,
          ⟨(some 61), none, (.op (.arith .lss (.tmp 57) (.tmp 60)))⟩,
          ⟨(some 62), none, (.op (.mov (.tmp 61)))⟩,
          ⟨(some 63), (some (62, true)), (.op (.mov (.tmp 16)))⟩,
          ⟨(some 64), (some (62, true)), (.op (.arith .lss (.tmp 63) (.dat (.lit (.int .i64 3)))))⟩,
          ⟨(some 65), none, (.op (.pick (.tmp 62) (.tmp 64) (.dat (.lit (.bool false)))))⟩])
        (.cond (.tmp 65)
          .skip
          (.exit 0)))
        (.seq (.block 1
          (.region none [
            ⟨(some 68), none, (.op (.mov (.tmp 15)))⟩,
            ⟨(some 69), none, (.op (.mov (.tmp 16)))⟩,
            ⟨(some 70), none, (.op (.mkslice 1 [(.tmp 69)]))⟩,
            ⟨(some 71), none, (.op (.append 1 8 (.tmp 68) (.tmp 70)))⟩,
            ⟨(some 15), none, (.op (.mov (.tmp 71)))⟩]))
        (.region none [
          ⟨(some 66), none, (.op (.mov (.tmp 16)))⟩,
          ⟨(some 67), none, (.op (.arith .add (.tmp 66) (.dat (.lit (.int .i64 1)))))⟩,
          ⟨(some 16), none, (.op (.mov (.tmp 67)))⟩]))))))
    (.seq (.seq (.region none [
      ⟨(some 72), none, (.op (.mov (.tmp 15)))⟩,
      ⟨(some 73), none, (.op (.len (.tmp 72)))⟩,
      ⟨(some 74), none, (.op (.mov (.dat (.lit (.int .i64 0)))))⟩])
    (.block 2
      (.loop
        (.seq (.region none [
          ⟨(some 75), none, (.op (.arith .lss (.tmp 74) (.tmp 73)))⟩])
        (.seq (.cond (.tmp 75)
          .skip
          (.exit 2))
        (.seq (.block 3
          (.seq (.region none [
            ⟨(some 76), none, (.op (.index 1 (.tmp 72) (.tmp 74)))⟩,
            ⟨(some 77), none, (.op (.load 1 false (.tmp 76)))⟩,
            ⟨(some 18), none, (.op (.mov (.tmp 77)))⟩])
          (.seq (.region none [
            ⟨(some 79), none, (.op (.load 2 true (.tmp 5)))⟩,
            ⟨(some 80), none, (.op (.mov (.tmp 18)))⟩,
            ⟨(some 81), none, (.call (.dat (.fn (.func 18) [] [])) [(.tmp 79), (.tmp 80)])⟩,
            ⟨(some 78), none, (.op (.mov (.tmp 81)))⟩,
            ⟨(some 82), none, (.op (.extract (.tmp 78) 0))⟩,
            ⟨(some 83), none, (.op (.extract (.tmp 78) 1))⟩,
            ⟨(some 84), none, (.op (.extract (.tmp 78) 2))⟩,
            ⟨(some 19), none, (.op (.alloc true [.lit (.int .i64 0), .lit (.int .i64 0), .nil 1]))⟩,
            ⟨(some 20), none, (.op (.alloc true [.nil 3, .nil 2]))⟩,
            ⟨none, none, (.op (.store 3 (.tmp 19) (.tmp 82)))⟩,
            ⟨none, none, (.op (.store 2 (.tmp 20) (.tmp 83)))⟩,
            ⟨(some 21), none, (.op (.mov (.tmp 84)))⟩])
          (.seq (.region none [
            ⟨(some 86), none, (.op (.load 2 true (.tmp 5)))⟩,
            ⟨(some 87), none, (.op (.mov (.tmp 18)))⟩,
            ⟨(some 88), none, (.call (.dat (.fn (.func 22) [] [])) [(.tmp 86), (.tmp 87)])⟩,
            ⟨(some 85), none, (.op (.mov (.tmp 88)))⟩,
            ⟨(some 89), none, (.op (.extract (.tmp 85) 0))⟩,
            ⟨(some 90), none, (.op (.extract (.tmp 85) 1))⟩,
            ⟨(some 91), none, (.op (.extract (.tmp 85) 2))⟩,
            ⟨(some 22), none, (.op (.alloc true [.lit (.int .i64 0), .lit (.int .i64 0), .nil 1]))⟩,
            ⟨(some 23), none, (.op (.alloc true [.nil 3, .nil 2]))⟩,
            ⟨none, none, (.op (.store 3 (.tmp 22) (.tmp 89)))⟩,
            ⟨none, none, (.op (.store 2 (.tmp 23) (.tmp 90)))⟩,
            ⟨(some 24), none, (.op (.mov (.tmp 91)))⟩])
          (.seq (.seq (.region none [
            ⟨(some 92), none, (.op (.load 3 true (.tmp 19)))⟩,
            ⟨(some 93), none, (.op (.load 3 true (.tmp 22)))⟩,
            ⟨(some 94), none, (.call (.dat (.fn (.func 19) [] [])) [(.tmp 92), (.tmp 93)])⟩,
            ⟨(some 95), none, (.op (.not (.tmp 94)))⟩,
            ⟨(some 96), none, (.op (.mov (.tmp 95)))⟩,
            ⟨(some 97), (some (96, false)), (.op (.load 2 true (.tmp 20)))⟩,
            ⟨(some 98), (some (96, false)), (.op (.load 2 true (.tmp 23)))⟩,
            ⟨(some 99), (some (96, false)), (.call (.dat (.fn (.func 15) [] [])) [(.tmp 97), (.tmp 98)])⟩,
            ⟨(some 100), (some (96, false)), (.op (.not (.tmp 99)))⟩,
            ⟨(some 101), none, (.op (.pick (.tmp 96) (.dat (.lit (.bool true))) (.tmp 100)))⟩,
            ⟨(some 102), none, (.op (.mov (.tmp 101)))⟩,
            ⟨(some 103), (some (102, false)), (.op (.mov (.tmp 21)))⟩,
            ⟨(some 104), (some (102, false)), (.op (.mov (.tmp 24)))⟩,
            ⟨(some 105), (some (102, false)), (.op (.arith .neq (.tmp 103) (.tmp 104)))⟩,
            ⟨(some 106), none, (.op (.pick (.tmp 102) (.dat (.lit (.bool true))) (.tmp 105)))⟩])
          (.cond (.tmp 106)
            (.seq (.region none [
              ⟨(some 10), none, (.op (.mov (.dat (.lit (.bool false)))))⟩])
            .ret)
            .skip))
          (.seq (.region none [
            ⟨(some 108), none, (.op (.load 2 true (.tmp 5)))⟩,
            ⟨(some 109), none, (.op (.mov (.tmp 18)))⟩,
            ⟨(some 110), none, (.call (.dat (.fn (.func 23) [] [])) [(.tmp 108), (.tmp 109)])⟩,
            ⟨(some 107), none, (.op (.mov (.tmp 110)))⟩,
            ⟨(some 111), none, (.op (.extract (.tmp 107) 0))⟩,
            ⟨(some 112), none, (.op (.extract (.tmp 107) 1))⟩,
            ⟨none, none, (.op (.store 2 (.tmp 20) (.tmp 111)))⟩,
            ⟨(some 21), none, (.op (.mov (.tmp 112)))⟩])
          (.seq (.region none [
            ⟨(some 114), none, (.op (.load 2 true (.tmp 5)))⟩,
            ⟨(some 115), none, (.op (.mov (.tmp 18)))⟩,
            ⟨(some 116), none, (.call (.dat (.fn (.func 24) [] [])) [(.tmp 114), (.tmp 115)])⟩,
            ⟨(some 113), none, (.op (.mov (.tmp 116)))⟩,
            ⟨(some 117), none, (.op (.extract (.tmp 113) 0))⟩,
            ⟨(some 118), none, (.op (.extract (.tmp 113) 1))⟩,
            ⟨none, none, (.op (.store 2 (.tmp 23) (.tmp 117)))⟩,
            ⟨(some 24), none, (.op (.mov (.tmp 118)))⟩])
          (.seq (.seq (.region none [
            ⟨(some 119), none, (.op (.load 2 true (.tmp 20)))⟩,
            ⟨(some 120), none, (.op (.load 2 true (.tmp 23)))⟩,
            ⟨(some 121), none, (.call (.dat (.fn (.func 15) [] [])) [(.tmp 119), (.tmp 120)])⟩,
            ⟨(some 122), none, (.op (.not (.tmp 121)))⟩,
            ⟨(some 123), none, (.op (.mov (.tmp 122)))⟩,
            ⟨(some 124), (some (123, false)), (.op (.mov (.tmp 21)))⟩,
            ⟨(some 125), (some (123, false)), (.op (.mov (.tmp 24)))⟩,
            ⟨(some 126), (some (123, false)), (.op (.arith .neq (.tmp 124) (.tmp 125)))⟩,
            ⟨(some 127), none, (.op (.pick (.tmp 123) (.dat (.lit (.bool true))) (.tmp 126)))⟩])
          (.cond (.tmp 127)
            (.seq (.region none [
              ⟨(some 10), none, (.op (.mov (.dat (.lit (.bool false)))))⟩])
            .ret)
            .skip))
          (.seq (.region none [
            ⟨(some 129), none, (.op (.load 2 true (.tmp 5)))⟩,
            ⟨(some 130), none, (.op (.mov (.tmp 18)))⟩,
            ⟨(some 131), none, (.call (.dat (.fn (.func 25) [] [])) [(.tmp 129), (.tmp 130)])⟩,
            ⟨(some 128), none, (.op (.mov (.tmp 131)))⟩,
            ⟨(some 132), none, (.op (.extract (.tmp 128) 0))⟩,
            ⟨(some 133), none, (.op (.extract (.tmp 128) 1))⟩,
            ⟨none, none, (.op (.store 2 (.tmp 20) (.tmp 132)))⟩,
            ⟨(some 21), none, (.op (.mov (.tmp 133)))⟩])
          (.seq (.region none [
            ⟨(some 135), none, (.op (.load 2 true (.tmp 5)))⟩,
            ⟨(some 136), none, (.op (.mov (.tmp 18)))⟩,
            ⟨(some 137), none, (.call (.dat (.fn (.func 26) [] [])) [(.tmp 135), (.tmp 136)])⟩,
            ⟨(some 134), none, (.op (.mov (.tmp 137)))⟩,
            ⟨(some 138), none, (.op (.extract (.tmp 134) 0))⟩,
            ⟨(some 139), none, (.op (.extract (.tmp 134) 1))⟩,
            ⟨none, none, (.op (.store 2 (.tmp 23) (.tmp 138)))⟩,
            ⟨(some 24), none, (.op (.mov (.tmp 139)))⟩])
          (.seq (.region none [
            ⟨(some 140), none, (.op (.load 2 true (.tmp 20)))⟩,
            ⟨(some 141), none, (.op (.load 2 true (.tmp 23)))⟩,
            ⟨(some 142), none, (.call (.dat (.fn (.func 15) [] [])) [(.tmp 140), (.tmp 141)])⟩,
            ⟨(some 143), none, (.op (.not (.tmp 142)))⟩,
            ⟨(some 144), none, (.op (.mov (.tmp 143)))⟩,
            ⟨(some 145), (some (144, false)), (.op (.mov (.tmp 21)))⟩,
            ⟨(some 146), (some (144, false)), (.op (.mov (.tmp 24)))⟩,
            ⟨(some 147), (some (144, false)), (.op (.arith .neq (.tmp 145) (.tmp 146)))⟩,
            ⟨(some 148), none, (.op (.pick (.tmp 144) (.dat (.lit (.bool true))) (.tmp 147)))⟩])
          (.cond (.tmp 148)
            (.seq (.region none [
              ⟨(some 10), none, (.op (.mov (.dat (.lit (.bool false)))))⟩])
            .ret)
            .skip))))))))))))
        (.region none [
          ⟨(some 149), none, (.op (.arith .add (.tmp 74) (.dat (.lit (.int .i64 1)))))⟩,
          ⟨(some 74), none, (.op (.mov (.tmp 149)))⟩])))))))
    (.seq (.region none [
      ⟨(some 10), none, (.op (.mov (.dat (.lit (.bool true)))))⟩])
    .ret))))))))))
  res := [.tmp 10]
theorem c6 : CmpF Try.prog 6 a6 := chkF_cmp (F := Try.f6) (by kernel_rfl) mixed (by kernel_rfl)
/-- hansard/hansardlaw06.NetworkOnlySent -/
def a7 : AF where
  nt := 102
  body := (.seq (.region none [
      ⟨(some 2), none, (.op (.mov (.dat (.lit (.bool false)))))⟩])
    (.seq (.seq (.region none [
      ⟨(some 12), none, (.call (.dat (.fn (.func 9) [] [])) [])⟩,
      ⟨(some 13), none, (.op (.not (.tmp 12)))⟩])
    (.cond (.tmp 13)
      (.seq (.region none [
        ⟨(some 2), none, (.op (.mov (.dat (.lit (.bool false)))))⟩])
      .ret)
      .skip))
    (.seq (.seq (.region none [
      ⟨(some 14), none, (.op (.mov (.tmp 0)))⟩,
      ⟨(some 15), none, (.op (.len (.tmp 14)))⟩,
      ⟨(some 16), none, (.op (.arith .gtr (.tmp 15) (.dat (.lit (.int .i64 60)))))⟩])
    (.cond (.tmp 16)
      (.seq (.region none [
        ⟨(some 2), none, (.op (.mov (.dat (.lit (.bool true)))))⟩])
      .ret)
      .skip))
    (.seq (.region none [
      ⟨(some 17), none, (.call (.dat (.fn (.func 16) [] [])) [])⟩,
      ⟨(some 3), none, (.op (.alloc true [.nil 3, .nil 2]))⟩,
      ⟨none, none, (.op (.store 2 (.tmp 3) (.tmp 17)))⟩])
    (.seq (.region none [
      ⟨(some 4), none, (.op (.mov (.dat (.nil 3))))⟩])
    (.seq (.region none [
      ⟨(some 5), none, (.op (.mov (.dat (.lit (.int .i64 0)))))⟩])
    (.seq (.seq (.region none [
      ⟨(some 6), none, (.op (.mov (.dat (.lit (.int .i64 0)))))⟩])
    (.block 0
      (.loop
        (.seq (.seq (.region none [
          ⟨(some 18), none, (.op (.mov (.tmp 6)))⟩,
          ⟨(some 19), none, (.op (.mov (.tmp 0)))⟩,
          ⟨(some 20), none, (.op (.len (.tmp 19)))⟩,
          ⟨(some 21), none, (.op (.arith .lss (.tmp 18) (.tmp 20)))⟩])
        (.cond (.tmp 21)
          .skip
          (.exit 0)))
        (.seq (.block 1
          (.seq (.region (some [[], [], [], [1, 2], [1, 2, 3], [0, 1, 2, 3, 4], [0, 1, 2, 3, 4, 5], [0, 1, 2, 3, 4, 5, 6], [0, 1, 2, 3, 4, 5, 6], [0, 1, 2, 3, 4, 5, 6], [], [], [0, 1, 2, 3, 4, 5, 6, 7, 10, 11], [0, 1, 2, 3, 4, 5, 6, 7, 8, 10, 11, 12], [0, 1, 2, 3, 4, 5, 6, 7, 8, 9, 10, 11, 12, 13]]) [
            ⟨(some 25), none, (.op (.load 2 true (.tmp 3)))⟩,
            ⟨(some 26), none, (.op (.mov (.tmp 0)))⟩,
            ⟨(some 27), none, (.op (.mov (.tmp 6)))⟩,
            ⟨(some 28), none, (.op (.index 5 (.tmp 26) (.tmp 27)))⟩,
            ⟨(some 29), none, (.op (.load 5 true (.tmp 28)))⟩,
            ⟨(some 30), none, (.call (.dat (.fn (.func 27) [] [])) [(.tmp 25), (.tmp 29)])⟩,
            ⟨(some 24), none, (.op (.mov (.tmp 30)))⟩,
            ⟨(some 31), none, (.op (.extract (.tmp 24) 0))⟩,
            ⟨(some 32), none, (.op (.extract (.tmp 24) 1))⟩,
            ⟨(some 33), none, (.op (.extract (.tmp 24) 2))⟩,
            ⟨(some 7), none, (.op (.alloc true [.nil 3, .nil 2]))⟩,
            ⟨(some 8), none, (.op (.alloc true [.lit (.int .i64 0), .lit (.int .i64 0), .nil 1]))⟩,
            ⟨none, none, (.op (.store 2 (.tmp 7) (.tmp 31)))⟩,
            ⟨none, none, (.op (.store 3 (.tmp 8) (.tmp 32)))⟩,
            ⟨(some 9), none, (.op (.mov (.tmp 33)))⟩])
          (.seq (.seq (.region none [
            ⟨(some 34), none, (.op (.mov (.tmp 9)))⟩,
            ⟨(some 35), none, (.op (.arith .neq (.tmp 34) (.dat (.lit (.int .i64 0)))))⟩])
          (.cond (.tmp 35)
            (.seq (.seq (.region none [
              ⟨(some 36), none, (.op (.load 2 true (.tmp 3)))⟩,
              ⟨(some 37), none, (.call (.dat (.fn (.func 13) [] [])) [(.tmp 36)])⟩,
              ⟨(some 38), none, (.op (.arith .neq (.tmp 37) (.dat (.lit (.int .i64 0)))))⟩,
              ⟨(some 39), none, (.op (.mov (.tmp 38)))⟩,
              ⟨(some 40), (some (39, false)), (.op (.load 2 true (.tmp 7)))⟩,
              ⟨(some 41), (some (39, false)), (.op (.build [.nil 3, .nil 2] []))⟩,
              ⟨(some 42), (some (39, false)), (.call (.dat (.fn (.func 15) [] [])) [(.tmp 40), (.tmp 41)])⟩,
              ⟨(some 43), (some (39, false)), (.op (.not (.tmp 42)))⟩,
              ⟨(some 44), none, (.op (.pick (.tmp 39) (.dat (.lit (.bool true))) (.tmp 43)))⟩])
            (.cond (.tmp 44)
              (.seq (.region none [
                ⟨(some 2), none, (.op (.mov (.dat (.lit (.bool false)))))⟩])
              .ret)
              .skip))
            (.exit 1))
            .skip))
          (.seq (.seq (.region none [
            ⟨(some 45), none, (.op (.mov (.tmp 0)))⟩,
            ⟨(some 46), none, (.op (.mov (.tmp 6)))⟩,
            ⟨(some 47), none, (.op (.index 5 (.tmp 45) (.tmp 46)))⟩,
            ⟨(some 48), none, (.op (.field 0 1 false (.tmp 47)))⟩,
            ⟨(some 49), none, (.op (.load 1 false (.tmp 48)))⟩,
            ⟨(some 50), none, (.op (.arith .rem (.tmp 49) (.dat (.lit (.int .u8 6)))))⟩])
          (.block 2
            (.seq (.region none [
              ⟨(some 52), none, (.op (.arith .eql (.tmp 50) (.dat (.lit (.int .u8 0)))))⟩,
              ⟨(some 51), none, (.op (.mov (.tmp 52)))⟩])
            (.cond (.tmp 51)
              (.seq (.seq (.region none [
                ⟨(some 53), none, (.op (.field 0 1 false (.tmp 7)))⟩,
                ⟨(some 54), none, (.op (.load 1 false (.tmp 53)))⟩,
                ⟨(some 55), none, (.op (.len (.tmp 54)))⟩,
                ⟨(some 56), none, (.op (.arith .eql (.tmp 55) (.dat (.lit (.int .i64 0)))))⟩])
              (.cond (.tmp 56)
                (.seq (.region none [
                  ⟨(some 2), none, (.op (.mov (.dat (.lit (.bool false)))))⟩])
                .ret)
                .skip))
              (.region none [
                ⟨(some 57), none, (.op (.mov (.tmp 4)))⟩,
                ⟨(some 58), none, (.op (.field 0 1 false (.tmp 7)))⟩,
                ⟨(some 59), none, (.op (.load 1 false (.tmp 58)))⟩,
                ⟨(some 60), none, (.op (.field 0 1 false (.tmp 7)))⟩,
                ⟨(some 61), none, (.op (.load 1 false (.tmp 60)))⟩,
                ⟨(some 62), none, (.op (.len (.tmp 61)))⟩,
                ⟨(some 63), none, (.op (.arith .sub (.tmp 62) (.dat (.lit (.int .i64 1)))))⟩,
                ⟨(some 64), none, (.op (.index 3 (.tmp 59) (.tmp 63)))⟩,
                ⟨(some 65), none, (.op (.load 3 true (.tmp 64)))⟩,
                ⟨(some 66), none, (.op (.mkslice 3 [(.tmp 65)]))⟩,
                ⟨(some 67), none, (.op (.append 3 40 (.tmp 57) (.tmp 66)))⟩,
                ⟨(some 4), none, (.op (.mov (.tmp 67)))⟩]))
              (.seq (.region none [
                ⟨(some 69), none, (.op (.arith .eql (.tmp 50) (.dat (.lit (.int .u8 1)))))⟩,
                ⟨(some 68), none, (.op (.mov (.tmp 69)))⟩])
              (.cond (.tmp 68)
                (.seq (.region none [
                  ⟨(some 70), none, (.op (.load 3 true (.tmp 8)))⟩,
                  ⟨(some 71), none, (.op (.build [.lit (.int .i64 0), .lit (.int .i64 0), .nil 1] []))⟩,
                  ⟨(some 72), none, (.call (.dat (.fn (.func 19) [] [])) [(.tmp 70), (.tmp 71)])⟩,
                  ⟨(some 73), none, (.op (.mov (.tmp 72)))⟩,
                  ⟨(some 74), (some (73, true)), (.op (.mov (.tmp 5)))⟩,
                  ⟨(some 75), (some (73, true)), (.op (.arith .gtr (.tmp 74) (.dat (.lit (.int .i64 0)))))⟩,
                  ⟨(some 76), none, (.op (.pick (.tmp 73) (.tmp 75) (.dat (.lit (.bool false)))))⟩,
                  ⟨(some 10), none, (.op (.mov (.tmp 76)))⟩])
                (.seq (.seq (.region none [
                  ⟨(some 11), none, (.op (.mov (.dat (.lit (.int .i64 0)))))⟩])
                (.block 3
                  (.loop
                    (.seq (.seq (.region none [
                      ⟨(some 77), none, (.op (.mov (.tmp 11)))⟩,
                      ⟨(some 78), none, (.op (.mov (.tmp 4)))⟩,
                      ⟨(some 79), none, (.op (.len (.tmp 78)))⟩,
                      ⟨(some 80), none, (.op (.arith .lss (.tmp 77) (.tmp 79)))⟩])
                    (.cond (.tmp 80)
                      .skip
                      (.exit 3)))
                    (.seq (.block 4
                      (.region (some [[], [0], [0, 1], [0, 1], [0, 1, 2, 3], [0, 1, 2, 3, 4], [0, 1], [0, 1, 2, 3, 4, 5, 6], [0, 1, 2, 3, 4, 5, 6, 7], [0, 1, 2, 3, 4, 5, 6, 7, 8]]) [
                        ⟨(some 83), none, (.op (.mov (.tmp 10)))⟩,
                        ⟨(some 84), none, (.op (.mov (.tmp 83)))⟩,
                        ⟨(some 85), (some (84, false)), (.op (.mov (.tmp 4)))⟩,
                        ⟨(some 86), (some (84, false)), (.op (.mov (.tmp 11)))⟩,
                        ⟨(some 87), (some (84, false)), (.op (.index 3 (.tmp 85) (.tmp 86)))⟩,
                        ⟨(some 88), (some (84, false)), (.op (.load 3 true (.tmp 87)))⟩,
                        ⟨(some 89), (some (84, false)), (.op (.load 3 true (.tmp 8)))⟩,
                        ⟨(some 90), (some (84, false)), (.call (.dat (.fn (.func 19) [] [])) [(.tmp 88), (.tmp 89)])⟩,
                        ⟨(some 91), none, (.op (.pick (.tmp 84) (.dat (.lit (.bool true))) (.tmp 90)))⟩,
                        ⟨(some 10), none, (.op (.mov (.tmp 91)))⟩]))
                    (.region none [
                      ⟨(some 81), none, (.op (.mov (.tmp 11)))⟩,
                      ⟨(some 82), none, (.op (.arith .add (.tmp 81) (.dat (.lit (.int .i64 1)))))⟩,
                      ⟨(some 11), none, (.op (.mov (.tmp 82)))⟩]))))))
                (.seq (.region none [
                  ⟨(some 92), none, (.op (.mov (.tmp 10)))⟩,
                  ⟨(some 93), none, (.op (.not (.tmp 92)))⟩])
                (.cond (.tmp 93)
                  (.seq (.region none [
                    ⟨(some 2), none, (.op (.mov (.dat (.lit (.bool false)))))⟩])
                  .ret)
                  .skip))))
                (.seq (.region none [
                  ⟨(some 95), none, (.op (.arith .eql (.tmp 50) (.dat (.lit (.int .u8 4)))))⟩,
                  ⟨(some 94), none, (.op (.mov (.tmp 95)))⟩])
                (.cond (.tmp 94)
                  (.region none [
                    ⟨(some 96), none, (.op (.mov (.tmp 5)))⟩,
                    ⟨(some 97), none, (.op (.arith .add (.tmp 96) (.dat (.lit (.int .i64 1)))))⟩,
                    ⟨(some 5), none, (.op (.mov (.tmp 97)))⟩])
                  .skip))))))))
          (.seq (.region none [
            ⟨(some 98), none, (.op (.load 2 true (.tmp 7)))⟩,
            ⟨none, none, (.op (.store 2 (.tmp 3) (.tmp 98)))⟩])
          (.seq (.region none [
            ⟨(some 99), none, (.op (.load 2 true (.tmp 3)))⟩,
            ⟨(some 100), none, (.call (.dat (.fn (.func 13) [] [])) [(.tmp 99)])⟩,
            ⟨(some 101), none, (.op (.arith .neq (.tmp 100) (.dat (.lit (.int .i64 0)))))⟩])
          (.cond (.tmp 101)
            (.seq (.region none [
              ⟨(some 2), none, (.op (.mov (.dat (.lit (.bool false)))))⟩])
            .ret)
            .skip)))))))
        (.region none [
          ⟨(some 22), none, (.op (.mov (.tmp 6)))⟩,
          ⟨(some 23), none, (.op (.arith .add (.tmp 22) (.dat (.lit (.int .i64 1)))))⟩,
          ⟨(some 6), none, (.op (.mov (.tmp 23)))⟩]))))))
    (.seq (.region none [
      ⟨(some 2), none, (.op (.mov (.dat (.lit (.bool true)))))⟩])
    .ret))))))))
  res := [.tmp 2]
theorem c7 : CmpF Try.prog 7 a7 := chkF_cmp (F := Try.f7) (by kernel_rfl) mixed (by kernel_rfl)
/-- hansard/hansardlaw06.NetworkLost -/
def a8 : AF where
  nt := 113
  body := (.seq (.region none [
      ⟨(some 2), none, (.op (.box true (.tmp 0)))⟩,
      ⟨(some 4), none, (.op (.mov (.dat (.lit (.bool false)))))⟩])
    (.seq (.seq (.region none [
      ⟨(some 17), none, (.call (.dat (.fn (.func 9) [] [])) [])⟩,
      ⟨(some 18), none, (.op (.not (.tmp 17)))⟩])
    (.cond (.tmp 18)
      (.seq (.region none [
        ⟨(some 4), none, (.op (.mov (.dat (.lit (.bool false)))))⟩])
      .ret)
      .skip))
    (.seq (.seq (.region none [
      ⟨(some 19), none, (.op (.load 2 true (.tmp 2)))⟩,
      ⟨(some 20), none, (.call (.dat (.fn (.func 10) [] [])) [(.tmp 19)])⟩,
      ⟨(some 21), none, (.op (.not (.tmp 20)))⟩,
      ⟨(some 22), none, (.op (.mov (.tmp 21)))⟩,
      ⟨(some 23), (some (22, false)), (.op (.load 2 true (.tmp 2)))⟩,
      ⟨(some 24), (some (22, false)), (.call (.dat (.fn (.func 13) [] [])) [(.tmp 23)])⟩,
      ⟨(some 25), (some (22, false)), (.op (.arith .neq (.tmp 24) (.dat (.lit (.int .i64 0)))))⟩,
      ⟨(some 26), none, (.op (.pick (.tmp 22) (.dat (.lit (.bool true))) (.tmp 25)))⟩,
      ⟨(some 27), none, (.op (.mov (.tmp 26)))⟩,
      ⟨(some 28), (some (27, false)), (.op (.field 0 1 false (.tmp 2)))⟩,
      ⟨(some 29), (some (27, false)), (.op (.load 1 false (.tmp 28)))⟩,
      ⟨(some 30), (some (27, false)), (.op (.len (.tmp 29)))⟩,
      ⟨(some 31), (some (27, false)), (.op (.arith .eql (.tmp 30) (.dat (.lit (.int .i64 0)))))⟩,
      ⟨(some 32), none, (.op (.pick (.tmp 27) (.dat (.lit (.bool true))) (.tmp 31)))⟩])
    (.cond (.tmp 32)
      (.seq (.region none [
        ⟨(some 4), none, (.op (.mov (.dat (.lit (.bool true)))))⟩])
      .ret)
      .skip))
    (.seq (.region none [
      ⟨(some 33), none, (.op (.mov (.tmp 1)))⟩,
      ⟨(some 34), none, (.op (.field 0 1 false (.tmp 2)))⟩,
      ⟨(some 35), none, (.op (.load 1 false (.tmp 34)))⟩,
      ⟨(some 36), none, (.op (.len (.tmp 35)))⟩,
      ⟨(some 37), none, (.op (.conv .u64 (.tmp 36)))⟩,
      ⟨(some 38), none, (.op (.arith .rem (.tmp 33) (.tmp 37)))⟩,
      ⟨(some 39), none, (.op (.conv .i64 (.tmp 38)))⟩,
      ⟨(some 5), none, (.op (.mov (.tmp 39)))⟩])
    (.seq (.region none [
      ⟨(some 41), none, (.op (.load 2 true (.tmp 2)))⟩,
      ⟨(some 42), none, (.op (.mov (.tmp 5)))⟩,
      ⟨(some 43), none, (.call (.dat (.fn (.func 18) [] [])) [(.tmp 41), (.tmp 42)])⟩,
      ⟨(some 40), none, (.op (.mov (.tmp 43)))⟩,
      ⟨(some 44), none, (.op (.extract (.tmp 40) 0))⟩,
      ⟨(some 45), none, (.op (.extract (.tmp 40) 1))⟩,
      ⟨(some 46), none, (.op (.extract (.tmp 40) 2))⟩,
      ⟨(some 6), none, (.op (.alloc true [.lit (.int .i64 0), .lit (.int .i64 0), .nil 1]))⟩,
      ⟨(some 7), none, (.op (.alloc true [.nil 3, .nil 2]))⟩,
      ⟨none, none, (.op (.store 3 (.tmp 6) (.tmp 44)))⟩,
      ⟨none, none, (.op (.store 2 (.tmp 7) (.tmp 45)))⟩,
      ⟨(some 8), none, (.op (.mov (.tmp 46)))⟩])
    (.seq (.region none [
      ⟨(some 48), none, (.op (.load 2 true (.tmp 2)))⟩,
      ⟨(some 49), none, (.op (.mov (.tmp 5)))⟩,
      ⟨(some 50), none, (.call (.dat (.fn (.func 23) [] [])) [(.tmp 48), (.tmp 49)])⟩,
      ⟨(some 47), none, (.op (.mov (.tmp 50)))⟩,
      ⟨(some 51), none, (.op (.extract (.tmp 47) 0))⟩,
      ⟨(some 52), none, (.op (.extract (.tmp 47) 1))⟩,
      ⟨(some 9), none, (.op (.alloc true [.nil 3, .nil 2]))⟩,
      ⟨none, none, (.op (.store 2 (.tmp 9) (.tmp 51)))⟩,
      ⟨(some 10), none, (.op (.mov (.tmp 52)))⟩])
    (.seq (.region none [
      ⟨(some 54), none, (.op (.load 2 true (.tmp 2)))⟩,
      ⟨(some 55), none, (.op (.mov (.tmp 5)))⟩,
      ⟨(some 56), none, (.call (.dat (.fn (.func 25) [] [])) [(.tmp 54), (.tmp 55)])⟩,
      ⟨(some 53), none, (.op (.mov (.tmp 56)))⟩,
      ⟨(some 57), none, (.op (.extract (.tmp 53) 0))⟩,
      ⟨(some 58), none, (.op (.extract (.tmp 53) 1))⟩,
      ⟨(some 11), none, (.op (.alloc true [.nil 3, .nil 2]))⟩,
      ⟨none, none, (.op (.store 2 (.tmp 11) (.tmp 57)))⟩,
      ⟨(some 12), none, (.op (.mov (.tmp 58)))⟩])
    (.seq (.region none [
      ⟨(some 60), none, (.op (.load 2 true (.tmp 11)))⟩,
      ⟨(some 61), none, (.op (.mov (.tmp 5)))⟩,
      ⟨(some 62), none, (.call (.dat (.fn (.func 23) [] [])) [(.tmp 60), (.tmp 61)])⟩,
      ⟨(some 59), none, (.op (.mov (.tmp 62)))⟩,
      ⟨(some 63), none, (.op (.extract (.tmp 59) 0))⟩,
      ⟨(some 64), none, (.op (.extract (.tmp 59) 1))⟩,
      ⟨(some 13), none, (.op (.alloc true [.nil 3, .nil 2]))⟩,
      ⟨none, none, (.op (.store 2 (.tmp 13) (.tmp 63)))⟩,
      ⟨(some 14), none, (.op (.mov (.tmp 64)))⟩])
    (.seq (.region (some [[], [], [1], [], [1, 2, 3], [1, 2, 3, 4], [0, 1, 2, 3, 4, 5], [0, 1, 2, 3, 4, 5, 6], [0, 1, 2, 3, 4, 5, 6, 7], [0, 1, 2, 3, 4, 5, 6, 7], [], [0, 1, 2, 3, 4, 5, 6, 7, 8, 10], [0, 1, 2, 3, 4, 5, 6, 7, 8, 9, 10, 11]]) [
      ⟨(some 66), none, (.op (.load 2 true (.tmp 9)))⟩,
      ⟨(some 67), none, (.op (.field 0 1 false (.tmp 2)))⟩,
      ⟨(some 68), none, (.op (.load 1 false (.tmp 67)))⟩,
      ⟨(some 69), none, (.op (.mov (.tmp 5)))⟩,
      ⟨(some 70), none, (.op (.index 3 (.tmp 68) (.tmp 69)))⟩,
      ⟨(some 71), none, (.op (.load 3 true (.tmp 70)))⟩,
      ⟨(some 72), none, (.call (.dat (.fn (.func 11) [] [])) [(.tmp 66), (.tmp 71)])⟩,
      ⟨(some 65), none, (.op (.mov (.tmp 72)))⟩,
      ⟨(some 73), none, (.op (.extract (.tmp 65) 0))⟩,
      ⟨(some 74), none, (.op (.extract (.tmp 65) 1))⟩,
      ⟨(some 15), none, (.op (.alloc true [.nil 3, .nil 2]))⟩,
      ⟨none, none, (.op (.store 2 (.tmp 15) (.tmp 73)))⟩,
      ⟨(some 16), none, (.op (.mov (.tmp 74)))⟩])
    (.seq (.region none [
      ⟨(some 75), none, (.op (.mov (.tmp 8)))⟩,
      ⟨(some 76), none, (.op (.arith .eql (.tmp 75) (.dat (.lit (.int .i64 0)))))⟩,
      ⟨(some 77), none, (.op (.mov (.tmp 76)))⟩,
      ⟨(some 78), (some (77, true)), (.op (.mov (.tmp 10)))⟩,
      ⟨(some 79), (some (77, true)), (.op (.arith .eql (.tmp 78) (.dat (.lit (.int .i64 0)))))⟩,
      ⟨(some 80), none, (.op (.pick (.tmp 77) (.tmp 79) (.dat (.lit (.bool false)))))⟩,
      ⟨(some 81), none, (.op (.mov (.tmp 80)))⟩,
      ⟨(some 82), (some (81, true)), (.op (.mov (.tmp 12)))⟩,
      ⟨(some 83), (some (81, true)), (.op (.arith .eql (.tmp 82) (.dat (.lit (.int .i64 0)))))⟩,
      ⟨(some 84), none, (.op (.pick (.tmp 81) (.tmp 83) (.dat (.lit (.bool false)))))⟩,
      ⟨(some 85), none, (.op (.mov (.tmp 84)))⟩,
      ⟨(some 86), (some (85, true)), (.op (.mov (.tmp 14)))⟩,
      ⟨(some 87), (some (85, true)), (.op (.arith .eql (.tmp 86) (.dat (.lit (.int .i64 0)))))⟩,
      ⟨(some 88), none, (.op (.pick (.tmp 85) (.tmp 87) (.dat (.lit (.bool false)))))⟩,
      ⟨(some 89), none, (.op (.mov (.tmp 88)))⟩,
      ⟨(some 90), (some (89, true)), (.op (.mov (.tmp 16)))⟩,
      ⟨(some 91), (some (89, true)), (.op (.arith .eql (.tmp 90) (.dat (.lit (.int .i64 0)))))⟩,
      ⟨(some 92), none, (.op (.pick (.tmp 89) (.tmp 91) (.dat (.lit (.bool false)))))⟩,
      ⟨(some 93), none, (.op (.mov (.tmp 92)))⟩,
      ⟨(some 94), (some (93, true)), (.op (.load 2 true (.tmp 7)))⟩,
      ⟨(some 95), (some (93, true)), (.op (.load 2 true (.tmp 9)))⟩,
      ⟨(some 96), (some (93, true)), (.call (.dat (.fn (.func 15) [] [])) [(.tmp 94), (.tmp 95)])⟩,
      ⟨(some 97), none, (.op (.pick (.tmp 93) (.tmp 96) (.dat (.lit (.bool false)))))⟩,
      ⟨(some 98), none, (.op (.mov (.tmp 97)))⟩,
      ⟨(some 99), (some (98, true)), (.op (.load 2 true (.tmp 13)))⟩,
      ⟨(some 100), (some (98, true)), (.op (.load 2 true (.tmp 15)))⟩,
      ⟨(some 101), (some (98, true)), (.call (.dat (.fn (.func 15) [] [])) [(.tmp 99), (.tmp 100)])⟩,
      ⟨(some 102), none, (.op (.pick (.tmp 98) (.tmp 101) (.dat (.lit (.bool false)))))⟩,
      ⟨(some 103), none, (.op (.mov (.tmp 102)))⟩,
      ⟨(some 104), (some (103, true)), (.op (.field 0 1 false (.tmp 11)))⟩,
      ⟨(some 105), (some (103, true)), (.op (.load 1 false (.tmp 104)))⟩,
      ⟨(some 106), (some (103, true)), (.op (.len (.tmp 105)))⟩,
      ⟨(some 107), (some (103, true)), (.op (.field 0 1 false (.tmp 2)))⟩,
      ⟨(some 108), (some (103, true)), (.op (.load 1 false (.tmp 107)))⟩,
      ⟨(some 109), (some (103, true)), (.op (.len (.tmp 108)))⟩,
      ⟨(some 110), (some (103, true)), (.op (.arith .add (.tmp 109) (.dat (.lit (.int .i64 1)))))⟩,
      ⟨(some 111), (some (103, true)), (.op (.arith .eql (.tmp 106) (.tmp 110)))⟩,
      ⟨(some 112), none, (.op (.pick (.tmp 103) (.tmp 111) (.dat (.lit (.bool false)))))⟩,
      ⟨(some 4), none, (.op (.mov (.tmp 112)))⟩])
    .ret))))))))))
  res := [.tmp 4]
theorem c8 : CmpF Try.prog 8 a8 := chkF_cmp (F := Try.f8) (by kernel_rfl) mixed (by kernel_rfl)
/-- hansard/hansardlaw06.sane -/
def a9 : AF where
  nt := 140
  body := (.seq (.region none [
      ⟨(some 0), none, (.op (.mov (.dat (.lit (.bool false)))))⟩])
    (.seq (.region none [
      ⟨(some 22), none, (.call (.dat (.fn (.func 16) [] [])) [])⟩,
      ⟨(some 1), none, (.op (.alloc true [.nil 3, .nil 2]))⟩,
      ⟨none, none, (.op (.store 2 (.tmp 1) (.tmp 22)))⟩])
    (.seq (.region none [
      ⟨(some 24), none, (.op (.load 2 true (.tmp 1)))⟩,
      ⟨(some 25), none, (.call (.dat (.fn (.func 18) [] [])) [(.tmp 24), (.dat (.lit (.int .i64 0)))])⟩,
      ⟨(some 23), none, (.op (.mov (.tmp 25)))⟩,
      ⟨(some 26), none, (.op (.extract (.tmp 23) 0))⟩,
      ⟨(some 27), none, (.op (.extract (.tmp 23) 1))⟩,
      ⟨(some 28), none, (.op (.extract (.tmp 23) 2))⟩,
      ⟨(some 2), none, (.op (.alloc true [.lit (.int .i64 0), .lit (.int .i64 0), .nil 1]))⟩,
      ⟨(some 3), none, (.op (.alloc true [.nil 3, .nil 2]))⟩,
      ⟨none, none, (.op (.store 3 (.tmp 2) (.tmp 26)))⟩,
      ⟨none, none, (.op (.store 2 (.tmp 3) (.tmp 27)))⟩,
      ⟨(some 4), none, (.op (.mov (.tmp 28)))⟩])
    (.seq (.region none [
      ⟨(some 30), none, (.op (.load 2 true (.tmp 1)))⟩,
      ⟨(some 31), none, (.op (.build [.lit (.int .i64 0), .lit (.int .i64 0), .nil 1] [(0, 1, (.dat (.lit (.int .i64 3)))), (1, 1, (.dat (.lit (.int .i64 3))))]))⟩,
      ⟨(some 32), none, (.call (.dat (.fn (.func 11) [] [])) [(.tmp 30), (.tmp 31)])⟩,
      ⟨(some 29), none, (.op (.mov (.tmp 32)))⟩,
      ⟨(some 33), none, (.op (.extract (.tmp 29) 0))⟩,
      ⟨(some 34), none, (.op (.extract (.tmp 29) 1))⟩,
      ⟨(some 5), none, (.op (.alloc true [.nil 3, .nil 2]))⟩,
      ⟨none, none, (.op (.store 2 (.tmp 5) (.tmp 33)))⟩,
      ⟨(some 6), none, (.op (.mov (.tmp 34)))⟩])
    (.seq (.region none [
      ⟨(some 36), none, (.op (.load 2 true (.tmp 1)))⟩,
      ⟨(some 37), none, (.call (.dat (.fn (.func 20) [] [])) [(.tmp 36), (.dat (.lit (.int .i64 2))), (.dat (.lit (.int .i64 2))), (.dat (.lit (.bool true)))])⟩,
      ⟨(some 35), none, (.op (.mov (.tmp 37)))⟩,
      ⟨(some 38), none, (.op (.extract (.tmp 35) 0))⟩,
      ⟨(some 39), none, (.op (.extract (.tmp 35) 1))⟩,
      ⟨(some 7), none, (.op (.alloc true [.nil 3, .nil 2]))⟩,
      ⟨none, none, (.op (.store 2 (.tmp 7) (.tmp 38)))⟩,
      ⟨(some 8), none, (.op (.mov (.tmp 39)))⟩])
    (.seq (.region none [
      ⟨(some 40), none, (.op (.mkslice 1 [(.dat (.lit (.int .u8 7)))]))⟩,
      ⟨(some 41), none, (.op (.build [.lit (.int .i64 0), .lit (.int .i64 0), .nil 1] [(0, 1, (.dat (.lit (.int .i64 1)))), (1, 1, (.dat (.lit (.int .i64 3)))), (2, 1, (.tmp 40))]))⟩,
      ⟨(some 9), none, (.op (.alloc true [.lit (.int .i64 0), .lit (.int .i64 0), .nil 1]))⟩,
      ⟨none, none, (.op (.store 3 (.tmp 9) (.tmp 41)))⟩])
    (.seq (.region none [
      ⟨(some 43), none, (.op (.load 2 true (.tmp 1)))⟩,
      ⟨(some 44), none, (.op (.load 3 true (.tmp 9)))⟩,
      ⟨(some 45), none, (.call (.dat (.fn (.func 11) [] [])) [(.tmp 43), (.tmp 44)])⟩,
      ⟨(some 42), none, (.op (.mov (.tmp 45)))⟩,
      ⟨(some 46), none, (.op (.extract (.tmp 42) 0))⟩,
      ⟨(some 47), none, (.op (.extract (.tmp 42) 1))⟩,
      ⟨(some 10), none, (.op (.alloc true [.nil 3, .nil 2]))⟩,
      ⟨none, none, (.op (.store 2 (.tmp 10) (.tmp 46)))⟩,
      ⟨(some 11), none, (.op (.mov (.tmp 47)))⟩])
    (.seq (.region none [
      ⟨(some 49), none, (.op (.load 2 true (.tmp 10)))⟩,
      ⟨(some 50), none, (.call (.dat (.fn (.func 25) [] [])) [(.tmp 49), (.dat (.lit (.int .i64 0)))])⟩,
      ⟨(some 48), none, (.op (.mov (.tmp 50)))⟩,
      ⟨(some 51), none, (.op (.extract (.tmp 48) 0))⟩,
      ⟨(some 52), none, (.op (.extract (.tmp 48) 1))⟩,
      ⟨(some 12), none, (.op (.alloc true [.nil 3, .nil 2]))⟩,
      ⟨none, none, (.op (.store 2 (.tmp 12) (.tmp 51)))⟩,
      ⟨(some 13), none, (.op (.mov (.tmp 52)))⟩])
    (.seq (.region none [
      ⟨(some 54), none, (.op (.load 2 true (.tmp 12)))⟩,
      ⟨(some 55), none, (.call (.dat (.fn (.func 20) [] [])) [(.tmp 54), (.dat (.lit (.int .i64 3))), (.dat (.lit (.int .i64 1))), (.dat (.lit (.bool true)))])⟩,
      ⟨(some 53), none, (.op (.mov (.tmp 55)))⟩,
      ⟨(some 56), none, (.op (.extract (.tmp 53) 0))⟩,
      ⟨(some 57), none, (.op (.extract (.tmp 53) 1))⟩,
      ⟨(some 14), none, (.op (.alloc true [.nil 3, .nil 2]))⟩,
      ⟨none, none, (.op (.store 2 (.tmp 14) (.tmp 56)))⟩,
      ⟨(some 15), none, (.op (.mov (.tmp 57)))⟩])
    (.seq (.region none [
      ⟨(some 59), none, (.op (.load 2 true (.tmp 12)))⟩,
      ⟨(some 60), none, (.call (.dat (.fn (.func 18) [] [])) [(.tmp 59), (.dat (.lit (.int .i64 0)))])⟩,
      ⟨(some 58), none, (.op (.mov (.tmp 60)))⟩,
      ⟨(some 61), none, (.op (.extract (.tmp 58) 0))⟩,
      ⟨(some 62), none, (.op (.extract (.tmp 58) 1))⟩,
      ⟨(some 63), none, (.op (.extract (.tmp 58) 2))⟩,
      ⟨(some 16), none, (.op (.alloc true [.lit (.int .i64 0), .lit (.int .i64 0), .nil 1]))⟩,
      ⟨(some 17), none, (.op (.alloc true [.nil 3, .nil 2]))⟩,
      ⟨none, none, (.op (.store 3 (.tmp 16) (.tmp 61)))⟩,
      ⟨none, none, (.op (.store 2 (.tmp 17) (.tmp 62)))⟩,
      ⟨(some 18), none, (.op (.mov (.tmp 63)))⟩])
    (.seq (.region none [
      ⟨(some 65), none, (.op (.load 2 true (.tmp 14)))⟩,
      ⟨(some 66), none, (.call (.dat (.fn (.func 18) [] [])) [(.tmp 65), (.dat (.lit (.int .i64 1)))])⟩,
      ⟨(some 64), none, (.op (.mov (.tmp 66)))⟩,
      ⟨(some 67), none, (.op (.extract (.tmp 64) 0))⟩,
      ⟨(some 68), none, (.op (.extract (.tmp 64) 1))⟩,
      ⟨(some 69), none, (.op (.extract (.tmp 64) 2))⟩,
      ⟨(some 19), none, (.op (.alloc true [.lit (.int .i64 0), .lit (.int .i64 0), .nil 1]))⟩,
      ⟨(some 20), none, (.op (.alloc true [.nil 3, .nil 2]))⟩,
      ⟨none, none, (.op (.store 3 (.tmp 19) (.tmp 67)))⟩,
      ⟨none, none, (.op (.store 2 (.tmp 20) (.tmp 68)))⟩,
      ⟨(some 21), none, (.op (.mov (.tmp 69)))⟩])
    (.seq (.region none [
      ⟨(some 70), none, (.op (.load 2 true (.tmp 1)))⟩,
      ⟨(some 71), none, (.call (.dat (.fn (.func 13) [] [])) [(.tmp 70)])⟩,
      ⟨(some 72), none, (.op (.arith .eql (.tmp 71) (.dat (.lit (.int .i64 0)))))⟩,
      ⟨(some 73), none, (.op (.mov (.tmp 72)))⟩,
      ⟨(some 74), (some (73, true)), (.op (.mov (.tmp 4)))⟩,
      ⟨(some 75), (some (73, true)), (.op (.arith .eql (.tmp 74) (.dat (.lit (.int .i64 1)))))⟩,
      ⟨(some 76), none, (.op (.pick (.tmp 73) (.tmp 75) (.dat (.lit (.bool false)))))⟩,
      ⟨(some 77), none, (.op (.mov (.tmp 76)))⟩,
      ⟨(some 78), (some (77, true)), (.op (.mov (.tmp 6)))⟩,
      ⟨(some 79), (some (77, true)), (.op (.arith .eql (.tmp 78) (.dat (.lit (.int .i64 60)))))⟩,
      ⟨(some 80), none, (.op (.pick (.tmp 77) (.tmp 79) (.dat (.lit (.bool false)))))⟩,
      ⟨(some 81), none, (.op (.mov (.tmp 80)))⟩,
      ⟨(some 82), (some (81, true)), (.op (.mov (.tmp 8)))⟩,
      ⟨(some 83), (some (81, true)), (.op (.arith .eql (.tmp 82) (.dat (.lit (.int .i64 1)))))⟩,
      ⟨(some 84), none, (.op (.pick (.tmp 81) (.tmp 83) (.dat (.lit (.bool false)))))⟩,
      ⟨(some 85), none, (.op (.mov (.tmp 84)))⟩,
      ⟨(some 86), (some (85, true)), (.op (.mov (.tmp 11)))⟩,
      ⟨(some 87), (some (85, true)), (.op (.arith .eql (.tmp 86) (.dat (.lit (.int .i64 0)))))⟩,
      ⟨(some 88), none, (.op (.pick (.tmp 85) (.tmp 87) (.dat (.lit (.bool false)))))⟩,
      ⟨(some 89), none, (.op (.mov (.tmp 88)))⟩,
      ⟨(some 90), (some (89, true)), (.op (.mov (.tmp 13)))⟩,
      ⟨(some 91), (some (89, true)), (.op (.arith .eql (.tmp 90) (.dat (.lit (.int .i64 0)))))⟩,
      ⟨(some 92), none, (.op (.pick (.tmp 89) (.tmp 91) (.dat (.lit (.bool false)))))⟩,
      ⟨(some 93), none, (.op (.mov (.tmp 92)))⟩,
      ⟨(some 94), (some (93, true)), (.op (.mov (.tmp 15)))⟩,
      ⟨(some 95), (some (93, true)), (.op (.arith .eql (.tmp 94) (.dat (.lit (.int .i64 0)))))⟩,
      ⟨(some 96), none, (.op (.pick (.tmp 93) (.tmp 95) (.dat (.lit (.bool false)))))⟩,
      ⟨(some 97), none, (.op (.mov (.tmp 96)))⟩,
      ⟨(some 98), (some (97, true)), (.op (.mov (.tmp 18)))⟩,
      ⟨(some 99), (some (97, true)), (.op (.arith .eql (.tmp 98) (.dat (.lit (.int .i64 0)))))⟩,
      ⟨(some 100), none, (.op (.pick (.tmp 97) (.tmp 99) (.dat (.lit (.bool false)))))⟩,
      ⟨(some 101), none, (.op (.mov (.tmp 100)))⟩,
      ⟨(some 102), (some (101, true)), (.op (.mov (.tmp 21)))⟩,
      ⟨(some 103), (some (101, true)), (.op (.arith .eql (.tmp 102) (.dat (.lit (.int .i64 0)))))⟩,
      ⟨(some 104), none, (.op (.pick (.tmp 101) (.tmp 103) (.dat (.lit (.bool false)))))⟩,
      ⟨(some 105), none, (.op (.mov (.tmp 104)))⟩,
      ⟨(some 106), (some (105, true)), (.op (.load 3 true (.tmp 9)))⟩,
      ⟨(some 107), (some (105, true)), (.op (.load 3 true (.tmp 16)))⟩,
      ⟨(some 108), (some (105, true)), (.call (.dat (.fn (.func 19) [] [])) [(.tmp 106), (.tmp 107)])⟩,
      ⟨(some 109), none, (.op (.pick (.tmp 105) (.tmp 108) (.dat (.lit (.bool false)))))⟩,
      ⟨(some 110), none, (.op (.mov (.tmp 109)))⟩,
      ⟨(some 111), (some (110, true)), (.op (.load 3 true (.tmp 19)))⟩,
      ⟨(some 112), (some (110, true)), (.op (.build [.lit (.int .i64 0), .lit (.int .i64 0), .nil 1] []))⟩,
      ⟨(some 113), (some (110, true)), (.call (.dat (.fn (.func 19) [] [])) [(.tmp 111), (.tmp 112)])⟩,
      ⟨(some 114), none, (.op (.pick (.tmp 110) (.tmp 113) (.dat (.lit (.bool false)))))⟩,
      ⟨(some 115), none, (.op (.mov (.tmp 114)))⟩,
      ⟨(some 116), (some (115, true)), (.op (.load 2 true (.tmp 17)))⟩,
      ⟨(some 117), (some (115, true)), (.op (.load 2 true (.tmp 10)))⟩,
      ⟨(some 118), (some (115, true)), (.call (.dat (.fn (.func 15) [] [])) [(.tmp 116), (.tmp 117)])⟩,
      ⟨(some 119), none, (.op (.pick (.tmp 115) (.tmp 118) (.dat (.lit (.bool false)))))⟩,
      ⟨(some 120), none, (.op (.mov (.tmp 119)))⟩,
      ⟨(some 121), (some (120, true)), (.op (.field 1 1 false (.tmp 14)))⟩,
      ⟨(some 122), (some (120, true)), (.op (.load 1 false (.tmp 121)))⟩,
      ⟨(some 123), (some (120, true)), (.op (.len (.tmp 122)))⟩,
      ⟨(some 124), (some (120, true)), (.op (.arith .eql (.tmp 123) (.dat (.lit (.int .i64 1)))))⟩,
      ⟨(some 125), none, (.op (.pick (.tmp 120) (.tmp 124) (.dat (.lit (.bool false)))))⟩,
      ⟨(some 126), none, (.op (.mov (.tmp 125)))⟩,
      ⟨(some 127), (some (126, true)), (.op (.field 1 1 false (.tmp 14)))⟩,
      ⟨(some 128), (some (126, true)), (.op (.load 1 false (.tmp 127)))⟩,
      ⟨(some 129), (some (126, true)), (.op (.index 2 (.tmp 128) (.dat (.lit (.int .i64 0)))))⟩,
      ⟨(some 130), (some (126, true)), (.op (.load 2 true (.tmp 129)))⟩,
      ⟨(some 131), (some (126, true)), (.op (.build [.lit (.int .i64 0), .lit (.int .i64 0)] [(0, 1, (.dat (.lit (.int .i64 1)))), (1, 1, (.dat (.lit (.int .i64 3))))]))⟩,
      ⟨(some 132), (some (126, true)), (.op (.ext (.eqrow false [.int .i64, .int .i64]) [(.tmp 130), (.tmp 131)]))⟩,
      ⟨(some 133), none, (.op (.pick (.tmp 126) (.tmp 132) (.dat (.lit (.bool false)))))⟩,
      ⟨(some 134), none, (.op (.mov (.tmp 133)))⟩,
      ⟨(some 135), (some (134, true)), (.op (.field 0 1 false (.tmp 14)))⟩,
      ⟨(some 136), (some (134, true)), (.op (.load 1 false (.tmp 135)))⟩,
      ⟨(some 137), (some (134, true)), (.op (.len (.tmp 136)))⟩,
      ⟨(some 138), (some (134, true)), (.op (.arith .eql (.tmp 137) (.dat (.lit (.int .i64 2)))))⟩,
      ⟨(some 139), none, (.op (.pick (.tmp 134) (.tmp 138) (.dat (.lit (.bool false)))))⟩,
      ⟨(some 0), none, (.op (.mov (.tmp 139)))⟩])
    .ret))))))))))))
  res := [.tmp 0]
theorem c9 : CmpF Try.prog 9 a9 := chkF_cmp (F := Try.f9) (by kernel_rfl) mixed (by kernel_rfl)
/-- hansard/hansardref06.Few -/
def a10 : AF where
  nt := 13
  body := (.seq (.region none [
      ⟨(some 1), none, (.op (.box true (.tmp 0)))⟩,
      ⟨(some 2), none, (.op (.mov (.dat (.lit (.bool false)))))⟩])
    (.seq (.region none [
      ⟨(some 3), none, (.op (.field 0 1 false (.tmp 1)))⟩,
      ⟨(some 4), none, (.op (.load 1 false (.tmp 3)))⟩,
      ⟨(some 5), none, (.op (.len (.tmp 4)))⟩,
      ⟨(some 6), none, (.op (.arith .leq (.tmp 5) (.dat (.lit (.int .i64 40)))))⟩,
      ⟨(some 7), none, (.op (.mov (.tmp 6)))⟩,
      ⟨(some 8), (some (7, true)), (.op (.field 1 1 false (.tmp 1)))⟩,
      ⟨(some 9), (some (7, true)), (.op (.load 1 false (.tmp 8)))⟩,
      ⟨(some 10), (some (7, true)), (.op (.len (.tmp 9)))⟩,
      ⟨(some 11), (some (7, true)), (.op (.arith .leq (.tmp 10) (.dat (.lit (.int .i64 40)))))⟩,
      ⟨(some 12), none, (.op (.pick (.tmp 7) (.tmp 11) (.dat (.lit (.bool false)))))⟩,
      ⟨(some 2), none, (.op (.mov (.tmp 12)))⟩])
    .ret))
  res := [.tmp 2]
theorem c10 : CmpF Try.prog 10 a10 := chkF_cmp (F := Try.f10) (by kernel_rfl) mixed (by kernel_rfl)
/-- hansard/network.Send -/
def a11 : AF where
  nt := 34
  body := (.seq (.region none [
      ⟨(some 2), none, (.op (.box true (.tmp 0)))⟩,
      ⟨(some 3), none, (.op (.box true (.tmp 1)))⟩,
      ⟨(some 4), none, (.op (.alloc true [.nil 3, .nil 2]))⟩,
      ⟨(some 5), none, (.op (.mov (.dat (.lit (.int .i64 0)))))⟩])
    (.seq (.seq (.region none [
      ⟨(some 6), none, (.op (.load 2 true (.tmp 2)))⟩,
      ⟨(some 7), none, (.call (.dat (.fn (.func 13) [] [])) [(.tmp 6)])⟩,
      ⟨(some 8), none, (.op (.arith .neq (.tmp 7) (.dat (.lit (.int .i64 0)))))⟩,
      ⟨(some 9), none, (.op (.mov (.tmp 8)))⟩,
      ⟨(some 10), (some (9, false)), (.op (.load 3 true (.tmp 3)))⟩,
      ⟨(some 11), (some (9, false)), (.call (.dat (.fn (.func 28) [] [])) [(.tmp 10)])⟩,
      ⟨(some 12), (some (9, false)), (.op (.not (.tmp 11)))⟩,
      ⟨(some 13), none, (.op (.pick (.tmp 9) (.dat (.lit (.bool true))) (.tmp 12)))⟩])
    (.cond (.tmp 13)
      (.seq (.region none [
        ⟨(some 14), none, (.op (.load 2 true (.tmp 4)))⟩,
        ⟨none, none, (.op (.store 2 (.tmp 4) (.tmp 14)))⟩,
        ⟨(some 5), none, (.op (.mov (.dat (.lit (.int .i64 60)))))⟩])
      .ret)
      .skip))
    (.seq (.seq (.region none [
      ⟨(some 15), none, (.op (.field 0 1 false (.tmp 2)))⟩,
      ⟨(some 16), none, (.op (.load 1 false (.tmp 15)))⟩,
      ⟨(some 17), none, (.op (.len (.tmp 16)))⟩,
      ⟨(some 18), none, (.op (.arith .eql (.tmp 17) (.dat (.lit (.int .i64 4096)))))⟩])
    (.cond (.tmp 18)
      (.seq (.region none [
        ⟨(some 19), none, (.op (.load 2 true (.tmp 4)))⟩,
        ⟨none, none, (.op (.store 2 (.tmp 4) (.tmp 19)))⟩,
        ⟨(some 5), none, (.op (.mov (.dat (.lit (.int .i64 2)))))⟩])
      .ret)
      .skip))
    (.seq (.region (some [[], [0], [], [2], [2, 3], [], [5], [5, 6], [0, 1, 2, 3, 4, 5, 6, 7], [], [9], [0, 1, 2, 3, 4, 5, 6, 7, 8, 9, 10], [0, 1, 2, 3, 4, 5, 6, 7, 8, 9, 10, 11], [0, 1, 2, 3, 4, 5, 6, 7, 8, 9, 10, 11, 12]]) [
      ⟨(some 20), none, (.op (.field 0 1 false (.tmp 2)))⟩,
      ⟨(some 21), none, (.op (.load 1 false (.tmp 20)))⟩,
      ⟨(some 22), none, (.op (.field 0 1 false (.tmp 2)))⟩,
      ⟨(some 23), none, (.op (.load 1 false (.tmp 22)))⟩,
      ⟨(some 24), none, (.op (.len (.tmp 23)))⟩,
      ⟨(some 25), none, (.op (.field 0 1 false (.tmp 2)))⟩,
      ⟨(some 26), none, (.op (.load 1 false (.tmp 25)))⟩,
      ⟨(some 27), none, (.op (.len (.tmp 26)))⟩,
      ⟨(some 28), none, (.op (.slice3 3 (.tmp 21) none (.tmp 24) (.tmp 27)))⟩,
      ⟨(some 29), none, (.op (.load 3 true (.tmp 3)))⟩,
      ⟨(some 30), none, (.op (.mkslice 3 [(.tmp 29)]))⟩,
      ⟨(some 31), none, (.op (.append 3 40 (.tmp 28) (.tmp 30)))⟩,
      ⟨(some 32), none, (.op (.field 0 1 false (.tmp 2)))⟩,
      ⟨none, none, (.op (.store 1 (.tmp 32) (.tmp 31)))⟩])
    (.seq (.region none [
      ⟨(some 33), none, (.op (.load 2 true (.tmp 2)))⟩,
      ⟨none, none, (.op (.store 2 (.tmp 4) (.tmp 33)))⟩,
      ⟨(some 5), none, (.op (.mov (.dat (.lit (.int .i64 0)))))⟩])
    .ret)))))
  res := [.cell 4 2 true, .tmp 5]
theorem c11 : CmpF Try.prog 11 a11 := chkF_cmp (F := Try.f11) (by kernel_rfl) mixed (by kernel_rfl)
/-- hansard/hansardref06.Send -/
def a12 : AF where
  nt := 29
  body := (.seq (.region none [
      ⟨(some 2), none, (.op (.box true (.tmp 0)))⟩,
      ⟨(some 3), none, (.op (.box true (.tmp 1)))⟩,
      ⟨(some 4), none, (.op (.alloc true [.nil 3, .nil 2]))⟩,
      ⟨(some 5), none, (.op (.mov (.dat (.lit (.int .i64 0)))))⟩])
    (.seq (.seq (.region none [
      ⟨(some 6), none, (.op (.load 2 true (.tmp 2)))⟩,
      ⟨(some 7), none, (.call (.dat (.fn (.func 14) [] [])) [(.tmp 6)])⟩,
      ⟨(some 8), none, (.op (.arith .neq (.tmp 7) (.dat (.lit (.int .i64 0)))))⟩,
      ⟨(some 9), none, (.op (.mov (.tmp 8)))⟩,
      ⟨(some 10), (some (9, false)), (.op (.load 3 true (.tmp 3)))⟩,
      ⟨(some 11), (some (9, false)), (.call (.dat (.fn (.func 29) [] [])) [(.tmp 10)])⟩,
      ⟨(some 12), (some (9, false)), (.op (.not (.tmp 11)))⟩,
      ⟨(some 13), none, (.op (.pick (.tmp 9) (.dat (.lit (.bool true))) (.tmp 12)))⟩])
    (.cond (.tmp 13)
      (.seq (.region none [
        ⟨(some 14), none, (.op (.build [.nil 3, .nil 2] []))⟩,
        ⟨none, none, (.op (.store 2 (.tmp 4) (.tmp 14)))⟩,
        ⟨(some 5), none, (.op (.mov (.dat (.lit (.int .i64 60)))))⟩])
      .ret)
      .skip))
    (.seq (.seq (.region none [
      ⟨(some 15), none, (.op (.field 0 1 false (.tmp 2)))⟩,
      ⟨(some 16), none, (.op (.load 1 false (.tmp 15)))⟩,
      ⟨(some 17), none, (.op (.len (.tmp 16)))⟩,
      ⟨(some 18), none, (.op (.arith .eql (.tmp 17) (.dat (.lit (.int .i64 4096)))))⟩])
    (.cond (.tmp 18)
      (.seq (.region none [
        ⟨(some 19), none, (.op (.build [.nil 3, .nil 2] []))⟩,
        ⟨none, none, (.op (.store 2 (.tmp 4) (.tmp 19)))⟩,
        ⟨(some 5), none, (.op (.mov (.dat (.lit (.int .i64 2)))))⟩])
      .ret)
      .skip))
    (.seq (.region (some [[], [], [1], [0, 1, 2], [], [4], [0, 1, 2, 3, 4, 5], [0, 1, 2, 3, 4, 5, 6], [0, 1, 2, 3, 4, 5, 6, 7]]) [
      ⟨(some 20), none, (.op (.mkslice 3 []))⟩,
      ⟨(some 21), none, (.op (.field 0 1 false (.tmp 2)))⟩,
      ⟨(some 22), none, (.op (.load 1 false (.tmp 21)))⟩,
      ⟨(some 23), none, (.op (.append 3 40 (.tmp 20) (.tmp 22)))⟩,
      ⟨(some 24), none, (.op (.load 3 true (.tmp 3)))⟩,
      ⟨(some 25), none, (.op (.mkslice 3 [(.tmp 24)]))⟩,
      ⟨(some 26), none, (.op (.append 3 40 (.tmp 23) (.tmp 25)))⟩,
      ⟨(some 27), none, (.op (.field 0 1 false (.tmp 2)))⟩,
      ⟨none, none, (.op (.store 1 (.tmp 27) (.tmp 26)))⟩])
    (.seq (.region none [
      ⟨(some 28), none, (.op (.load 2 true (.tmp 2)))⟩,
      ⟨none, none, (.op (.store 2 (.tmp 4) (.tmp 28)))⟩,
      ⟨(some 5), none, (.op (.mov (.dat (.lit (.int .i64 0)))))⟩])
    .ret)))))
  res := [.cell 4 2 true, .tmp 5]
theorem c12 : CmpF Try.prog 12 a12 := chkF_cmp (F := Try.f12) (by kernel_rfl) mixed (by kernel_rfl)
/-- hansard/network.Check -/
def a13 : AF where
  nt := 41
  body := (.seq (.region none [
      ⟨(some 1), none, (.op (.box true (.tmp 0)))⟩,
      ⟨(some 2), none, (.op (.mov (.dat (.lit (.int .i64 0)))))⟩])
    (.seq (.seq (.region none [
      ⟨(some 5), none, (.op (.field 0 1 false (.tmp 1)))⟩,
      ⟨(some 6), none, (.op (.load 1 false (.tmp 5)))⟩,
      ⟨(some 7), none, (.op (.len (.tmp 6)))⟩,
      ⟨(some 8), none, (.op (.arith .gtr (.tmp 7) (.dat (.lit (.int .i64 4096)))))⟩,
      ⟨(some 9), none, (.op (.mov (.tmp 8)))⟩,
      ⟨(some 10), (some (9, false)), (.op (.field 0 1 false (.tmp 1)))⟩,
      ⟨(some 11), (some (9, false)), (.op (.load 1 false (.tmp 10)))⟩,
      ⟨(some 12), (some (9, false)), (.call (.dat (.fn (.func 30) [] [])) [(.tmp 11), (.dat (.fn (.func 31) [] []))])⟩,
      ⟨(some 13), none, (.op (.pick (.tmp 9) (.dat (.lit (.bool true))) (.tmp 12)))⟩])
    (.cond (.tmp 13)
      (.seq (.region none [
        ⟨(some 2), none, (.op (.mov (.dat (.lit (.int .i64 60)))))⟩])
      .ret)
      .skip))
    (.seq (.seq (.region none [
      ⟨(some 14), none, (.op (.field 1 1 false (.tmp 1)))⟩,
      ⟨(some 15), none, (.op (.load 1 false (.tmp 14)))⟩,
      ⟨(some 16), none, (.op (.len (.tmp 15)))⟩,
      ⟨(some 17), none, (.op (.mov (.dat (.lit (.int .i64 0)))))⟩])
    (.block 0
      (.loop
        (.seq (.region none [
          ⟨(some 18), none, (.op (.arith .lss (.tmp 17) (.tmp 16)))⟩])
        (.seq (.cond (.tmp 18)
          .skip
          (.exit 0))
        (.seq (.block 1
          (.seq (.region none [
            ⟨(some 19), none, (.op (.mov (.tmp 17)))⟩,
            ⟨(some 20), none, (.op (.index 2 (.tmp 15) (.tmp 17)))⟩,
            ⟨(some 21), none, (.op (.load 2 true (.tmp 20)))⟩,
            ⟨(some 4), none, (.op (.alloc true [.lit (.int .i64 0), .lit (.int .i64 0)]))⟩,
            ⟨(some 3), none, (.op (.mov (.tmp 19)))⟩,
            ⟨none, none, (.op (.store 2 (.tmp 4) (.tmp 21)))⟩])
          (.seq (.region (some [[], [0], [0, 1], [0, 1, 2], [0, 1, 2, 3], [0, 1, 2, 3, 4], [0, 1, 2, 3, 4, 5], [0, 1, 2, 3, 4, 5, 6], [0, 1, 2, 3, 4, 5, 6, 7], [0, 1, 2, 3, 4, 5, 6], [0, 1, 2, 3, 4, 5, 6, 9], [0, 1, 2, 3, 4, 5, 6, 7, 8, 9, 10], [0, 1, 2, 3, 4, 5, 6, 7, 8, 9, 10, 11], [0, 1, 2, 3, 4, 5, 6], [0, 1, 2, 3, 4, 5, 6, 7, 8, 9, 10, 11, 12, 13], [0, 1, 2, 3, 4, 5, 6, 7, 8, 9, 10, 11, 12, 13, 14], [0, 1, 2, 3, 4, 5, 6, 7, 8, 9, 10, 11, 12, 13, 14, 15], [0, 1, 2, 3, 4, 5, 6, 7, 8, 9, 10, 11, 12, 13, 14, 15, 16]]) [
            ⟨(some 22), none, (.op (.load 2 true (.tmp 4)))⟩,
            ⟨(some 23), none, (.call (.dat (.fn (.func 32) [] [])) [(.tmp 22)])⟩,
            ⟨(some 24), none, (.op (.not (.tmp 23)))⟩,
            ⟨(some 25), none, (.op (.mov (.tmp 24)))⟩,
            ⟨(some 26), (some (25, false)), (.op (.mov (.tmp 3)))⟩,
            ⟨(some 27), (some (25, false)), (.op (.arith .gtr (.tmp 26) (.dat (.lit (.int .i64 0)))))⟩,
            ⟨(some 28), (some (25, false)), (.op (.mov (.tmp 27)))⟩,
            ⟨(some 29), (some (28, true)), (.op (.field 1 1 false (.tmp 1)))⟩,
            ⟨(some 30), (some (28, true)), (.op (.load 1 false (.tmp 29)))⟩,
            ⟨(some 31), (some (28, true)), (.op (.mov (.tmp 3)))⟩,
            ⟨(some 32), (some (28, true)), (.op (.arith .sub (.tmp 31) (.dat (.lit (.int .i64 1)))))⟩,
            ⟨(some 33), (some (28, true)), (.op (.index 2 (.tmp 30) (.tmp 32)))⟩,
            ⟨(some 34), (some (28, true)), (.op (.ext (.sliceA 2 1) [(.tmp 33)]))⟩,
            ⟨(some 35), (some (28, true)), (.op (.ext (.sliceA 2 1) [(.tmp 4)]))⟩,
            ⟨(some 36), (some (28, true)), (.call (.dat (.fn (.func 33) [] [])) [(.tmp 34), (.tmp 35)])⟩,
            ⟨(some 37), (some (28, true)), (.op (.arith .geq (.tmp 36) (.dat (.lit (.int .i64 0)))))⟩,
            ⟨(some 38), (some (25, false)), (.op (.pick (.tmp 28) (.tmp 37) (.dat (.lit (.bool false)))))⟩,
            ⟨(some 39), none, (.op (.pick (.tmp 25) (.dat (.lit (.bool true))) (.tmp 38)))⟩])
          (.cond (.tmp 39)
            (.seq (.region none [
              ⟨(some 2), none, (.op (.mov (.dat (.lit (.int .i64 60)))))⟩])
            .ret)
            .skip))))
        (.region none [
          ⟨(some 40), none, (.op (.arith .add (.tmp 17) (.dat (.lit (.int .i64 1)))))⟩,
          ⟨(some 17), none, (.op (.mov (.tmp 40)))⟩])))))))
    (.seq (.region none [
      ⟨(some 2), none, (.op (.mov (.dat (.lit (.int .i64 0)))))⟩])
    .ret))))
  res := [.tmp 2]
theorem c13 : CmpF Try.prog 13 a13 := chkF_cmp (F := Try.f13) (by kernel_rfl) mixed (by kernel_rfl)
/-- hansard/hansardref06.Check -/
def a14 : AF where
  nt := 91
  body := (.seq (.region none [
      ⟨(some 1), none, (.op (.box true (.tmp 0)))⟩,
      ⟨(some 2), none, (.op (.mov (.dat (.lit (.int .i64 0)))))⟩])
    (.seq (.seq (.region none [
      ⟨(some 6), none, (.op (.field 0 1 false (.tmp 1)))⟩,
      ⟨(some 7), none, (.op (.load 1 false (.tmp 6)))⟩,
      ⟨(some 8), none, (.op (.len (.tmp 7)))⟩,
      ⟨(some 9), none, (.op (.arith .gtr (.tmp 8) (.dat (.lit (.int .i64 4096)))))⟩])
    (.cond (.tmp 9)
      (.seq (.region none [
        ⟨(some 2), none, (.op (.mov (.dat (.lit (.int .i64 60)))))⟩])
      .ret)
      .skip))
    (.seq (.seq (.region none [
      ⟨(some 3), none, (.op (.mov (.dat (.lit (.int .i64 0)))))⟩])
    (.block 0
      (.loop
        (.seq (.seq (.region none [
          ⟨(some 10), none, (.op (.mov (.tmp 3)))⟩,
          ⟨(some 11), none, (.op (.field 0 1 false (.tmp 1)))⟩,
          ⟨(some 12), none, (.op (.load 1 false (.tmp 11)))⟩,
          ⟨(some 13), none, (.op (.len (.tmp 12)))⟩,
          ⟨(some 14), none, (.op (.arith .lss (.tmp 10) (.tmp 13)))⟩])
        (.cond (.tmp 14)
          .skip
          (.exit 0)))
        (.seq (.block 1
          (.seq (.region none [
            ⟨(some 17), none, (.op (.field 0 1 false (.tmp 1)))⟩,
            ⟨(some 18), none, (.op (.load 1 false (.tmp 17)))⟩,
            ⟨(some 19), none, (.op (.mov (.tmp 3)))⟩,
            ⟨(some 20), none, (.op (.index 3 (.tmp 18) (.tmp 19)))⟩,
            ⟨(some 21), none, (.op (.load 3 true (.tmp 20)))⟩,
            ⟨(some 22), none, (.call (.dat (.fn (.func 29) [] [])) [(.tmp 21)])⟩,
            ⟨(some 23), none, (.op (.not (.tmp 22)))⟩])
          (.cond (.tmp 23)
            (.seq (.region none [
              ⟨(some 2), none, (.op (.mov (.dat (.lit (.int .i64 60)))))⟩])
            .ret)
            .skip)))
        (.region none [
          ⟨(some 15), none, (.op (.mov (.tmp 3)))⟩,
          ⟨(some 16), none, (.op (.arith .add (.tmp 15) (.dat (.lit (.int .i64 1)))))⟩,
          ⟨(some 3), none, (.op (.mov (.tmp 16)))⟩]))))))
    (.seq (.seq (.region none [
      ⟨(some 4), none, (.op (.mov (.dat (.lit (.int .i64 0)))))⟩])
    (.block 2
      (.loop
        (.seq (.seq (.region none [
          ⟨(some 24), none, (.op (.mov (.tmp 4)))⟩,
          ⟨(some 25), none, (.op (.field 1 1 false (.tmp 1)))⟩,
          ⟨(some 26), none, (.op (.load 1 false (.tmp 25)))⟩,
          ⟨(some 27), none, (.op (.len (.tmp 26)))⟩,
          ⟨(some 28), none, (.op (.arith .lss (.tmp 24) (.tmp 27)))⟩])
        (.cond (.tmp 28)
          .skip
          (.exit 2)))
        (.seq (.block 3
          (.seq (.region none [
            ⟨(some 31), none, (.op (.field 1 1 false (.tmp 1)))⟩,
            ⟨(some 32), none, (.op (.load 1 false (.tmp 31)))⟩,
            ⟨(some 33), none, (.op (.mov (.tmp 4)))⟩,
            ⟨(some 34), none, (.op (.index 2 (.tmp 32) (.tmp 33)))⟩,
            ⟨(some 35), none, (.op (.load 2 true (.tmp 34)))⟩,
            ⟨(some 5), none, (.op (.alloc true [.lit (.int .i64 0), .lit (.int .i64 0)]))⟩,
            ⟨none, none, (.op (.store 2 (.tmp 5) (.tmp 35)))⟩])
          (.seq (.seq (.region none [
            ⟨(some 36), none, (.op (.indexA 1 false 2 (.tmp 5) (.dat (.lit (.int .i64 0)))))⟩,
            ⟨(some 37), none, (.op (.load 1 false (.tmp 36)))⟩,
            ⟨(some 38), none, (.call (.dat (.fn (.func 34) [] [])) [(.tmp 37)])⟩,
            ⟨(some 39), none, (.op (.not (.tmp 38)))⟩,
            ⟨(some 40), none, (.op (.mov (.tmp 39)))⟩,
            ⟨(some 41), (some (40, false)), (.op (.indexA 1 false 2 (.tmp 5) (.dat (.lit (.int .i64 1)))))⟩,
            ⟨(some 42), (some (40, false)), (.op (.load 1 false (.tmp 41)))⟩,
            ⟨(some 43), (some (40, false)), (.call (.dat (.fn (.func 34) [] [])) [(.tmp 42)])⟩,
            ⟨(some 44), (some (40, false)), (.op (.not (.tmp 43)))⟩,
            ⟨(some 45), none, (.op (.pick (.tmp 40) (.dat (.lit (.bool true))) (.tmp 44)))⟩,
            ⟨(some 46), none, (.op (.mov (.tmp 45)))⟩,
            ⟨(some 47), (some (46, false)), (.op (.indexA 1 false 2 (.tmp 5) (.dat (.lit (.int .i64 0)))))⟩,
            ⟨(some 48), (some (46, false)), (.op (.load 1 false (.tmp 47)))⟩,
            ⟨(some 49), (some (46, false)), (.op (.indexA 1 false 2 (.tmp 5) (.dat (.lit (.int .i64 1)))))⟩,
            ⟨(some 50), (some (46, false)), (.op (.load 1 false (.tmp 49)))⟩,
            ⟨(some 51), (some (46, false)), (.op (.arith .geq (.tmp 48) (.tmp 50)))⟩,
            ⟨(some 52), none, (.op (.pick (.tmp 46) (.dat (.lit (.bool true))) (.tmp 51)))⟩])
          (.cond (.tmp 52)
            (.seq (.region none [
              ⟨(some 2), none, (.op (.mov (.dat (.lit (.int .i64 60)))))⟩])
            .ret)
            .skip))
          (.seq (.region (some [[], [0], [0, 1], [0, 1, 2], [0, 1, 2, 3], [0, 1, 2], [0, 1, 2, 5], [0, 1, 2], [0, 1, 2, 7], [0, 1, 2, 5, 6, 7, 8], [0, 1, 2, 5, 6, 7, 8, 9], [0, 1, 2, 5, 6, 7, 8, 9, 10], [0, 1, 2, 3, 4, 5, 6, 7, 8, 9, 10, 11], [0, 1, 2, 3, 4, 5, 6, 7, 8, 9, 10, 11, 12], [0, 1, 2, 3, 4, 5, 6, 7, 8, 9, 10, 11, 12, 13], [0, 1, 2, 3, 4, 5, 6, 7, 8, 9, 10, 11, 12, 13, 14], [0, 1, 2, 3, 4, 5, 6, 7, 8, 9, 10, 11, 12, 13], [0, 1, 2, 3, 4, 5, 6, 7, 8, 9, 10, 11, 12, 13, 16], [0, 1, 2, 3, 4, 5, 6, 7, 8, 9, 10, 11, 12, 13], [0, 1, 2, 3, 4, 5, 6, 7, 8, 9, 10, 11, 12, 13, 18], [0, 1, 2, 3, 4, 5, 6, 7, 8, 9, 10, 11, 12, 13, 16, 17, 18, 19], [0, 1, 2, 3, 4, 5, 6, 7, 8, 9, 10, 11, 12, 13, 16, 17, 18, 19, 20], [0, 1, 2, 3, 4, 5, 6, 7, 8, 9, 10, 11, 12, 13, 16, 17, 18, 19, 20, 21], [0, 1, 2, 3, 4, 5, 6, 7, 8, 9, 10, 11, 12, 13, 14, 15, 16, 17, 18, 19, 20, 21, 22], [0, 1, 2, 3, 4, 5, 6, 7, 8, 9, 10, 11, 12, 13, 14, 15, 16, 17, 18, 19, 20, 21, 22, 23], [0, 1, 2, 3, 4, 5, 6, 7, 8, 9, 10, 11, 12, 13, 14, 15, 16, 17, 18, 19, 20, 21, 22, 23, 24], [0, 1, 2, 3, 4, 5, 6, 7, 8, 9, 10, 11, 12, 13, 14, 15, 16, 17, 18, 19, 20, 21, 22, 23, 24, 25], [0, 1, 2, 3, 4, 5, 6, 7, 8, 9, 10, 11, 12, 13, 14, 15, 16, 17, 18, 19, 20, 21, 22, 23, 24], [0, 1, 2, 3, 4, 5, 6, 7, 8, 9, 10, 11, 12, 13, 14, 15, 16, 17, 18, 19, 20, 21, 22, 23, 24, 27], [0, 1, 2, 3, 4, 5, 6, 7, 8, 9, 10, 11, 12, 13, 14, 15, 16, 17, 18, 19, 20, 21, 22, 23, 24], [0, 1, 2, 3, 4, 5, 6, 7, 8, 9, 10, 11, 12, 13, 14, 15, 16, 17, 18, 19, 20, 21, 22, 23, 24, 29], [0, 1, 2, 3, 4, 5, 6, 7, 8, 9, 10, 11, 12, 13, 14, 15, 16, 17, 18, 19, 20, 21, 22, 23, 24, 27, 28, 29, 30], [0, 1, 2, 3, 4, 5, 6, 7, 8, 9, 10, 11, 12, 13, 14, 15, 16, 17, 18, 19, 20, 21, 22, 23, 24, 27, 28, 29, 30, 31], [0, 1, 2, 3, 4, 5, 6, 7, 8, 9, 10, 11, 12, 13, 14, 15, 16, 17, 18, 19, 20, 21, 22, 23, 24, 27, 28, 29, 30, 31, 32], [0, 1, 2, 3, 4, 5, 6, 7, 8, 9, 10, 11, 12, 13, 14, 15, 16, 17, 18, 19, 20, 21, 22, 23, 24, 25, 26, 27, 28, 29, 30, 31, 32, 33], [0, 1, 2, 3, 4, 5, 6, 7, 8, 9, 10, 11, 12, 13, 14, 15, 16, 17, 18, 19, 20, 21, 22, 23, 24, 25, 26, 27, 28, 29, 30, 31, 32, 33, 34], [0, 1, 2, 3, 4, 5, 6, 7, 8, 9, 10, 11, 12, 13, 14, 15, 16, 17, 18, 19, 20, 21, 22, 23, 24, 25, 26, 27, 28, 29, 30, 31, 32, 33, 34, 35], [0, 1, 2, 3, 4, 5, 6, 7, 8, 9, 10, 11, 12, 13, 14, 15, 16, 17, 18, 19, 20, 21, 22, 23, 24, 25, 26, 27, 28, 29, 30, 31, 32, 33, 34, 35, 36]]) [
            ⟨(some 53), none, (.op (.mov (.tmp 4)))⟩,
            ⟨(some 54), none, (.op (.arith .gtr (.tmp 53) (.dat (.lit (.int .i64 0)))))⟩,
            ⟨(some 55), none, (.op (.mov (.tmp 54)))⟩,
            ⟨(some 56), (some (55, true)), (.op (.indexA 1 false 2 (.tmp 5) (.dat (.lit (.int .i64 0)))))⟩,
            ⟨(some 57), (some (55, true)), (.op (.load 1 false (.tmp 56)))⟩,
            ⟨(some 58), (some (55, true)), (.op (.field 1 1 false (.tmp 1)))⟩,
            ⟨(some 59), (some (55, true)), (.op (.load 1 false (.tmp 58)))⟩,
            ⟨(some 60), (some (55, true)), (.op (.mov (.tmp 4)))⟩,
            ⟨(some 61), (some (55, true)), (.op (.arith .sub (.tmp 60) (.dat (.lit (.int .i64 1)))))⟩,
            ⟨(some 62), (some (55, true)), (.op (.index 2 (.tmp 59) (.tmp 61)))⟩,
            ⟨(some 63), (some (55, true)), (.op (.indexA 1 false 2 (.tmp 62) (.dat (.lit (.int .i64 0)))))⟩,
            ⟨(some 64), (some (55, true)), (.op (.load 1 false (.tmp 63)))⟩,
            ⟨(some 65), (some (55, true)), (.op (.arith .lss (.tmp 57) (.tmp 64)))⟩,
            ⟨(some 66), (some (55, true)), (.op (.mov (.tmp 65)))⟩,
            ⟨(some 67), (some (66, false)), (.op (.indexA 1 false 2 (.tmp 5) (.dat (.lit (.int .i64 0)))))⟩,
            ⟨(some 68), (some (66, false)), (.op (.load 1 false (.tmp 67)))⟩,
            ⟨(some 69), (some (66, false)), (.op (.field 1 1 false (.tmp 1)))⟩,
            ⟨(some 70), (some (66, false)), (.op (.load 1 false (.tmp 69)))⟩,
            ⟨(some 71), (some (66, false)), (.op (.mov (.tmp 4)))⟩,
            ⟨(some 72), (some (66, false)), (.op (.arith .sub (.tmp 71) (.dat (.lit (.int .i64 1)))))⟩,
            ⟨(some 73), (some (66, false)), (.op (.index 2 (.tmp 70) (.tmp 72)))⟩,
            ⟨(some 74), (some (66, false)), (.op (.indexA 1 false 2 (.tmp 73) (.dat (.lit (.int .i64 0)))))⟩,
            ⟨(some 75), (some (66, false)), (.op (.load 1 false (.tmp 74)))⟩,
            ⟨(some 76), (some (66, false)), (.op (.arith .eql (.tmp 68) (.tmp 75)))⟩,
            ⟨(some 77), (some (66, false)), (.op (.mov (.tmp 76)))⟩,
            ⟨(some 78), (some (77, true)), (.op (.indexA 1 false 2 (.tmp 5) (.dat (.lit (.int .i64 1)))))⟩,
            ⟨(some 79), (some (77, true)), (.op (.load 1 false (.tmp 78)))⟩,
            ⟨(some 80), (some (77, true)), (.op (.field 1 1 false (.tmp 1)))⟩,
            ⟨(some 81), (some (77, true)), (.op (.load 1 false (.tmp 80)))⟩,
            ⟨(some 82), (some (77, true)), (.op (.mov (.tmp 4)))⟩,
            ⟨(some 83), (some (77, true)), (.op (.arith .sub (.tmp 82) (.dat (.lit (.int .i64 1)))))⟩,
            ⟨(some 84), (some (77, true)), (.op (.index 2 (.tmp 81) (.tmp 83)))⟩,
            ⟨(some 85), (some (77, true)), (.op (.indexA 1 false 2 (.tmp 84) (.dat (.lit (.int .i64 1)))))⟩,
            ⟨(some 86), (some (77, true)), (.op (.load 1 false (.tmp 85)))⟩,
            ⟨(some 87), (some (77, true)), (.op (.arith .leq (.tmp 79) (.tmp 86)))⟩,
            ⟨(some 88), (some (66, false)), (.op (.pick (.tmp 77) (.tmp 87) (.dat (.lit (.bool false)))))⟩,
            ⟨(some 89), (some (55, true)), (.op (.pick (.tmp 66) (.dat (.lit (.bool true))) (.tmp 88)))⟩,
            ⟨(some 90), none, (.op (.pick (.tmp 55) (.tmp 89) (.dat (.lit (.bool false)))))⟩])
          (.cond (.tmp 90)
            (.seq (.region none [
              ⟨(some 2), none, (.op (.mov (.dat (.lit (.int .i64 60)))))⟩])
            .ret)
            .skip)))))
        (.region none [
          ⟨(some 29), none, (.op (.mov (.tmp 4)))⟩,
          ⟨(some 30), none, (.op (.arith .add (.tmp 29) (.dat (.lit (.int .i64 1)))))⟩,
          ⟨(some 4), none, (.op (.mov (.tmp 30)))⟩]))))))
    (.seq (.region none [
      ⟨(some 2), none, (.op (.mov (.dat (.lit (.int .i64 0)))))⟩])
    .ret)))))
  res := [.tmp 2]
theorem c14 : CmpF Try.prog 14 a14 := chkF_cmp (F := Try.f14) (by kernel_rfl) mixed (by kernel_rfl)
/-- hansard/hansardref06.Same -/
def a15 : AF where
  nt := 60
  body := (.seq (.region none [
      ⟨(some 2), none, (.op (.box true (.tmp 0)))⟩,
      ⟨(some 3), none, (.op (.box true (.tmp 1)))⟩,
      ⟨(some 4), none, (.op (.mov (.dat (.lit (.bool false)))))⟩])
    (.seq (.seq (.region none [
      ⟨(some 7), none, (.op (.field 0 1 false (.tmp 2)))⟩,
      ⟨(some 8), none, (.op (.load 1 false (.tmp 7)))⟩,
      ⟨(some 9), none, (.op (.len (.tmp 8)))⟩,
      ⟨(some 10), none, (.op (.field 0 1 false (.tmp 3)))⟩,
      ⟨(some 11), none, (.op (.load 1 false (.tmp 10)))⟩,
      ⟨(some 12), none, (.op (.len (.tmp 11)))⟩,
      ⟨(some 13), none, (.op (.arith .neq (.tmp 9) (.tmp 12)))⟩,
      ⟨(some 14), none, (.op (.mov (.tmp 13)))⟩,
      ⟨(some 15), (some (14, false)), (.op (.field 1 1 false (.tmp 2)))⟩,
      ⟨(some 16), (some (14, false)), (.op (.load 1 false (.tmp 15)))⟩,
      ⟨(some 17), (some (14, false)), (.op (.len (.tmp 16)))⟩,
      ⟨(some 18), (some (14, false)), (.op (.field 1 1 false (.tmp 3)))⟩,
      ⟨(some 19), (some (14, false)), (.op (.load 1 false (.tmp 18)))⟩,
      ⟨(some 20), (some (14, false)), (.op (.len (.tmp 19)))⟩,
      ⟨(some 21), (some (14, false)), (.op (.arith .neq (.tmp 17) (.tmp 20)))⟩,
      ⟨(some 22), none, (.op (.pick (.tmp 14) (.dat (.lit (.bool true))) (.tmp 21)))⟩])
    (.cond (.tmp 22)
      (.seq (.region none [
        ⟨(some 4), none, (.op (.mov (.dat (.lit (.bool false)))))⟩])
      .ret)
      .skip))
    (.seq (.seq (.region none [
      ⟨(some 5), none, (.op (.mov (.dat (.lit (.int .i64 0)))))⟩])
    (.block 0
      (.loop
        (.seq (.seq (.region none [
          ⟨(some 23), none, (.op (.mov (.tmp 5)))⟩,
          ⟨(some 24), none, (.op (.field 0 1 false (.tmp 2)))⟩,
          ⟨(some 25), none, (.op (.load 1 false (.tmp 24)))⟩,
          ⟨(some 26), none, (.op (.len (.tmp 25)))⟩,
          ⟨(some 27), none, (.op (.arith .lss (.tmp 23) (.tmp 26)))⟩])
        (.cond (.tmp 27)
          .skip
          (.exit 0)))
        (.seq (.block 1
          (.seq (.region (some [[], [0], [], [0, 1, 2], [0, 1, 2, 3], [], [5], [], [5, 6, 7], [5, 6, 7, 8], [0, 1, 2, 3, 4, 5, 6, 7, 8, 9], [0, 1, 2, 3, 4, 5, 6, 7, 8, 9, 10]]) [
            ⟨(some 30), none, (.op (.field 0 1 false (.tmp 2)))⟩,
            ⟨(some 31), none, (.op (.load 1 false (.tmp 30)))⟩,
            ⟨(some 32), none, (.op (.mov (.tmp 5)))⟩,
            ⟨(some 33), none, (.op (.index 3 (.tmp 31) (.tmp 32)))⟩,
            ⟨(some 34), none, (.op (.load 3 true (.tmp 33)))⟩,
            ⟨(some 35), none, (.op (.field 0 1 false (.tmp 3)))⟩,
            ⟨(some 36), none, (.op (.load 1 false (.tmp 35)))⟩,
            ⟨(some 37), none, (.op (.mov (.tmp 5)))⟩,
            ⟨(some 38), none, (.op (.index 3 (.tmp 36) (.tmp 37)))⟩,
            ⟨(some 39), none, (.op (.load 3 true (.tmp 38)))⟩,
            ⟨(some 40), none, (.call (.dat (.fn (.func 19) [] [])) [(.tmp 34), (.tmp 39)])⟩,
            ⟨(some 41), none, (.op (.not (.tmp 40)))⟩])
          (.cond (.tmp 41)
            (.seq (.region none [
              ⟨(some 4), none, (.op (.mov (.dat (.lit (.bool false)))))⟩])
            .ret)
            .skip)))
        (.region none [
          ⟨(some 28), none, (.op (.mov (.tmp 5)))⟩,
          ⟨(some 29), none, (.op (.arith .add (.tmp 28) (.dat (.lit (.int .i64 1)))))⟩,
          ⟨(some 5), none, (.op (.mov (.tmp 29)))⟩]))))))
    (.seq (.seq (.region none [
      ⟨(some 6), none, (.op (.mov (.dat (.lit (.int .i64 0)))))⟩])
    (.block 2
      (.loop
        (.seq (.seq (.region none [
          ⟨(some 42), none, (.op (.mov (.tmp 6)))⟩,
          ⟨(some 43), none, (.op (.field 1 1 false (.tmp 2)))⟩,
          ⟨(some 44), none, (.op (.load 1 false (.tmp 43)))⟩,
          ⟨(some 45), none, (.op (.len (.tmp 44)))⟩,
          ⟨(some 46), none, (.op (.arith .lss (.tmp 42) (.tmp 45)))⟩])
        (.cond (.tmp 46)
          .skip
          (.exit 2)))
        (.seq (.block 3
          (.seq (.region (some [[], [0], [], [0, 1, 2], [0, 1, 2, 3], [], [5], [], [5, 6, 7], [5, 6, 7, 8], [0, 1, 2, 3, 4, 5, 6, 7, 8, 9]]) [
            ⟨(some 49), none, (.op (.field 1 1 false (.tmp 2)))⟩,
            ⟨(some 50), none, (.op (.load 1 false (.tmp 49)))⟩,
            ⟨(some 51), none, (.op (.mov (.tmp 6)))⟩,
            ⟨(some 52), none, (.op (.index 2 (.tmp 50) (.tmp 51)))⟩,
            ⟨(some 53), none, (.op (.load 2 true (.tmp 52)))⟩,
            ⟨(some 54), none, (.op (.field 1 1 false (.tmp 3)))⟩,
            ⟨(some 55), none, (.op (.load 1 false (.tmp 54)))⟩,
            ⟨(some 56), none, (.op (.mov (.tmp 6)))⟩,
            ⟨(some 57), none, (.op (.index 2 (.tmp 55) (.tmp 56)))⟩,
            ⟨(some 58), none, (.op (.load 2 true (.tmp 57)))⟩,
            ⟨(some 59), none, (.op (.ext (.eqrow true [.int .i64, .int .i64]) [(.tmp 53), (.tmp 58)]))⟩])
          (.cond (.tmp 59)
            (.seq (.region none [
              ⟨(some 4), none, (.op (.mov (.dat (.lit (.bool false)))))⟩])
            .ret)
            .skip)))
        (.region none [
          ⟨(some 47), none, (.op (.mov (.tmp 6)))⟩,
          ⟨(some 48), none, (.op (.arith .add (.tmp 47) (.dat (.lit (.int .i64 1)))))⟩,
          ⟨(some 6), none, (.op (.mov (.tmp 48)))⟩]))))))
    (.seq (.region none [
      ⟨(some 4), none, (.op (.mov (.dat (.lit (.bool true)))))⟩])
    .ret)))))
  res := [.tmp 4]
theorem c15 : CmpF Try.prog 15 a15 := chkF_cmp (F := Try.f15) (by kernel_rfl) mixed (by kernel_rfl)
/-- hansard/network.New -/
def a16 : AF where
  nt := 2
  body := (.seq (.region none [
      ⟨(some 0), none, (.op (.alloc true [.nil 3, .nil 2]))⟩])
    (.seq (.region none [
      ⟨(some 1), none, (.op (.load 2 true (.tmp 0)))⟩,
      ⟨none, none, (.op (.store 2 (.tmp 0) (.tmp 1)))⟩])
    .ret))
  res := [.cell 0 2 true]
theorem c16 : CmpF Try.prog 16 a16 := chkF_cmp (F := Try.f16) (by kernel_rfl) mixed (by kernel_rfl)
/-- hansard/hansardref06.New -/
def a17 : AF where
  nt := 2
  body := (.seq (.region none [
      ⟨(some 0), none, (.op (.alloc true [.nil 3, .nil 2]))⟩])
    (.seq (.region none [
      ⟨(some 1), none, (.op (.build [.nil 3, .nil 2] []))⟩,
      ⟨none, none, (.op (.store 2 (.tmp 0) (.tmp 1)))⟩])
    .ret))
  res := [.cell 0 2 true]
theorem c17 : CmpF Try.prog 17 a17 := chkF_cmp (F := Try.f17) (by kernel_rfl) mixed (by kernel_rfl)
/-- hansard/network.Deliver -/
def a18 : AF where
  nt := 31
  body := (.seq (.region none [
      ⟨(some 2), none, (.op (.box true (.tmp 0)))⟩,
      ⟨(some 4), none, (.op (.alloc true [.lit (.int .i64 0), .lit (.int .i64 0), .nil 1]))⟩,
      ⟨(some 5), none, (.op (.alloc true [.nil 3, .nil 2]))⟩,
      ⟨(some 6), none, (.op (.mov (.dat (.lit (.int .i64 0)))))⟩])
    (.seq (.seq (.region none [
      ⟨(some 8), none, (.op (.load 2 true (.tmp 2)))⟩,
      ⟨(some 9), none, (.op (.mov (.tmp 1)))⟩,
      ⟨(some 10), none, (.call (.dat (.fn (.func 35) [] [])) [(.tmp 8), (.tmp 9)])⟩,
      ⟨(some 7), none, (.op (.mov (.tmp 10)))⟩,
      ⟨(some 11), none, (.op (.extract (.tmp 7) 0))⟩,
      ⟨(some 12), none, (.op (.extract (.tmp 7) 1))⟩,
      ⟨none, none, (.op (.store 3 (.tmp 4) (.tmp 11)))⟩,
      ⟨(some 6), none, (.op (.mov (.tmp 12)))⟩])
    (.seq (.region none [
      ⟨(some 13), none, (.op (.mov (.tmp 6)))⟩,
      ⟨(some 14), none, (.op (.arith .neq (.tmp 13) (.dat (.lit (.int .i64 0)))))⟩])
    (.cond (.tmp 14)
      (.seq (.region (some [[], [], [], [0], [0, 1, 3], [0, 1, 2, 3, 4]]) [
        ⟨(some 15), none, (.op (.load 3 true (.tmp 4)))⟩,
        ⟨(some 16), none, (.op (.load 2 true (.tmp 5)))⟩,
        ⟨(some 17), none, (.op (.mov (.tmp 6)))⟩,
        ⟨none, none, (.op (.store 3 (.tmp 4) (.tmp 15)))⟩,
        ⟨none, none, (.op (.store 2 (.tmp 5) (.tmp 16)))⟩,
        ⟨(some 6), none, (.op (.mov (.tmp 17)))⟩])
      .ret)
      .skip)))
    (.seq (.seq (.region (some [[], [0], [], [2], [], [4], [2, 3, 4, 5], [0, 1, 2, 3, 4, 5, 6]]) [
      ⟨(some 18), none, (.op (.field 1 1 false (.tmp 2)))⟩,
      ⟨(some 19), none, (.op (.load 1 false (.tmp 18)))⟩,
      ⟨(some 20), none, (.op (.field 0 1 false (.tmp 4)))⟩,
      ⟨(some 21), none, (.op (.load 1 false (.tmp 20)))⟩,
      ⟨(some 22), none, (.op (.field 1 1 false (.tmp 4)))⟩,
      ⟨(some 23), none, (.op (.load 1 false (.tmp 22)))⟩,
      ⟨(some 24), none, (.call (.dat (.fn (.func 37) [] [])) [(.tmp 21), (.tmp 23)])⟩,
      ⟨(some 25), none, (.call (.dat (.fn (.func 36) [] [])) [(.tmp 19), (.tmp 24)])⟩])
    (.cond (.tmp 25)
      (.region none [
        ⟨(some 26), none, (.op (.build [.lit (.int .i64 0), .lit (.int .i64 0), .nil 1] []))⟩,
        ⟨none, none, (.op (.store 3 (.tmp 4) (.tmp 26)))⟩])
      .skip))
    (.seq (.region (some [[], [], [], [1, 2], [0, 1, 2, 3], [0, 1, 2, 3, 4], [0, 1, 2, 3, 4, 5]]) [
      ⟨(some 27), none, (.op (.load 3 true (.tmp 4)))⟩,
      ⟨(some 28), none, (.op (.load 2 true (.tmp 2)))⟩,
      ⟨(some 29), none, (.op (.mov (.tmp 1)))⟩,
      ⟨(some 30), none, (.call (.dat (.fn (.func 38) [] [])) [(.tmp 28), (.tmp 29)])⟩,
      ⟨none, none, (.op (.store 3 (.tmp 4) (.tmp 27)))⟩,
      ⟨none, none, (.op (.store 2 (.tmp 5) (.tmp 30)))⟩,
      ⟨(some 6), none, (.op (.mov (.dat (.lit (.int .i64 0)))))⟩])
    .ret))))
  res := [.cell 4 3 true, .cell 5 2 true, .tmp 6]
theorem c18 : CmpF Try.prog 18 a18 := chkF_cmp (F := Try.f18) (by kernel_rfl) mixed (by kernel_rfl)
/-- hansard/hansardref06.SamePacket -/
def a19 : AF where
  nt := 26
  body := (.seq (.region none [
      ⟨(some 2), none, (.op (.box true (.tmp 0)))⟩,
      ⟨(some 3), none, (.op (.box true (.tmp 1)))⟩,
      ⟨(some 4), none, (.op (.mov (.dat (.lit (.bool false)))))⟩])
    (.seq (.region none [
      ⟨(some 5), none, (.op (.field 0 1 false (.tmp 2)))⟩,
      ⟨(some 6), none, (.op (.load 1 false (.tmp 5)))⟩,
      ⟨(some 7), none, (.op (.field 0 1 false (.tmp 3)))⟩,
      ⟨(some 8), none, (.op (.load 1 false (.tmp 7)))⟩,
      ⟨(some 9), none, (.op (.arith .eql (.tmp 6) (.tmp 8)))⟩,
      ⟨(some 10), none, (.op (.mov (.tmp 9)))⟩,
      ⟨(some 11), (some (10, true)), (.op (.field 1 1 false (.tmp 2)))⟩,
      ⟨(some 12), (some (10, true)), (.op (.load 1 false (.tmp 11)))⟩,
      ⟨(some 13), (some (10, true)), (.op (.field 1 1 false (.tmp 3)))⟩,
      ⟨(some 14), (some (10, true)), (.op (.load 1 false (.tmp 13)))⟩,
      ⟨(some 15), (some (10, true)), (.op (.arith .eql (.tmp 12) (.tmp 14)))⟩,
      ⟨(some 16), none, (.op (.pick (.tmp 10) (.tmp 15) (.dat (.lit (.bool false)))))⟩,
      ⟨(some 17), none, (.op (.mov (.tmp 16)))⟩,
      ⟨(some 18), (some (17, true)), (.op (.field 2 1 false (.tmp 2)))⟩,
      ⟨(some 19), (some (17, true)), (.op (.load 1 false (.tmp 18)))⟩,
      ⟨(some 20), (some (17, true)), (.op (.ext .bytesStr [(.tmp 19)]))⟩,
      ⟨(some 21), (some (17, true)), (.op (.field 2 1 false (.tmp 3)))⟩,
      ⟨(some 22), (some (17, true)), (.op (.load 1 false (.tmp 21)))⟩,
      ⟨(some 23), (some (17, true)), (.op (.ext .bytesStr [(.tmp 22)]))⟩,
      ⟨(some 24), (some (17, true)), (.op (.arith .eql (.tmp 20) (.tmp 23)))⟩,
      ⟨(some 25), none, (.op (.pick (.tmp 17) (.tmp 24) (.dat (.lit (.bool false)))))⟩,
      ⟨(some 4), none, (.op (.mov (.tmp 25)))⟩])
    .ret))
  res := [.tmp 4]
theorem c19 : CmpF Try.prog 19 a19 := chkF_cmp (F := Try.f19) (by kernel_rfl) mixed (by kernel_rfl)
/-- hansard/network.Cut -/
def a20 : AF where
  nt := 39
  body := (.seq (.region none [
      ⟨(some 4), none, (.op (.box true (.tmp 0)))⟩,
      ⟨(some 8), none, (.op (.alloc true [.nil 3, .nil 2]))⟩,
      ⟨(some 9), none, (.op (.mov (.dat (.lit (.int .i64 0)))))⟩])
    (.seq (.seq (.region none [
      ⟨(some 12), none, (.op (.load 2 true (.tmp 4)))⟩,
      ⟨(some 13), none, (.call (.dat (.fn (.func 13) [] [])) [(.tmp 12)])⟩,
      ⟨(some 14), none, (.op (.arith .neq (.tmp 13) (.dat (.lit (.int .i64 0)))))⟩])
    (.cond (.tmp 14)
      (.seq (.region none [
        ⟨(some 15), none, (.op (.load 2 true (.tmp 8)))⟩,
        ⟨none, none, (.op (.store 2 (.tmp 8) (.tmp 15)))⟩,
        ⟨(some 9), none, (.op (.mov (.dat (.lit (.int .i64 60)))))⟩])
      .ret)
      .skip))
    (.seq (.region none [
      ⟨(some 16), none, (.op (.mov (.tmp 1)))⟩,
      ⟨(some 17), none, (.op (.mov (.tmp 2)))⟩,
      ⟨(some 18), none, (.call (.dat (.fn (.func 37) [] [])) [(.tmp 16), (.tmp 17)])⟩,
      ⟨(some 10), none, (.op (.alloc true [.lit (.int .i64 0), .lit (.int .i64 0)]))⟩,
      ⟨none, none, (.op (.store 2 (.tmp 10) (.tmp 18)))⟩])
    (.seq (.seq (.region none [
      ⟨(some 19), none, (.op (.load 2 true (.tmp 10)))⟩,
      ⟨(some 20), none, (.call (.dat (.fn (.func 32) [] [])) [(.tmp 19)])⟩,
      ⟨(some 21), none, (.op (.not (.tmp 20)))⟩])
    (.cond (.tmp 21)
      (.seq (.region none [
        ⟨(some 22), none, (.op (.load 2 true (.tmp 8)))⟩,
        ⟨none, none, (.op (.store 2 (.tmp 8) (.tmp 22)))⟩,
        ⟨(some 9), none, (.op (.mov (.dat (.lit (.int .i64 1)))))⟩])
      .ret)
      .skip))
    (.seq (.region none [
      ⟨(some 23), none, (.op (.field 0 1 false (.tmp 4)))⟩,
      ⟨(some 24), none, (.op (.load 1 false (.tmp 23)))⟩,
      ⟨(some 25), none, (.op (.build [.nil 3, .nil 2] [(0, 1, (.tmp 24))]))⟩,
      ⟨none, none, (.op (.store 2 (.tmp 8) (.tmp 25)))⟩])
    (.seq (.seq (.sregion [
      ⟨(some 26), none, (.op (.field 1 1 false (.tmp 4)))⟩,
      ⟨(some 27), none, (.op (.load 1 false (.tmp 26)))⟩,
      ⟨(some 28), none, (.op (.load 2 true (.tmp 10)))⟩,
      ⟨(some 29), none, (.op (.mov (.tmp 3)))⟩,
      ⟨(some 30), none, (.icall (.dat (.fn (.func 39) [] [])) [(.tmp 27), (.tmp 28), (.tmp 29)])⟩])
    (.block 0
      (.range (.tmp 30) [31]
        (.region none [
          ⟨(some 11), none, (.op (.alloc true [.lit (.int .i64 0), .lit (.int .i64 0)]))⟩,
          ⟨none, none, (.op (.store 2 (.tmp 11) (.tmp 31)))⟩])
        (.block 1
          (.region none [
            ⟨(some 32), none, (.op (.field 1 1 false (.tmp 8)))⟩,
            ⟨(some 33), none, (.op (.load 1 false (.tmp 32)))⟩,
            ⟨(some 34), none, (.op (.load 2 true (.tmp 11)))⟩,
            ⟨(some 35), none, (.op (.mkslice 2 [(.tmp 34)]))⟩,
            ⟨(some 36), none, (.op (.append 2 16 (.tmp 33) (.tmp 35)))⟩,
            ⟨(some 37), none, (.op (.field 1 1 false (.tmp 8)))⟩,
            ⟨none, none, (.op (.store 1 (.tmp 37) (.tmp 36)))⟩])))))
    (.seq (.region none [
      ⟨(some 38), none, (.op (.load 2 true (.tmp 8)))⟩,
      ⟨none, none, (.op (.store 2 (.tmp 8) (.tmp 38)))⟩,
      ⟨(some 9), none, (.op (.mov (.dat (.lit (.int .i64 0)))))⟩])
    .ret)))))))
  res := [.cell 8 2 true, .tmp 9]
theorem c20 : CmpF Try.prog 20 a20 := chkF_cmp (F := Try.f20) (by kernel_rfl) mixed (by kernel_rfl)
/-- hansard/hansardref06.Cut -/
def a21 : AF where
  nt := 69
  body := (.seq (.region none [
      ⟨(some 4), none, (.op (.box true (.tmp 0)))⟩,
      ⟨(some 8), none, (.op (.alloc true [.nil 3, .nil 2]))⟩,
      ⟨(some 9), none, (.op (.mov (.dat (.lit (.int .i64 0)))))⟩])
    (.seq (.seq (.region none [
      ⟨(some 14), none, (.op (.load 2 true (.tmp 4)))⟩,
      ⟨(some 15), none, (.call (.dat (.fn (.func 14) [] [])) [(.tmp 14)])⟩,
      ⟨(some 16), none, (.op (.arith .neq (.tmp 15) (.dat (.lit (.int .i64 0)))))⟩])
    (.cond (.tmp 16)
      (.seq (.region none [
        ⟨(some 17), none, (.op (.build [.nil 3, .nil 2] []))⟩,
        ⟨none, none, (.op (.store 2 (.tmp 8) (.tmp 17)))⟩,
        ⟨(some 9), none, (.op (.mov (.dat (.lit (.int .i64 60)))))⟩])
      .ret)
      .skip))
    (.seq (.seq (.region none [
      ⟨(some 18), none, (.op (.mov (.tmp 1)))⟩,
      ⟨(some 19), none, (.call (.dat (.fn (.func 34) [] [])) [(.tmp 18)])⟩,
      ⟨(some 20), none, (.op (.not (.tmp 19)))⟩,
      ⟨(some 21), none, (.op (.mov (.tmp 20)))⟩,
      ⟨(some 22), (some (21, false)), (.op (.mov (.tmp 2)))⟩,
      ⟨(some 23), (some (21, false)), (.call (.dat (.fn (.func 34) [] [])) [(.tmp 22)])⟩,
      ⟨(some 24), (some (21, false)), (.op (.not (.tmp 23)))⟩,
      ⟨(some 25), none, (.op (.pick (.tmp 21) (.dat (.lit (.bool true))) (.tmp 24)))⟩,
      ⟨(some 26), none, (.op (.mov (.tmp 25)))⟩,
      ⟨(some 27), (some (26, false)), (.op (.mov (.tmp 1)))⟩,
      ⟨(some 28), (some (26, false)), (.op (.mov (.tmp 2)))⟩,
      ⟨(some 29), (some (26, false)), (.op (.arith .eql (.tmp 27) (.tmp 28)))⟩,
      ⟨(some 30), none, (.op (.pick (.tmp 26) (.dat (.lit (.bool true))) (.tmp 29)))⟩])
    (.cond (.tmp 30)
      (.seq (.region none [
        ⟨(some 31), none, (.op (.build [.nil 3, .nil 2] []))⟩,
        ⟨none, none, (.op (.store 2 (.tmp 8) (.tmp 31)))⟩,
        ⟨(some 9), none, (.op (.mov (.dat (.lit (.int .i64 1)))))⟩])
      .ret)
      .skip))
    (.seq (.region none [
      ⟨(some 10), none, (.op (.mov (.dat (.nil 2))))⟩])
    (.seq (.seq (.region none [
      ⟨(some 11), none, (.op (.mov (.dat (.lit (.int .i64 0)))))⟩])
    (.block 0
      (.loop
        (.seq (.seq (.region none [
          ⟨(some 32), none, (.op (.mov (.tmp 11)))⟩,
          ⟨(some 33), none, (.op (.arith .lss (.tmp 32) (.dat (.lit (.int .i64 24)))))⟩])
        (.cond (.tmp 33)
          .skip
          (.exit 0)))
        (.seq (.block 1
          (.seq (.region none [
            ⟨(some 36), none, (.op (.mov (.tmp 11)))⟩,
            ⟨(some 37), none, (.op (.arith .add (.tmp 36) (.dat (.lit (.int .i64 1)))))⟩,
            ⟨(some 12), none, (.op (.mov (.tmp 37)))⟩])
          (.block 2
            (.loop
              (.seq (.seq (.region none [
                ⟨(some 38), none, (.op (.mov (.tmp 12)))⟩,
                ⟨(some 39), none, (.op (.arith .lss (.tmp 38) (.dat (.lit (.int .i64 24)))))⟩])
              (.cond (.tmp 39)
                .skip
                (.exit 2)))
              (.seq (.block 3
                (.seq (.region none [
                  ⟨(some 42), none, (.op (.load 2 true (.tmp 4)))⟩,
                  ⟨(some 43), none, (.op (.mov (.tmp 11)))⟩,
                  ⟨(some 44), none, (.op (.mov (.tmp 12)))⟩,
                  ⟨(some 45), none, (.call (.dat (.fn (.func 40) [] [])) [(.tmp 42), (.tmp 43), (.tmp 44)])⟩,
                  ⟨(some 13), none, (.op (.mov (.tmp 45)))⟩])
                (.seq (.seq (.region none [
                  ⟨(some 46), none, (.op (.mov (.tmp 11)))⟩,
                  ⟨(some 47), none, (.op (.mov (.tmp 1)))⟩,
                  ⟨(some 48), none, (.op (.mov (.tmp 2)))⟩,
                  ⟨(some 49), none, (.op (.minmax false (.tmp 47) (.tmp 48)))⟩,
                  ⟨(some 50), none, (.op (.arith .eql (.tmp 46) (.tmp 49)))⟩,
                  ⟨(some 51), none, (.op (.mov (.tmp 50)))⟩,
                  ⟨(some 52), (some (51, true)), (.op (.mov (.tmp 12)))⟩,
                  ⟨(some 53), (some (51, true)), (.op (.mov (.tmp 1)))⟩,
                  ⟨(some 54), (some (51, true)), (.op (.mov (.tmp 2)))⟩,
                  ⟨(some 55), (some (51, true)), (.op (.minmax true (.tmp 53) (.tmp 54)))⟩,
                  ⟨(some 56), (some (51, true)), (.op (.arith .eql (.tmp 52) (.tmp 55)))⟩,
                  ⟨(some 57), none, (.op (.pick (.tmp 51) (.tmp 56) (.dat (.lit (.bool false)))))⟩])
                (.cond (.tmp 57)
                  (.region none [
                    ⟨(some 58), none, (.op (.mov (.tmp 3)))⟩,
                    ⟨(some 13), none, (.op (.mov (.tmp 58)))⟩])
                  .skip))
                (.seq (.region none [
                  ⟨(some 59), none, (.op (.mov (.tmp 13)))⟩])
                (.cond (.tmp 59)
                  (.region none [
                    ⟨(some 60), none, (.op (.mov (.tmp 10)))⟩,
                    ⟨(some 61), none, (.op (.mov (.tmp 11)))⟩,
                    ⟨(some 62), none, (.op (.mov (.tmp 12)))⟩,
                    ⟨(some 63), none, (.op (.build [.lit (.int .i64 0), .lit (.int .i64 0)] [(0, 1, (.tmp 61)), (1, 1, (.tmp 62))]))⟩,
                    ⟨(some 64), none, (.op (.mkslice 2 [(.tmp 63)]))⟩,
                    ⟨(some 65), none, (.op (.append 2 16 (.tmp 60) (.tmp 64)))⟩,
                    ⟨(some 10), none, (.op (.mov (.tmp 65)))⟩])
                  .skip)))))
              (.region none [
                ⟨(some 40), none, (.op (.mov (.tmp 12)))⟩,
                ⟨(some 41), none, (.op (.arith .add (.tmp 40) (.dat (.lit (.int .i64 1)))))⟩,
                ⟨(some 12), none, (.op (.mov (.tmp 41)))⟩])))))))
        (.region none [
          ⟨(some 34), none, (.op (.mov (.tmp 11)))⟩,
          ⟨(some 35), none, (.op (.arith .add (.tmp 34) (.dat (.lit (.int .i64 1)))))⟩,
          ⟨(some 11), none, (.op (.mov (.tmp 35)))⟩]))))))
    (.seq (.region none [
      ⟨(some 66), none, (.op (.mov (.tmp 10)))⟩,
      ⟨(some 67), none, (.op (.field 1 1 false (.tmp 4)))⟩,
      ⟨none, none, (.op (.store 1 (.tmp 67) (.tmp 66)))⟩])
    (.seq (.region none [
      ⟨(some 68), none, (.op (.load 2 true (.tmp 4)))⟩,
      ⟨none, none, (.op (.store 2 (.tmp 8) (.tmp 68)))⟩,
      ⟨(some 9), none, (.op (.mov (.dat (.lit (.int .i64 0)))))⟩])
    .ret)))))))
  res := [.cell 8 2 true, .tmp 9]
theorem c21 : CmpF Try.prog 21 a21 := chkF_cmp (F := Try.f21) (by kernel_rfl) mixed (by kernel_rfl)
/-- hansard/hansardref06.Deliver -/
def a22 : AF where
  nt := 33
  body := (.seq (.region none [
      ⟨(some 2), none, (.op (.box true (.tmp 0)))⟩,
      ⟨(some 4), none, (.op (.alloc true [.lit (.int .i64 0), .lit (.int .i64 0), .nil 1]))⟩,
      ⟨(some 5), none, (.op (.alloc true [.nil 3, .nil 2]))⟩,
      ⟨(some 6), none, (.op (.mov (.dat (.lit (.int .i64 0)))))⟩])
    (.seq (.region none [
      ⟨(some 9), none, (.op (.load 2 true (.tmp 2)))⟩,
      ⟨(some 10), none, (.op (.mov (.tmp 1)))⟩,
      ⟨(some 11), none, (.call (.dat (.fn (.func 41) [] [])) [(.tmp 9), (.tmp 10)])⟩,
      ⟨(some 7), none, (.op (.mov (.tmp 11)))⟩])
    (.seq (.seq (.region none [
      ⟨(some 12), none, (.op (.mov (.tmp 7)))⟩,
      ⟨(some 13), none, (.op (.arith .neq (.tmp 12) (.dat (.lit (.int .i64 0)))))⟩])
    (.cond (.tmp 13)
      (.seq (.region none [
        ⟨(some 14), none, (.op (.build [.lit (.int .i64 0), .lit (.int .i64 0), .nil 1] []))⟩,
        ⟨(some 15), none, (.op (.build [.nil 3, .nil 2] []))⟩,
        ⟨(some 16), none, (.op (.mov (.tmp 7)))⟩,
        ⟨none, none, (.op (.store 3 (.tmp 4) (.tmp 14)))⟩,
        ⟨none, none, (.op (.store 2 (.tmp 5) (.tmp 15)))⟩,
        ⟨(some 6), none, (.op (.mov (.tmp 16)))⟩])
      .ret)
      .skip))
    (.seq (.region none [
      ⟨(some 17), none, (.op (.field 0 1 false (.tmp 2)))⟩,
      ⟨(some 18), none, (.op (.load 1 false (.tmp 17)))⟩,
      ⟨(some 19), none, (.op (.mov (.tmp 1)))⟩,
      ⟨(some 20), none, (.op (.index 3 (.tmp 18) (.tmp 19)))⟩,
      ⟨(some 21), none, (.op (.load 3 true (.tmp 20)))⟩,
      ⟨(some 8), none, (.op (.alloc true [.lit (.int .i64 0), .lit (.int .i64 0), .nil 1]))⟩,
      ⟨none, none, (.op (.store 3 (.tmp 8) (.tmp 21)))⟩])
    (.seq (.seq (.region none [
      ⟨(some 22), none, (.op (.load 2 true (.tmp 2)))⟩,
      ⟨(some 23), none, (.op (.field 0 1 false (.tmp 8)))⟩,
      ⟨(some 24), none, (.op (.load 1 false (.tmp 23)))⟩,
      ⟨(some 25), none, (.op (.field 1 1 false (.tmp 8)))⟩,
      ⟨(some 26), none, (.op (.load 1 false (.tmp 25)))⟩,
      ⟨(some 27), none, (.call (.dat (.fn (.func 40) [] [])) [(.tmp 22), (.tmp 24), (.tmp 26)])⟩])
    (.cond (.tmp 27)
      (.region none [
        ⟨(some 28), none, (.op (.build [.lit (.int .i64 0), .lit (.int .i64 0), .nil 1] []))⟩,
        ⟨none, none, (.op (.store 3 (.tmp 8) (.tmp 28)))⟩])
      .skip))
    (.seq (.region (some [[], [], [], [1, 2], [0, 1, 2, 3], [0, 1, 2, 3, 4], [0, 1, 2, 3, 4, 5]]) [
      ⟨(some 29), none, (.op (.load 3 true (.tmp 8)))⟩,
      ⟨(some 30), none, (.op (.load 2 true (.tmp 2)))⟩,
      ⟨(some 31), none, (.op (.mov (.tmp 1)))⟩,
      ⟨(some 32), none, (.call (.dat (.fn (.func 42) [] [])) [(.tmp 30), (.tmp 31)])⟩,
      ⟨none, none, (.op (.store 3 (.tmp 4) (.tmp 29)))⟩,
      ⟨none, none, (.op (.store 2 (.tmp 5) (.tmp 32)))⟩,
      ⟨(some 6), none, (.op (.mov (.dat (.lit (.int .i64 0)))))⟩])
    .ret))))))
  res := [.cell 4 3 true, .cell 5 2 true, .tmp 6]
theorem c22 : CmpF Try.prog 22 a22 := chkF_cmp (F := Try.f22) (by kernel_rfl) mixed (by kernel_rfl)
/-- hansard/network.Lose -/
def a23 : AF where
  nt := 19
  body := (.seq (.region none [
      ⟨(some 2), none, (.op (.box true (.tmp 0)))⟩,
      ⟨(some 4), none, (.op (.alloc true [.nil 3, .nil 2]))⟩,
      ⟨(some 5), none, (.op (.mov (.dat (.lit (.int .i64 0)))))⟩])
    (.seq (.seq (.region none [
      ⟨(some 7), none, (.op (.load 2 true (.tmp 2)))⟩,
      ⟨(some 8), none, (.op (.mov (.tmp 1)))⟩,
      ⟨(some 9), none, (.call (.dat (.fn (.func 35) [] [])) [(.tmp 7), (.tmp 8)])⟩,
      ⟨(some 6), none, (.op (.mov (.tmp 9)))⟩,
      ⟨(some 10), none, (.op (.extract (.tmp 6) 0))⟩,
      ⟨(some 11), none, (.op (.extract (.tmp 6) 1))⟩,
      ⟨(some 5), none, (.op (.mov (.tmp 11)))⟩])
    (.seq (.region none [
      ⟨(some 12), none, (.op (.mov (.tmp 5)))⟩,
      ⟨(some 13), none, (.op (.arith .neq (.tmp 12) (.dat (.lit (.int .i64 0)))))⟩])
    (.cond (.tmp 13)
      (.seq (.region none [
        ⟨(some 14), none, (.op (.load 2 true (.tmp 4)))⟩,
        ⟨(some 15), none, (.op (.mov (.tmp 5)))⟩,
        ⟨none, none, (.op (.store 2 (.tmp 4) (.tmp 14)))⟩,
        ⟨(some 5), none, (.op (.mov (.tmp 15)))⟩])
      .ret)
      .skip)))
    (.seq (.region none [
      ⟨(some 16), none, (.op (.load 2 true (.tmp 2)))⟩,
      ⟨(some 17), none, (.op (.mov (.tmp 1)))⟩,
      ⟨(some 18), none, (.call (.dat (.fn (.func 38) [] [])) [(.tmp 16), (.tmp 17)])⟩,
      ⟨none, none, (.op (.store 2 (.tmp 4) (.tmp 18)))⟩,
      ⟨(some 5), none, (.op (.mov (.dat (.lit (.int .i64 0)))))⟩])
    .ret)))
  res := [.cell 4 2 true, .tmp 5]
theorem c23 : CmpF Try.prog 23 a23 := chkF_cmp (F := Try.f23) (by kernel_rfl) mixed (by kernel_rfl)
/-- hansard/hansardref06.Lose -/
def a24 : AF where
  nt := 17
  body := (.seq (.region none [
      ⟨(some 2), none, (.op (.box true (.tmp 0)))⟩,
      ⟨(some 4), none, (.op (.alloc true [.nil 3, .nil 2]))⟩,
      ⟨(some 5), none, (.op (.mov (.dat (.lit (.int .i64 0)))))⟩])
    (.seq (.region none [
      ⟨(some 7), none, (.op (.load 2 true (.tmp 2)))⟩,
      ⟨(some 8), none, (.op (.mov (.tmp 1)))⟩,
      ⟨(some 9), none, (.call (.dat (.fn (.func 41) [] [])) [(.tmp 7), (.tmp 8)])⟩,
      ⟨(some 6), none, (.op (.mov (.tmp 9)))⟩])
    (.seq (.seq (.region none [
      ⟨(some 10), none, (.op (.mov (.tmp 6)))⟩,
      ⟨(some 11), none, (.op (.arith .neq (.tmp 10) (.dat (.lit (.int .i64 0)))))⟩])
    (.cond (.tmp 11)
      (.seq (.region none [
        ⟨(some 12), none, (.op (.build [.nil 3, .nil 2] []))⟩,
        ⟨(some 13), none, (.op (.mov (.tmp 6)))⟩,
        ⟨none, none, (.op (.store 2 (.tmp 4) (.tmp 12)))⟩,
        ⟨(some 5), none, (.op (.mov (.tmp 13)))⟩])
      .ret)
      .skip))
    (.seq (.region none [
      ⟨(some 14), none, (.op (.load 2 true (.tmp 2)))⟩,
      ⟨(some 15), none, (.op (.mov (.tmp 1)))⟩,
      ⟨(some 16), none, (.call (.dat (.fn (.func 42) [] [])) [(.tmp 14), (.tmp 15)])⟩,
      ⟨none, none, (.op (.store 2 (.tmp 4) (.tmp 16)))⟩,
      ⟨(some 5), none, (.op (.mov (.dat (.lit (.int .i64 0)))))⟩])
    .ret))))
  res := [.cell 4 2 true, .tmp 5]
theorem c24 : CmpF Try.prog 24 a24 := chkF_cmp (F := Try.f24) (by kernel_rfl) mixed (by kernel_rfl)
/-- hansard/network.Repeat -/
def a25 : AF where
  nt := 22
  body := (.seq (.region none [
      ⟨(some 2), none, (.op (.box true (.tmp 0)))⟩,
      ⟨(some 4), none, (.op (.alloc true [.nil 3, .nil 2]))⟩,
      ⟨(some 5), none, (.op (.mov (.dat (.lit (.int .i64 0)))))⟩])
    (.seq (.region none [
      ⟨(some 8), none, (.op (.load 2 true (.tmp 2)))⟩,
      ⟨(some 9), none, (.op (.mov (.tmp 1)))⟩,
      ⟨(some 10), none, (.call (.dat (.fn (.func 35) [] [])) [(.tmp 8), (.tmp 9)])⟩,
      ⟨(some 7), none, (.op (.mov (.tmp 10)))⟩,
      ⟨(some 11), none, (.op (.extract (.tmp 7) 0))⟩,
      ⟨(some 12), none, (.op (.extract (.tmp 7) 1))⟩,
      ⟨(some 6), none, (.op (.alloc true [.lit (.int .i64 0), .lit (.int .i64 0), .nil 1]))⟩,
      ⟨none, none, (.op (.store 3 (.tmp 6) (.tmp 11)))⟩,
      ⟨(some 5), none, (.op (.mov (.tmp 12)))⟩])
    (.seq (.seq (.region none [
      ⟨(some 13), none, (.op (.mov (.tmp 5)))⟩,
      ⟨(some 14), none, (.op (.arith .neq (.tmp 13) (.dat (.lit (.int .i64 0)))))⟩])
    (.cond (.tmp 14)
      (.seq (.region none [
        ⟨(some 15), none, (.op (.load 2 true (.tmp 4)))⟩,
        ⟨(some 16), none, (.op (.mov (.tmp 5)))⟩,
        ⟨none, none, (.op (.store 2 (.tmp 4) (.tmp 15)))⟩,
        ⟨(some 5), none, (.op (.mov (.tmp 16)))⟩])
      .ret)
      .skip))
    (.seq (.region none [
      ⟨(some 17), none, (.op (.load 2 true (.tmp 2)))⟩,
      ⟨(some 18), none, (.op (.load 3 true (.tmp 6)))⟩,
      ⟨(some 19), none, (.call (.dat (.fn (.func 11) [] [])) [(.tmp 17), (.tmp 18)])⟩,
      ⟨(some 20), none, (.op (.extract (.tmp 19) 0))⟩,
      ⟨(some 21), none, (.op (.extract (.tmp 19) 1))⟩,
      ⟨none, none, (.op (.store 2 (.tmp 4) (.tmp 20)))⟩,
      ⟨(some 5), none, (.op (.mov (.tmp 21)))⟩])
    .ret))))
  res := [.cell 4 2 true, .tmp 5]
theorem c25 : CmpF Try.prog 25 a25 := chkF_cmp (F := Try.f25) (by kernel_rfl) mixed (by kernel_rfl)
/-- hansard/hansardref06.Repeat -/
def a26 : AF where
  nt := 23
  body := (.seq (.region none [
      ⟨(some 2), none, (.op (.box true (.tmp 0)))⟩,
      ⟨(some 4), none, (.op (.alloc true [.nil 3, .nil 2]))⟩,
      ⟨(some 5), none, (.op (.mov (.dat (.lit (.int .i64 0)))))⟩])
    (.seq (.region none [
      ⟨(some 7), none, (.op (.load 2 true (.tmp 2)))⟩,
      ⟨(some 8), none, (.op (.mov (.tmp 1)))⟩,
      ⟨(some 9), none, (.call (.dat (.fn (.func 41) [] [])) [(.tmp 7), (.tmp 8)])⟩,
      ⟨(some 6), none, (.op (.mov (.tmp 9)))⟩])
    (.seq (.seq (.region none [
      ⟨(some 10), none, (.op (.mov (.tmp 6)))⟩,
      ⟨(some 11), none, (.op (.arith .neq (.tmp 10) (.dat (.lit (.int .i64 0)))))⟩])
    (.cond (.tmp 11)
      (.seq (.region none [
        ⟨(some 12), none, (.op (.build [.nil 3, .nil 2] []))⟩,
        ⟨(some 13), none, (.op (.mov (.tmp 6)))⟩,
        ⟨none, none, (.op (.store 2 (.tmp 4) (.tmp 12)))⟩,
        ⟨(some 5), none, (.op (.mov (.tmp 13)))⟩])
      .ret)
      .skip))
    (.seq (.region (some [[], [], [1], [], [1, 2, 3], [1, 2, 3, 4], [0, 1, 2, 3, 4, 5], [0, 1, 2, 3, 4, 5, 6], [0, 1, 2, 3, 4, 5, 6], [0, 1, 2, 3, 4, 5, 6, 7, 8], [0, 1, 2, 3, 4, 5, 6, 7, 8, 9]]) [
      ⟨(some 14), none, (.op (.load 2 true (.tmp 2)))⟩,
      ⟨(some 15), none, (.op (.field 0 1 false (.tmp 2)))⟩,
      ⟨(some 16), none, (.op (.load 1 false (.tmp 15)))⟩,
      ⟨(some 17), none, (.op (.mov (.tmp 1)))⟩,
      ⟨(some 18), none, (.op (.index 3 (.tmp 16) (.tmp 17)))⟩,
      ⟨(some 19), none, (.op (.load 3 true (.tmp 18)))⟩,
      ⟨(some 20), none, (.call (.dat (.fn (.func 12) [] [])) [(.tmp 14), (.tmp 19)])⟩,
      ⟨(some 21), none, (.op (.extract (.tmp 20) 0))⟩,
      ⟨(some 22), none, (.op (.extract (.tmp 20) 1))⟩,
      ⟨none, none, (.op (.store 2 (.tmp 4) (.tmp 21)))⟩,
      ⟨(some 5), none, (.op (.mov (.tmp 22)))⟩])
    .ret))))
  res := [.cell 4 2 true, .tmp 5]
theorem c26 : CmpF Try.prog 26 a26 := chkF_cmp (F := Try.f26) (by kernel_rfl) mixed (by kernel_rfl)
/-- hansard/hansardlaw06.happens -/
def a27 : AF where
  nt := 91
  body := (.seq (.region none [
      ⟨(some 2), none, (.op (.box true (.tmp 0)))⟩,
      ⟨(some 3), none, (.op (.box true (.tmp 1)))⟩,
      ⟨(some 4), none, (.op (.alloc true [.nil 3, .nil 2]))⟩,
      ⟨(some 5), none, (.op (.alloc true [.lit (.int .i64 0), .lit (.int .i64 0), .nil 1]))⟩,
      ⟨(some 6), none, (.op (.mov (.dat (.lit (.int .i64 0)))))⟩])
    (.seq (.region none [
      ⟨(some 7), none, (.op (.mov (.dat (.lit (.int .i64 0)))))⟩])
    (.seq (.seq (.region none [
      ⟨(some 10), none, (.op (.field 0 1 false (.tmp 2)))⟩,
      ⟨(some 11), none, (.op (.load 1 false (.tmp 10)))⟩,
      ⟨(some 12), none, (.op (.len (.tmp 11)))⟩,
      ⟨(some 13), none, (.op (.arith .gtr (.tmp 12) (.dat (.lit (.int .i64 0)))))⟩])
    (.cond (.tmp 13)
      (.region none [
        ⟨(some 14), none, (.op (.field 1 1 false (.tmp 3)))⟩,
        ⟨(some 15), none, (.op (.load 1 false (.tmp 14)))⟩,
        ⟨(some 16), none, (.op (.conv .i64 (.tmp 15)))⟩,
        ⟨(some 17), none, (.op (.field 0 1 false (.tmp 2)))⟩,
        ⟨(some 18), none, (.op (.load 1 false (.tmp 17)))⟩,
        ⟨(some 19), none, (.op (.len (.tmp 18)))⟩,
        ⟨(some 20), none, (.op (.arith .rem (.tmp 16) (.tmp 19)))⟩,
        ⟨(some 7), none, (.op (.mov (.tmp 20)))⟩])
      .skip))
    (.seq (.region (some [[], [0], [0, 1], [0, 1, 2], [], [4], [4, 5], [4, 5, 6], [0, 1, 2, 3], [0, 1, 2, 3, 4, 5, 6, 7, 8]]) [
      ⟨(some 21), none, (.op (.field 2 1 false (.tmp 3)))⟩,
      ⟨(some 22), none, (.op (.load 1 false (.tmp 21)))⟩,
      ⟨(some 23), none, (.op (.conv .i64 (.tmp 22)))⟩,
      ⟨(some 24), none, (.op (.arith .rem (.tmp 23) (.dat (.lit (.int .i64 24)))))⟩,
      ⟨(some 25), none, (.op (.field 3 1 false (.tmp 3)))⟩,
      ⟨(some 26), none, (.op (.load 1 false (.tmp 25)))⟩,
      ⟨(some 27), none, (.op (.conv .i64 (.tmp 26)))⟩,
      ⟨(some 28), none, (.op (.arith .rem (.tmp 27) (.dat (.lit (.int .i64 24)))))⟩,
      ⟨(some 8), none, (.op (.mov (.tmp 24)))⟩,
      ⟨(some 9), none, (.op (.mov (.tmp 28)))⟩])
    (.seq (.seq (.region none [
      ⟨(some 29), none, (.op (.field 0 1 false (.tmp 3)))⟩,
      ⟨(some 30), none, (.op (.load 1 false (.tmp 29)))⟩,
      ⟨(some 31), none, (.op (.arith .rem (.tmp 30) (.dat (.lit (.int .u8 6)))))⟩])
    (.block 0
      (.seq (.region none [
        ⟨(some 33), none, (.op (.arith .eql (.tmp 31) (.dat (.lit (.int .u8 0)))))⟩,
        ⟨(some 32), none, (.op (.mov (.tmp 33)))⟩])
      (.cond (.tmp 32)
        (.region none [
          ⟨(some 35), none, (.op (.load 2 true (.tmp 2)))⟩,
          ⟨(some 36), none, (.op (.mov (.tmp 8)))⟩,
          ⟨(some 37), none, (.op (.mov (.tmp 9)))⟩,
          ⟨(some 38), none, (.op (.field 4 1 false (.tmp 3)))⟩,
          ⟨(some 39), none, (.op (.load 1 false (.tmp 38)))⟩,
          ⟨(some 40), none, (.op (.mkslice 1 [(.tmp 39)]))⟩,
          ⟨(some 41), none, (.op (.build [.lit (.int .i64 0), .lit (.int .i64 0), .nil 1] [(0, 1, (.tmp 36)), (1, 1, (.tmp 37)), (2, 1, (.tmp 40))]))⟩,
          ⟨(some 42), none, (.call (.dat (.fn (.func 11) [] [])) [(.tmp 35), (.tmp 41)])⟩,
          ⟨(some 34), none, (.op (.mov (.tmp 42)))⟩,
          ⟨(some 43), none, (.op (.extract (.tmp 34) 0))⟩,
          ⟨(some 44), none, (.op (.extract (.tmp 34) 1))⟩,
          ⟨none, none, (.op (.store 2 (.tmp 4) (.tmp 43)))⟩,
          ⟨(some 6), none, (.op (.mov (.tmp 44)))⟩])
        (.seq (.region none [
          ⟨(some 46), none, (.op (.arith .eql (.tmp 31) (.dat (.lit (.int .u8 1)))))⟩,
          ⟨(some 45), none, (.op (.mov (.tmp 46)))⟩])
        (.cond (.tmp 45)
          (.region none [
            ⟨(some 48), none, (.op (.load 2 true (.tmp 2)))⟩,
            ⟨(some 49), none, (.op (.mov (.tmp 7)))⟩,
            ⟨(some 50), none, (.call (.dat (.fn (.func 18) [] [])) [(.tmp 48), (.tmp 49)])⟩,
            ⟨(some 47), none, (.op (.mov (.tmp 50)))⟩,
            ⟨(some 51), none, (.op (.extract (.tmp 47) 0))⟩,
            ⟨(some 52), none, (.op (.extract (.tmp 47) 1))⟩,
            ⟨(some 53), none, (.op (.extract (.tmp 47) 2))⟩,
            ⟨none, none, (.op (.store 3 (.tmp 5) (.tmp 51)))⟩,
            ⟨none, none, (.op (.store 2 (.tmp 4) (.tmp 52)))⟩,
            ⟨(some 6), none, (.op (.mov (.tmp 53)))⟩])
          (.seq (.region none [
            ⟨(some 55), none, (.op (.arith .eql (.tmp 31) (.dat (.lit (.int .u8 2)))))⟩,
            ⟨(some 54), none, (.op (.mov (.tmp 55)))⟩])
          (.cond (.tmp 54)
            (.region none [
              ⟨(some 57), none, (.op (.load 2 true (.tmp 2)))⟩,
              ⟨(some 58), none, (.op (.mov (.tmp 7)))⟩,
              ⟨(some 59), none, (.call (.dat (.fn (.func 23) [] [])) [(.tmp 57), (.tmp 58)])⟩,
              ⟨(some 56), none, (.op (.mov (.tmp 59)))⟩,
              ⟨(some 60), none, (.op (.extract (.tmp 56) 0))⟩,
              ⟨(some 61), none, (.op (.extract (.tmp 56) 1))⟩,
              ⟨none, none, (.op (.store 2 (.tmp 4) (.tmp 60)))⟩,
              ⟨(some 6), none, (.op (.mov (.tmp 61)))⟩])
            (.seq (.region none [
              ⟨(some 63), none, (.op (.arith .eql (.tmp 31) (.dat (.lit (.int .u8 3)))))⟩,
              ⟨(some 62), none, (.op (.mov (.tmp 63)))⟩])
            (.cond (.tmp 62)
              (.region none [
                ⟨(some 65), none, (.op (.load 2 true (.tmp 2)))⟩,
                ⟨(some 66), none, (.op (.mov (.tmp 7)))⟩,
                ⟨(some 67), none, (.call (.dat (.fn (.func 25) [] [])) [(.tmp 65), (.tmp 66)])⟩,
                ⟨(some 64), none, (.op (.mov (.tmp 67)))⟩,
                ⟨(some 68), none, (.op (.extract (.tmp 64) 0))⟩,
                ⟨(some 69), none, (.op (.extract (.tmp 64) 1))⟩,
                ⟨none, none, (.op (.store 2 (.tmp 4) (.tmp 68)))⟩,
                ⟨(some 6), none, (.op (.mov (.tmp 69)))⟩])
              (.seq (.region none [
                ⟨(some 71), none, (.op (.arith .eql (.tmp 31) (.dat (.lit (.int .u8 4)))))⟩,
                ⟨(some 70), none, (.op (.mov (.tmp 71)))⟩])
              (.cond (.tmp 70)
                (.region none [
                  ⟨(some 73), none, (.op (.load 2 true (.tmp 2)))⟩,
                  ⟨(some 74), none, (.op (.mov (.tmp 8)))⟩,
                  ⟨(some 75), none, (.op (.mov (.tmp 9)))⟩,
                  ⟨(some 76), none, (.call (.dat (.fn (.func 20) [] [])) [(.tmp 73), (.tmp 74), (.tmp 75), (.dat (.lit (.bool true)))])⟩,
                  ⟨(some 72), none, (.op (.mov (.tmp 76)))⟩,
                  ⟨(some 77), none, (.op (.extract (.tmp 72) 0))⟩,
                  ⟨(some 78), none, (.op (.extract (.tmp 72) 1))⟩,
                  ⟨none, none, (.op (.store 2 (.tmp 4) (.tmp 77)))⟩,
                  ⟨(some 6), none, (.op (.mov (.tmp 78)))⟩])
                (.seq (.region none [
                  ⟨(some 80), none, (.op (.arith .eql (.tmp 31) (.dat (.lit (.int .u8 5)))))⟩,
                  ⟨(some 79), none, (.op (.mov (.tmp 80)))⟩])
                (.cond (.tmp 79)
                  (.region none [
                    ⟨(some 82), none, (.op (.load 2 true (.tmp 2)))⟩,
                    ⟨(some 83), none, (.op (.mov (.tmp 8)))⟩,
                    ⟨(some 84), none, (.op (.mov (.tmp 9)))⟩,
                    ⟨(some 85), none, (.call (.dat (.fn (.func 20) [] [])) [(.tmp 82), (.tmp 83), (.tmp 84), (.dat (.lit (.bool false)))])⟩,
                    ⟨(some 81), none, (.op (.mov (.tmp 85)))⟩,
                    ⟨(some 86), none, (.op (.extract (.tmp 81) 0))⟩,
                    ⟨(some 87), none, (.op (.extract (.tmp 81) 1))⟩,
                    ⟨none, none, (.op (.store 2 (.tmp 4) (.tmp 86)))⟩,
                    ⟨(some 6), none, (.op (.mov (.tmp 87)))⟩])
                  .skip))))))))))))))
    (.seq (.region (some [[], [], [], [0], [0, 1, 3], [0, 1, 2, 3, 4]]) [
      ⟨(some 88), none, (.op (.load 2 true (.tmp 4)))⟩,
      ⟨(some 89), none, (.op (.load 3 true (.tmp 5)))⟩,
      ⟨(some 90), none, (.op (.mov (.tmp 6)))⟩,
      ⟨none, none, (.op (.store 2 (.tmp 4) (.tmp 88)))⟩,
      ⟨none, none, (.op (.store 3 (.tmp 5) (.tmp 89)))⟩,
      ⟨(some 6), none, (.op (.mov (.tmp 90)))⟩])
    .ret))))))
  res := [.cell 4 2 true, .cell 5 3 true, .tmp 6]
theorem c27 : CmpF Try.prog 27 a27 := chkF_cmp (F := Try.f27) (by kernel_rfl) mixed (by kernel_rfl)
/-- hansard/network.packet -/
def a28 : AF where
  nt := 15
  body := (.seq (.region none [
      ⟨(some 1), none, (.op (.box true (.tmp 0)))⟩,
      ⟨(some 2), none, (.op (.mov (.dat (.lit (.bool false)))))⟩])
    (.seq (.region none [
      ⟨(some 3), none, (.op (.field 0 1 false (.tmp 1)))⟩,
      ⟨(some 4), none, (.op (.load 1 false (.tmp 3)))⟩,
      ⟨(some 5), none, (.op (.field 1 1 false (.tmp 1)))⟩,
      ⟨(some 6), none, (.op (.load 1 false (.tmp 5)))⟩,
      ⟨(some 7), none, (.call (.dat (.fn (.func 37) [] [])) [(.tmp 4), (.tmp 6)])⟩,
      ⟨(some 8), none, (.call (.dat (.fn (.func 32) [] [])) [(.tmp 7)])⟩,
      ⟨(some 9), none, (.op (.mov (.tmp 8)))⟩,
      ⟨(some 10), (some (9, true)), (.op (.field 2 1 false (.tmp 1)))⟩,
      ⟨(some 11), (some (9, true)), (.op (.load 1 false (.tmp 10)))⟩,
      ⟨(some 12), (some (9, true)), (.op (.len (.tmp 11)))⟩,
      ⟨(some 13), (some (9, true)), (.op (.arith .leq (.tmp 12) (.dat (.lit (.int .i64 1048576)))))⟩,
      ⟨(some 14), none, (.op (.pick (.tmp 9) (.tmp 13) (.dat (.lit (.bool false)))))⟩,
      ⟨(some 2), none, (.op (.mov (.tmp 14)))⟩])
    .ret))
  res := [.tmp 2]
theorem c28 : CmpF Try.prog 28 a28 := chkF_cmp (F := Try.f28) (by kernel_rfl) mixed (by kernel_rfl)
/-- hansard/hansardref06.Packet -/
def a29 : AF where
  nt := 24
  body := (.seq (.region none [
      ⟨(some 1), none, (.op (.box true (.tmp 0)))⟩,
      ⟨(some 2), none, (.op (.mov (.dat (.lit (.bool false)))))⟩])
    (.seq (.region none [
      ⟨(some 3), none, (.op (.field 0 1 false (.tmp 1)))⟩,
      ⟨(some 4), none, (.op (.load 1 false (.tmp 3)))⟩,
      ⟨(some 5), none, (.call (.dat (.fn (.func 34) [] [])) [(.tmp 4)])⟩,
      ⟨(some 6), none, (.op (.mov (.tmp 5)))⟩,
      ⟨(some 7), (some (6, true)), (.op (.field 1 1 false (.tmp 1)))⟩,
      ⟨(some 8), (some (6, true)), (.op (.load 1 false (.tmp 7)))⟩,
      ⟨(some 9), (some (6, true)), (.call (.dat (.fn (.func 34) [] [])) [(.tmp 8)])⟩,
      ⟨(some 10), none, (.op (.pick (.tmp 6) (.tmp 9) (.dat (.lit (.bool false)))))⟩,
      ⟨(some 11), none, (.op (.mov (.tmp 10)))⟩,
      ⟨(some 12), (some (11, true)), (.op (.field 0 1 false (.tmp 1)))⟩,
      ⟨(some 13), (some (11, true)), (.op (.load 1 false (.tmp 12)))⟩,
      ⟨(some 14), (some (11, true)), (.op (.field 1 1 false (.tmp 1)))⟩,
      ⟨(some 15), (some (11, true)), (.op (.load 1 false (.tmp 14)))⟩,
      ⟨(some 16), (some (11, true)), (.op (.arith .neq (.tmp 13) (.tmp 15)))⟩,
      ⟨(some 17), none, (.op (.pick (.tmp 11) (.tmp 16) (.dat (.lit (.bool false)))))⟩,
      ⟨(some 18), none, (.op (.mov (.tmp 17)))⟩,
      ⟨(some 19), (some (18, true)), (.op (.field 2 1 false (.tmp 1)))⟩,
      ⟨(some 20), (some (18, true)), (.op (.load 1 false (.tmp 19)))⟩,
      ⟨(some 21), (some (18, true)), (.op (.len (.tmp 20)))⟩,
      ⟨(some 22), (some (18, true)), (.op (.arith .leq (.tmp 21) (.dat (.lit (.int .i64 1048576)))))⟩,
      ⟨(some 23), none, (.op (.pick (.tmp 18) (.tmp 22) (.dat (.lit (.bool false)))))⟩,
      ⟨(some 2), none, (.op (.mov (.tmp 23)))⟩])
    .ret))
  res := [.tmp 2]
theorem c29 : CmpF Try.prog 29 a29 := chkF_cmp (F := Try.f29) (by kernel_rfl) mixed (by kernel_rfl)
/-- slices.ContainsFunc(()hansard/api.Packet,hansard/api.Packet) -/
def a30 : AF where
  nt := 9
  body := (.seq (.region none [
      ⟨(some 4), none, (.op (.mov (.dat (.lit (.bool false)))))⟩])
    (.seq (.region none [
      ⟨(some 5), none, (.op (.mov (.tmp 0)))⟩,
      ⟨(some 6), none, (.op (.mov (.tmp 1)))⟩,
      ⟨(some 7), none, (.call (.dat (.fn (.func 43) [] [])) [(.tmp 5), (.tmp 6)])⟩,
      ⟨(some 8), none, (.op (.arith .geq (.tmp 7) (.dat (.lit (.int .i64 0)))))⟩,
      ⟨(some 4), none, (.op (.mov (.tmp 8)))⟩])
    .ret))
  res := [.tmp 4]
theorem c30 : CmpF Try.prog 30 a30 := chkF_cmp (F := Try.f30) (by kernel_rfl) mixed (by kernel_rfl)
/-- hansard/network.Check$1 -/
def a31 : AF where
  nt := 6
  body := (.seq (.region none [
      ⟨(some 1), none, (.op (.box true (.tmp 0)))⟩,
      ⟨(some 2), none, (.op (.mov (.dat (.lit (.bool false)))))⟩])
    (.seq (.region none [
      ⟨(some 3), none, (.op (.load 3 true (.tmp 1)))⟩,
      ⟨(some 4), none, (.call (.dat (.fn (.func 28) [] [])) [(.tmp 3)])⟩,
      ⟨(some 5), none, (.op (.not (.tmp 4)))⟩,
      ⟨(some 2), none, (.op (.mov (.tmp 5)))⟩])
    .ret))
  res := [.tmp 2]
theorem c31 : CmpF Try.prog 31 a31 := chkF_cmp (F := Try.f31) (by kernel_rfl) mixed (by kernel_rfl)
/-- (hansard/network.link).valid -/
def a32 : AF where
  nt := 18
  body := (.seq (.region none [
      ⟨(some 1), none, (.op (.box true (.tmp 0)))⟩,
      ⟨(some 2), none, (.op (.mov (.dat (.lit (.bool false)))))⟩])
    (.seq (.region none [
      ⟨(some 3), none, (.op (.indexA 1 false 2 (.tmp 1) (.dat (.lit (.int .i64 0)))))⟩,
      ⟨(some 4), none, (.op (.load 1 false (.tmp 3)))⟩,
      ⟨(some 5), none, (.op (.arith .geq (.tmp 4) (.dat (.lit (.int .i64 0)))))⟩,
      ⟨(some 6), none, (.op (.mov (.tmp 5)))⟩,
      ⟨(some 7), (some (6, true)), (.op (.indexA 1 false 2 (.tmp 1) (.dat (.lit (.int .i64 0)))))⟩,
      ⟨(some 8), (some (6, true)), (.op (.load 1 false (.tmp 7)))⟩,
      ⟨(some 9), (some (6, true)), (.op (.indexA 1 false 2 (.tmp 1) (.dat (.lit (.int .i64 1)))))⟩,
      ⟨(some 10), (some (6, true)), (.op (.load 1 false (.tmp 9)))⟩,
      ⟨(some 11), (some (6, true)), (.op (.arith .lss (.tmp 8) (.tmp 10)))⟩,
      ⟨(some 12), none, (.op (.pick (.tmp 6) (.tmp 11) (.dat (.lit (.bool false)))))⟩,
      ⟨(some 13), none, (.op (.mov (.tmp 12)))⟩,
      ⟨(some 14), (some (13, true)), (.op (.indexA 1 false 2 (.tmp 1) (.dat (.lit (.int .i64 1)))))⟩,
      ⟨(some 15), (some (13, true)), (.op (.load 1 false (.tmp 14)))⟩,
      ⟨(some 16), (some (13, true)), (.op (.arith .lss (.tmp 15) (.dat (.lit (.int .i64 24)))))⟩,
      ⟨(some 17), none, (.op (.pick (.tmp 13) (.tmp 16) (.dat (.lit (.bool false)))))⟩,
      ⟨(some 2), none, (.op (.mov (.tmp 17)))⟩])
    .ret))
  res := [.tmp 2]
theorem c32 : CmpF Try.prog 32 a32 := chkF_cmp (F := Try.f32) (by kernel_rfl) mixed (by kernel_rfl)
/-- slices.Compare(()int,int) -/
def a33 : AF where
  nt := 36
  body := (.seq (.region none [
      ⟨(some 4), none, (.op (.mov (.dat (.lit (.int .i64 0)))))⟩])
    (.seq (.seq (.region none [
      ⟨(some 9), none, (.op (.mov (.tmp 0)))⟩,
      ⟨(some 10), none, (.op (.len (.tmp 9)))⟩,
      ⟨(some 11), none, (.op (.mov (.dat (.lit (.int .i64 0)))))⟩])
    (.block 0
      (.loop
        (.seq (.region none [
          ⟨(some 12), none, (.op (.arith .lss (.tmp 11) (.tmp 10)))⟩])
        (.seq (.cond (.tmp 12)
          .skip
          (.exit 0))
        (.seq (.block 1
          (.seq (.region none [
            ⟨(some 13), none, (.op (.mov (.tmp 11)))⟩,
            ⟨(some 14), none, (.op (.index 1 (.tmp 9) (.tmp 11)))⟩,
            ⟨(some 15), none, (.op (.load 1 false (.tmp 14)))⟩,
            ⟨(some 5), none, (.op (.mov (.tmp 13)))⟩,
            ⟨(some 6), none, (.op (.mov (.tmp 15)))⟩])
          (.seq (.seq (.region none [
            ⟨(some 16), none, (.op (.mov (.tmp 5)))⟩,
            ⟨(some 17), none, (.op (.mov (.tmp 1)))⟩,
            ⟨(some 18), none, (.op (.len (.tmp 17)))⟩,
            ⟨(some 19), none, (.op (.arith .geq (.tmp 16) (.tmp 18)))⟩])
          (.cond (.tmp 19)
            (.seq (.region none [
              ⟨(some 4), none, (.op (.mov (.dat (.lit (.int .i64 1)))))⟩])
            .ret)
            .skip))
          (.seq (.region none [
            ⟨(some 20), none, (.op (.mov (.tmp 1)))⟩,
            ⟨(some 21), none, (.op (.mov (.tmp 5)))⟩,
            ⟨(some 22), none, (.op (.index 1 (.tmp 20) (.tmp 21)))⟩,
            ⟨(some 23), none, (.op (.load 1 false (.tmp 22)))⟩,
            ⟨(some 7), none, (.op (.mov (.tmp 23)))⟩])
          (.seq (.region none [
            ⟨(some 24), none, (.op (.mov (.tmp 6)))⟩,
            ⟨(some 25), none, (.op (.mov (.tmp 7)))⟩,
            ⟨(some 26), none, (.call (.dat (.fn (.func 44) [] [])) [(.tmp 24), (.tmp 25)])⟩,
            ⟨(some 8), none, (.op (.mov (.tmp 26)))⟩])
          (.seq (.region none [
            ⟨(some 27), none, (.op (.mov (.tmp 8)))⟩,
            ⟨(some 28), none, (.op (.arith .neq (.tmp 27) (.dat (.lit (.int .i64 0)))))⟩])
          (.cond (.tmp 28)
            (.seq (.region none [
              ⟨(some 29), none, (.op (.mov (.tmp 8)))⟩,
              ⟨(some 4), none, (.op (.mov (.tmp 29)))⟩])
            .ret)
            .skip)))))))
        (.region none [
          ⟨(some 30), none, (.op (.arith .add (.tmp 11) (.dat (.lit (.int .i64 1)))))⟩,
          ⟨(some 11), none, (.op (.mov (.tmp 30)))⟩])))))))
    (.seq (.seq (.region none [
      ⟨(some 31), none, (.op (.mov (.tmp 0)))⟩,
      ⟨(some 32), none, (.op (.len (.tmp 31)))⟩,
      ⟨(some 33), none, (.op (.mov (.tmp 1)))⟩,
      ⟨(some 34), none, (.op (.len (.tmp 33)))⟩,
      ⟨(some 35), none, (.op (.arith .lss (.tmp 32) (.tmp 34)))⟩])
    (.cond (.tmp 35)
      (.seq (.region none [
        ⟨(some 4), none, (.op (.mov (.dat (.lit (.int .i64 (-1))))))⟩])
      .ret)
      .skip))
    (.seq (.region none [
      ⟨(some 4), none, (.op (.mov (.dat (.lit (.int .i64 0)))))⟩])
    .ret))))
  res := [.tmp 4]
theorem c33 : CmpF Try.prog 33 a33 := chkF_cmp (F := Try.f33) (by kernel_rfl) mixed (by kernel_rfl)
/-- hansard/hansardref06.Site -/
def a34 : AF where
  nt := 9
  body := (.seq (.region none [
      ⟨(some 2), none, (.op (.mov (.dat (.lit (.bool false)))))⟩])
    (.seq (.region none [
      ⟨(some 3), none, (.op (.mov (.tmp 0)))⟩,
      ⟨(some 4), none, (.op (.arith .geq (.tmp 3) (.dat (.lit (.int .i64 0)))))⟩,
      ⟨(some 5), none, (.op (.mov (.tmp 4)))⟩,
      ⟨(some 6), (some (5, true)), (.op (.mov (.tmp 0)))⟩,
      ⟨(some 7), (some (5, true)), (.op (.arith .lss (.tmp 6) (.dat (.lit (.int .i64 24)))))⟩,
      ⟨(some 8), none, (.op (.pick (.tmp 5) (.tmp 7) (.dat (.lit (.bool false)))))⟩,
      ⟨(some 2), none, (.op (.mov (.tmp 8)))⟩])
    .ret))
  res := [.tmp 2]
theorem c34 : CmpF Try.prog 34 a34 := chkF_cmp (F := Try.f34) (by kernel_rfl) mixed (by kernel_rfl)
/-- hansard/network.at -/
def a35 : AF where
  nt := 25
  body := (.seq (.region none [
      ⟨(some 2), none, (.op (.box true (.tmp 0)))⟩,
      ⟨(some 4), none, (.op (.alloc true [.lit (.int .i64 0), .lit (.int .i64 0), .nil 1]))⟩,
      ⟨(some 5), none, (.op (.mov (.dat (.lit (.int .i64 0)))))⟩])
    (.seq (.seq (.region none [
      ⟨(some 6), none, (.op (.load 2 true (.tmp 2)))⟩,
      ⟨(some 7), none, (.call (.dat (.fn (.func 13) [] [])) [(.tmp 6)])⟩,
      ⟨(some 8), none, (.op (.arith .neq (.tmp 7) (.dat (.lit (.int .i64 0)))))⟩])
    (.cond (.tmp 8)
      (.seq (.region none [
        ⟨(some 9), none, (.op (.load 3 true (.tmp 4)))⟩,
        ⟨none, none, (.op (.store 3 (.tmp 4) (.tmp 9)))⟩,
        ⟨(some 5), none, (.op (.mov (.dat (.lit (.int .i64 60)))))⟩])
      .ret)
      .skip))
    (.seq (.seq (.region none [
      ⟨(some 10), none, (.op (.mov (.tmp 1)))⟩,
      ⟨(some 11), none, (.op (.arith .lss (.tmp 10) (.dat (.lit (.int .i64 0)))))⟩,
      ⟨(some 12), none, (.op (.mov (.tmp 11)))⟩,
      ⟨(some 13), (some (12, false)), (.op (.mov (.tmp 1)))⟩,
      ⟨(some 14), (some (12, false)), (.op (.field 0 1 false (.tmp 2)))⟩,
      ⟨(some 15), (some (12, false)), (.op (.load 1 false (.tmp 14)))⟩,
      ⟨(some 16), (some (12, false)), (.op (.len (.tmp 15)))⟩,
      ⟨(some 17), (some (12, false)), (.op (.arith .geq (.tmp 13) (.tmp 16)))⟩,
      ⟨(some 18), none, (.op (.pick (.tmp 12) (.dat (.lit (.bool true))) (.tmp 17)))⟩])
    (.cond (.tmp 18)
      (.seq (.region none [
        ⟨(some 19), none, (.op (.load 3 true (.tmp 4)))⟩,
        ⟨none, none, (.op (.store 3 (.tmp 4) (.tmp 19)))⟩,
        ⟨(some 5), none, (.op (.mov (.dat (.lit (.int .i64 1)))))⟩])
      .ret)
      .skip))
    (.seq (.region none [
      ⟨(some 20), none, (.op (.field 0 1 false (.tmp 2)))⟩,
      ⟨(some 21), none, (.op (.load 1 false (.tmp 20)))⟩,
      ⟨(some 22), none, (.op (.mov (.tmp 1)))⟩,
      ⟨(some 23), none, (.op (.index 3 (.tmp 21) (.tmp 22)))⟩,
      ⟨(some 24), none, (.op (.load 3 true (.tmp 23)))⟩,
      ⟨none, none, (.op (.store 3 (.tmp 4) (.tmp 24)))⟩,
      ⟨(some 5), none, (.op (.mov (.dat (.lit (.int .i64 0)))))⟩])
    .ret))))
  res := [.cell 4 3 true, .tmp 5]
theorem c35 : CmpF Try.prog 35 a35 := chkF_cmp (F := Try.f35) (by kernel_rfl) mixed (by kernel_rfl)
/-- slices.Contains(()(2)int,(2)int) -/
def a36 : AF where
  nt := 9
  body := (.seq (.region none [
      ⟨(some 3), none, (.op (.box true (.tmp 1)))⟩,
      ⟨(some 4), none, (.op (.mov (.dat (.lit (.bool false)))))⟩])
    (.seq (.region none [
      ⟨(some 5), none, (.op (.mov (.tmp 0)))⟩,
      ⟨(some 6), none, (.op (.load 2 true (.tmp 3)))⟩,
      ⟨(some 7), none, (.call (.dat (.fn (.func 45) [] [])) [(.tmp 5), (.tmp 6)])⟩,
      ⟨(some 8), none, (.op (.arith .geq (.tmp 7) (.dat (.lit (.int .i64 0)))))⟩,
      ⟨(some 4), none, (.op (.mov (.tmp 8)))⟩])
    .ret))
  res := [.tmp 4]
theorem c36 : CmpF Try.prog 36 a36 := chkF_cmp (F := Try.f36) (by kernel_rfl) mixed (by kernel_rfl)
/-- hansard/network.between -/
def a37 : AF where
  nt := 12
  body := (.seq (.region none [
      ⟨(some 4), none, (.op (.alloc true [.lit (.int .i64 0), .lit (.int .i64 0)]))⟩])
    (.seq (.region none [
      ⟨(some 5), none, (.op (.mov (.tmp 0)))⟩,
      ⟨(some 6), none, (.op (.mov (.tmp 1)))⟩,
      ⟨(some 7), none, (.op (.minmax false (.tmp 5) (.tmp 6)))⟩,
      ⟨(some 8), none, (.op (.mov (.tmp 0)))⟩,
      ⟨(some 9), none, (.op (.mov (.tmp 1)))⟩,
      ⟨(some 10), none, (.op (.minmax true (.tmp 8) (.tmp 9)))⟩,
      ⟨(some 11), none, (.op (.build [.lit (.int .i64 0), .lit (.int .i64 0)] [(0, 1, (.tmp 7)), (1, 1, (.tmp 10))]))⟩,
      ⟨none, none, (.op (.store 2 (.tmp 4) (.tmp 11)))⟩])
    .ret))
  res := [.cell 4 2 true]
theorem c37 : CmpF Try.prog 37 a37 := chkF_cmp (F := Try.f37) (by kernel_rfl) mixed (by kernel_rfl)
/-- hansard/network.without -/
def a38 : AF where
  nt := 18
  body := (.seq (.region none [
      ⟨(some 2), none, (.op (.box true (.tmp 0)))⟩,
      ⟨(some 4), none, (.op (.alloc true [.nil 3, .nil 2]))⟩])
    (.seq (.region (some [[], [0], [], [], [0, 1, 2, 3], [], [5], [], [7], [5, 6, 7, 8], [0, 1, 2, 3, 4, 5, 6, 7, 8, 9], [0, 1, 2, 3, 4, 5, 6, 7, 8, 9, 10], [0, 1, 2, 3, 4, 5, 6, 7, 8, 9, 10, 11]]) [
      ⟨(some 5), none, (.op (.field 0 1 false (.tmp 2)))⟩,
      ⟨(some 6), none, (.op (.load 1 false (.tmp 5)))⟩,
      ⟨(some 7), none, (.op (.mov (.tmp 1)))⟩,
      ⟨(some 8), none, (.op (.mov (.tmp 1)))⟩,
      ⟨(some 9), none, (.op (.slice3 3 (.tmp 6) none (.tmp 7) (.tmp 8)))⟩,
      ⟨(some 10), none, (.op (.field 0 1 false (.tmp 2)))⟩,
      ⟨(some 11), none, (.op (.load 1 false (.tmp 10)))⟩,
      ⟨(some 12), none, (.op (.mov (.tmp 1)))⟩,
      ⟨(some 13), none, (.op (.arith .add (.tmp 12) (.dat (.lit (.int .i64 1)))))⟩,
      ⟨(some 14), none, (.op (.slice 3 (.tmp 11) (some (.tmp 13)) none))⟩,
      ⟨(some 15), none, (.op (.append 3 40 (.tmp 9) (.tmp 14)))⟩,
      ⟨(some 16), none, (.op (.field 0 1 false (.tmp 2)))⟩,
      ⟨none, none, (.op (.store 1 (.tmp 16) (.tmp 15)))⟩])
    (.seq (.region none [
      ⟨(some 17), none, (.op (.load 2 true (.tmp 2)))⟩,
      ⟨none, none, (.op (.store 2 (.tmp 4) (.tmp 17)))⟩])
    .ret)))
  res := [.cell 4 2 true]
theorem c38 : CmpF Try.prog 38 a38 := chkF_cmp (F := Try.f38) (by kernel_rfl) mixed (by kernel_rfl)
/-- hansard/network.cuts -/
def a39 : AF where
  nt := 8
  body := (.seq (.region none [
      ⟨(some 3), none, (.op (.box false (.tmp 0)))⟩,
      ⟨(some 4), none, (.op (.box true (.tmp 1)))⟩,
      ⟨(some 5), none, (.op (.box false (.tmp 2)))⟩,
      ⟨(some 6), none, (.op (.mov (.dat (.lit (.nilFunc)))))⟩])
    (.seq (.region none [
      ⟨(some 7), none, (.op (.func (.func 46) [] [(.tmp 4), (.tmp 5), (.tmp 3)]))⟩,
      ⟨(some 6), none, (.op (.mov (.tmp 7)))⟩])
    .ret))
  res := [.tmp 6]
theorem c39 : CmpF Try.prog 39 a39 := chkF_cmp (F := Try.f39) (by kernel_rfl) mixed (by kernel_rfl)
/-- hansard/hansardref06.IsCut -/
def a40 : AF where
  nt := 37
  body := (.seq (.region none [
      ⟨(some 3), none, (.op (.box true (.tmp 0)))⟩,
      ⟨(some 6), none, (.op (.mov (.dat (.lit (.bool false)))))⟩])
    (.seq (.seq (.region none [
      ⟨(some 7), none, (.op (.mov (.dat (.lit (.int .i64 0)))))⟩])
    (.block 0
      (.loop
        (.seq (.seq (.region none [
          ⟨(some 8), none, (.op (.mov (.tmp 7)))⟩,
          ⟨(some 9), none, (.op (.field 1 1 false (.tmp 3)))⟩,
          ⟨(some 10), none, (.op (.load 1 false (.tmp 9)))⟩,
          ⟨(some 11), none, (.op (.len (.tmp 10)))⟩,
          ⟨(some 12), none, (.op (.arith .lss (.tmp 8) (.tmp 11)))⟩])
        (.cond (.tmp 12)
          .skip
          (.exit 0)))
        (.seq (.block 1
          (.seq (.region none [
            ⟨(some 15), none, (.op (.field 1 1 false (.tmp 3)))⟩,
            ⟨(some 16), none, (.op (.load 1 false (.tmp 15)))⟩,
            ⟨(some 17), none, (.op (.mov (.tmp 7)))⟩,
            ⟨(some 18), none, (.op (.index 2 (.tmp 16) (.tmp 17)))⟩,
            ⟨(some 19), none, (.op (.indexA 1 false 2 (.tmp 18) (.dat (.lit (.int .i64 0)))))⟩,
            ⟨(some 20), none, (.op (.load 1 false (.tmp 19)))⟩,
            ⟨(some 21), none, (.op (.mov (.tmp 1)))⟩,
            ⟨(some 22), none, (.op (.mov (.tmp 2)))⟩,
            ⟨(some 23), none, (.op (.minmax false (.tmp 21) (.tmp 22)))⟩,
            ⟨(some 24), none, (.op (.arith .eql (.tmp 20) (.tmp 23)))⟩,
            ⟨(some 25), none, (.op (.mov (.tmp 24)))⟩,
            ⟨(some 26), (some (25, true)), (.op (.field 1 1 false (.tmp 3)))⟩,
            ⟨(some 27), (some (25, true)), (.op (.load 1 false (.tmp 26)))⟩,
            ⟨(some 28), (some (25, true)), (.op (.mov (.tmp 7)))⟩,
            ⟨(some 29), (some (25, true)), (.op (.index 2 (.tmp 27) (.tmp 28)))⟩,
            ⟨(some 30), (some (25, true)), (.op (.indexA 1 false 2 (.tmp 29) (.dat (.lit (.int .i64 1)))))⟩,
            ⟨(some 31), (some (25, true)), (.op (.load 1 false (.tmp 30)))⟩,
            ⟨(some 32), (some (25, true)), (.op (.mov (.tmp 1)))⟩,
            ⟨(some 33), (some (25, true)), (.op (.mov (.tmp 2)))⟩,
            ⟨(some 34), (some (25, true)), (.op (.minmax true (.tmp 32) (.tmp 33)))⟩,
            ⟨(some 35), (some (25, true)), (.op (.arith .eql (.tmp 31) (.tmp 34)))⟩,
            ⟨(some 36), none, (.op (.pick (.tmp 25) (.tmp 35) (.dat (.lit (.bool false)))))⟩])
          (.cond (.tmp 36)
            (.seq (.region none [
              ⟨(some 6), none, (.op (.mov (.dat (.lit (.bool true)))))⟩])
            .ret)
            .skip)))
        (.region none [
          ⟨(some 13), none, (.op (.mov (.tmp 7)))⟩,
          ⟨(some 14), none, (.op (.arith .add (.tmp 13) (.dat (.lit (.int .i64 1)))))⟩,
          ⟨(some 7), none, (.op (.mov (.tmp 14)))⟩]))))))
    (.seq (.region none [
      ⟨(some 6), none, (.op (.mov (.dat (.lit (.bool false)))))⟩])
    .ret)))
  res := [.tmp 6]
theorem c40 : CmpF Try.prog 40 a40 := chkF_cmp (F := Try.f40) (by kernel_rfl) mixed (by kernel_rfl)
/-- hansard/hansardref06.asked -/
def a41 : AF where
  nt := 17
  body := (.seq (.region none [
      ⟨(some 2), none, (.op (.box true (.tmp 0)))⟩,
      ⟨(some 4), none, (.op (.mov (.dat (.lit (.int .i64 0)))))⟩])
    (.seq (.seq (.region none [
      ⟨(some 5), none, (.op (.load 2 true (.tmp 2)))⟩,
      ⟨(some 6), none, (.call (.dat (.fn (.func 14) [] [])) [(.tmp 5)])⟩,
      ⟨(some 7), none, (.op (.arith .neq (.tmp 6) (.dat (.lit (.int .i64 0)))))⟩])
    (.cond (.tmp 7)
      (.seq (.region none [
        ⟨(some 4), none, (.op (.mov (.dat (.lit (.int .i64 60)))))⟩])
      .ret)
      .skip))
    (.seq (.seq (.region none [
      ⟨(some 8), none, (.op (.mov (.tmp 1)))⟩,
      ⟨(some 9), none, (.op (.arith .lss (.tmp 8) (.dat (.lit (.int .i64 0)))))⟩,
      ⟨(some 10), none, (.op (.mov (.tmp 9)))⟩,
      ⟨(some 11), (some (10, false)), (.op (.mov (.tmp 1)))⟩,
      ⟨(some 12), (some (10, false)), (.op (.field 0 1 false (.tmp 2)))⟩,
      ⟨(some 13), (some (10, false)), (.op (.load 1 false (.tmp 12)))⟩,
      ⟨(some 14), (some (10, false)), (.op (.len (.tmp 13)))⟩,
      ⟨(some 15), (some (10, false)), (.op (.arith .geq (.tmp 11) (.tmp 14)))⟩,
      ⟨(some 16), none, (.op (.pick (.tmp 10) (.dat (.lit (.bool true))) (.tmp 15)))⟩])
    (.cond (.tmp 16)
      (.seq (.region none [
        ⟨(some 4), none, (.op (.mov (.dat (.lit (.int .i64 1)))))⟩])
      .ret)
      .skip))
    (.seq (.region none [
      ⟨(some 4), none, (.op (.mov (.dat (.lit (.int .i64 0)))))⟩])
    .ret))))
  res := [.tmp 4]
theorem c41 : CmpF Try.prog 41 a41 := chkF_cmp (F := Try.f41) (by kernel_rfl) mixed (by kernel_rfl)
/-- hansard/hansardref06.without -/
def a42 : AF where
  nt := 19
  body := (.seq (.region none [
      ⟨(some 2), none, (.op (.box true (.tmp 0)))⟩,
      ⟨(some 4), none, (.op (.alloc true [.nil 3, .nil 2]))⟩])
    (.seq (.region (some [[], [], [1], [], [1, 2, 3], [0, 1, 2, 3, 4], [], [6], [], [8], [6, 7, 8, 9], [0, 1, 2, 3, 4, 5, 6, 7, 8, 9, 10], [0, 1, 2, 3, 4, 5, 6, 7, 8, 9, 10, 11], [0, 1, 2, 3, 4, 5, 6, 7, 8, 9, 10, 11, 12]]) [
      ⟨(some 5), none, (.op (.mkslice 3 []))⟩,
      ⟨(some 6), none, (.op (.field 0 1 false (.tmp 2)))⟩,
      ⟨(some 7), none, (.op (.load 1 false (.tmp 6)))⟩,
      ⟨(some 8), none, (.op (.mov (.tmp 1)))⟩,
      ⟨(some 9), none, (.op (.slice 3 (.tmp 7) none (some (.tmp 8))))⟩,
      ⟨(some 10), none, (.op (.append 3 40 (.tmp 5) (.tmp 9)))⟩,
      ⟨(some 11), none, (.op (.field 0 1 false (.tmp 2)))⟩,
      ⟨(some 12), none, (.op (.load 1 false (.tmp 11)))⟩,
      ⟨(some 13), none, (.op (.mov (.tmp 1)))⟩,
      ⟨(some 14), none, (.op (.arith .add (.tmp 13) (.dat (.lit (.int .i64 1)))))⟩,
      ⟨(some 15), none, (.op (.slice 3 (.tmp 12) (some (.tmp 14)) none))⟩,
      ⟨(some 16), none, (.op (.append 3 40 (.tmp 10) (.tmp 15)))⟩,
      ⟨(some 17), none, (.op (.field 0 1 false (.tmp 2)))⟩,
      ⟨none, none, (.op (.store 1 (.tmp 17) (.tmp 16)))⟩])
    (.seq (.region none [
      ⟨(some 18), none, (.op (.load 2 true (.tmp 2)))⟩,
      ⟨none, none, (.op (.store 2 (.tmp 4) (.tmp 18)))⟩])
    .ret)))
  res := [.cell 4 2 true]
theorem c42 : CmpF Try.prog 42 a42 := chkF_cmp (F := Try.f42) (by kernel_rfl) mixed (by kernel_rfl)
/-- slices.IndexFunc(()hansard/api.Packet,hansard/api.Packet) -/
def a43 : AF where
  nt := 19
  body := (.seq (.region none [
      ⟨(some 4), none, (.op (.mov (.dat (.lit (.int .i64 0)))))⟩])
    (.seq (.seq (.region none [
      ⟨(some 6), none, (.op (.mov (.tmp 0)))⟩,
      ⟨(some 7), none, (.op (.len (.tmp 6)))⟩,
      ⟨(some 8), none, (.op (.mov (.dat (.lit (.int .i64 0)))))⟩])
    (.block 0
      (.loop
        (.seq (.region none [
          ⟨(some 9), none, (.op (.arith .lss (.tmp 8) (.tmp 7)))⟩])
        (.seq (.cond (.tmp 9)
          .skip
          (.exit 0))
        (.seq (.block 1
          (.seq (.region none [
            ⟨(some 10), none, (.op (.mov (.tmp 8)))⟩,
            ⟨(some 5), none, (.op (.mov (.tmp 10)))⟩])
          (.seq (.region none [
            ⟨(some 11), none, (.op (.mov (.tmp 1)))⟩,
            ⟨(some 12), none, (.op (.mov (.tmp 0)))⟩,
            ⟨(some 13), none, (.op (.mov (.tmp 5)))⟩,
            ⟨(some 14), none, (.op (.index 3 (.tmp 12) (.tmp 13)))⟩,
            ⟨(some 15), none, (.op (.load 3 true (.tmp 14)))⟩,
            ⟨(some 16), none, (.call (.tmp 11) [(.tmp 15)])⟩])
          (.cond (.tmp 16)
            (.seq (.region none [
              ⟨(some 17), none, (.op (.mov (.tmp 5)))⟩,
              ⟨(some 4), none, (.op (.mov (.tmp 17)))⟩])
            .ret)
            .skip))))
        (.region none [
          ⟨(some 18), none, (.op (.arith .add (.tmp 8) (.dat (.lit (.int .i64 1)))))⟩,
          ⟨(some 8), none, (.op (.mov (.tmp 18)))⟩])))))))
    (.seq (.region none [
      ⟨(some 4), none, (.op (.mov (.dat (.lit (.int .i64 (-1))))))⟩])
    .ret)))
  res := [.tmp 4]
theorem c43 : CmpF Try.prog 43 a43 := chkF_cmp (F := Try.f43) (by kernel_rfl) mixed (by kernel_rfl)
/-- cmp.Compare(int) -/
def a44 : AF where
  nt := 20
  body := (.seq (.region none [
      ⟨(some 4), none, (.op (.mov (.dat (.lit (.int .i64 0)))))⟩])
    (.seq (.region none [
      ⟨(some 7), none, (.op (.mov (.tmp 0)))⟩,
      ⟨(some 8), none, (.call (.dat (.fn (.func 47) [] [])) [(.tmp 7)])⟩,
      ⟨(some 5), none, (.op (.mov (.tmp 8)))⟩])
    (.seq (.region none [
      ⟨(some 9), none, (.op (.mov (.tmp 1)))⟩,
      ⟨(some 10), none, (.call (.dat (.fn (.func 47) [] [])) [(.tmp 9)])⟩,
      ⟨(some 6), none, (.op (.mov (.tmp 10)))⟩])
    (.seq (.seq (.region none [
      ⟨(some 11), none, (.op (.mov (.tmp 5)))⟩])
    (.cond (.tmp 11)
      (.seq (.seq (.region none [
        ⟨(some 12), none, (.op (.mov (.tmp 6)))⟩])
      (.cond (.tmp 12)
        (.seq (.region none [
          ⟨(some 4), none, (.op (.mov (.dat (.lit (.int .i64 0)))))⟩])
        .ret)
        .skip))
      (.seq (.region none [
        ⟨(some 4), none, (.op (.mov (.dat (.lit (.int .i64 (-1))))))⟩])
      .ret))
      .skip))
    (.seq (.seq (.region none [
      ⟨(some 13), none, (.op (.mov (.tmp 6)))⟩])
    (.cond (.tmp 13)
      (.seq (.region none [
        ⟨(some 4), none, (.op (.mov (.dat (.lit (.int .i64 1)))))⟩])
      .ret)
      .skip))
    (.seq (.seq (.region none [
      ⟨(some 14), none, (.op (.mov (.tmp 0)))⟩,
      ⟨(some 15), none, (.op (.mov (.tmp 1)))⟩,
      ⟨(some 16), none, (.op (.arith .lss (.tmp 14) (.tmp 15)))⟩])
    (.cond (.tmp 16)
      (.seq (.region none [
        ⟨(some 4), none, (.op (.mov (.dat (.lit (.int .i64 (-1))))))⟩])
      .ret)
      .skip))
    (.seq (.seq (.region none [
      ⟨(some 17), none, (.op (.mov (.tmp 0)))⟩,
      ⟨(some 18), none, (.op (.mov (.tmp 1)))⟩,
      ⟨(some 19), none, (.op (.arith .gtr (.tmp 17) (.tmp 18)))⟩])
    (.cond (.tmp 19)
      (.seq (.region none [
        ⟨(some 4), none, (.op (.mov (.dat (.lit (.int .i64 1)))))⟩])
      .ret)
      .skip))
    (.seq (.region none [
      ⟨(some 4), none, (.op (.mov (.dat (.lit (.int .i64 0)))))⟩])
    .ret))))))))
  res := [.tmp 4]
theorem c44 : CmpF Try.prog 44 a44 := chkF_cmp (F := Try.f44) (by kernel_rfl) mixed (by kernel_rfl)
/-- slices.Index(()(2)int,(2)int) -/
def a45 : AF where
  nt := 19
  body := (.seq (.region none [
      ⟨(some 3), none, (.op (.box true (.tmp 1)))⟩,
      ⟨(some 4), none, (.op (.mov (.dat (.lit (.int .i64 0)))))⟩])
    (.seq (.seq (.region none [
      ⟨(some 6), none, (.op (.mov (.tmp 0)))⟩,
      ⟨(some 7), none, (.op (.len (.tmp 6)))⟩,
      ⟨(some 8), none, (.op (.mov (.dat (.lit (.int .i64 0)))))⟩])
    (.block 0
      (.loop
        (.seq (.region none [
          ⟨(some 9), none, (.op (.arith .lss (.tmp 8) (.tmp 7)))⟩])
        (.seq (.cond (.tmp 9)
          .skip
          (.exit 0))
        (.seq (.block 1
          (.seq (.region none [
            ⟨(some 10), none, (.op (.mov (.tmp 8)))⟩,
            ⟨(some 5), none, (.op (.mov (.tmp 10)))⟩])
          (.seq (.region (some [[], [], [], [1, 2], [1, 2, 3], [0, 1, 2, 3, 4]]) [
            ⟨(some 11), none, (.op (.load 2 true (.tmp 3)))⟩,
            ⟨(some 12), none, (.op (.mov (.tmp 0)))⟩,
            ⟨(some 13), none, (.op (.mov (.tmp 5)))⟩,
            ⟨(some 14), none, (.op (.index 2 (.tmp 12) (.tmp 13)))⟩,
            ⟨(some 15), none, (.op (.load 2 true (.tmp 14)))⟩,
            ⟨(some 16), none, (.op (.ext (.eqrow false [.int .i64, .int .i64]) [(.tmp 11), (.tmp 15)]))⟩])
          (.cond (.tmp 16)
            (.seq (.region none [
              ⟨(some 17), none, (.op (.mov (.tmp 5)))⟩,
              ⟨(some 4), none, (.op (.mov (.tmp 17)))⟩])
            .ret)
            .skip))))
        (.region none [
          ⟨(some 18), none, (.op (.arith .add (.tmp 8) (.dat (.lit (.int .i64 1)))))⟩,
          ⟨(some 8), none, (.op (.mov (.tmp 18)))⟩])))))))
    (.seq (.region none [
      ⟨(some 4), none, (.op (.mov (.dat (.lit (.int .i64 (-1))))))⟩])
    .ret)))
  res := [.tmp 4]
theorem c45 : CmpF Try.prog 45 a45 := chkF_cmp (F := Try.f45) (by kernel_rfl) mixed (by kernel_rfl)
/-- hansard/network.cuts$1 -/
def a46 : AF where
  nt := 43
  body := (.seq (.region none [
      ⟨(some 8), none, (.op (.mov (.dat (.lit (.int .i64 0)))))⟩])
    (.block 0
      (.loop
        (.seq (.region none [
          ⟨(some 9), none, (.op (.arith .lss (.tmp 8) (.dat (.lit (.int .i64 24)))))⟩])
        (.seq (.cond (.tmp 9)
          .skip
          (.exit 0))
        (.seq (.block 1
          (.seq (.region none [
            ⟨(some 10), none, (.op (.mov (.tmp 8)))⟩,
            ⟨(some 5), none, (.op (.mov (.tmp 10)))⟩])
          (.seq (.region none [
            ⟨(some 11), none, (.op (.mov (.tmp 5)))⟩,
            ⟨(some 12), none, (.op (.arith .add (.tmp 11) (.dat (.lit (.int .i64 1)))))⟩,
            ⟨(some 6), none, (.op (.mov (.tmp 12)))⟩])
          (.block 2
            (.loop
              (.seq (.seq (.region none [
                ⟨(some 13), none, (.op (.mov (.tmp 6)))⟩,
                ⟨(some 14), none, (.op (.arith .lss (.tmp 13) (.dat (.lit (.int .i64 24)))))⟩])
              (.cond (.tmp 14)
                .skip
                (.exit 2)))
              (.seq (.block 3
                (.seq (.region none [
                  ⟨(some 17), none, (.op (.mov (.tmp 5)))⟩,
                  ⟨(some 18), none, (.op (.mov (.tmp 6)))⟩,
                  ⟨(some 19), none, (.op (.build [.lit (.int .i64 0), .lit (.int .i64 0)] [(0, 1, (.tmp 17)), (1, 1, (.tmp 18))]))⟩,
                  ⟨(some 7), none, (.op (.alloc true [.lit (.int .i64 0), .lit (.int .i64 0)]))⟩,
                  ⟨none, none, (.op (.store 2 (.tmp 7) (.tmp 19)))⟩])
                (.seq (.seq (.region none [
                  ⟨(some 20), none, (.op (.load 2 true (.tmp 7)))⟩,
                  ⟨(some 21), none, (.op (.load 2 true (.tmp 1)))⟩,
                  ⟨(some 22), none, (.op (.ext (.eqrow false [.int .i64, .int .i64]) [(.tmp 20), (.tmp 21)]))⟩,
                  ⟨(some 23), none, (.op (.mov (.tmp 22)))⟩,
                  ⟨(some 24), (some (23, true)), (.op (.load 1 false (.tmp 2)))⟩,
                  ⟨(some 25), (some (23, true)), (.op (.not (.tmp 24)))⟩,
                  ⟨(some 26), none, (.op (.pick (.tmp 23) (.tmp 25) (.dat (.lit (.bool false)))))⟩,
                  ⟨(some 27), none, (.op (.mov (.tmp 26)))⟩,
                  ⟨(some 28), (some (27, false)), (.op (.load 2 true (.tmp 7)))⟩,
                  ⟨(some 29), (some (27, false)), (.op (.load 2 true (.tmp 1)))⟩,
                  ⟨(some 30), (some (27, false)), (.op (.ext (.eqrow true [.int .i64, .int .i64]) [(.tmp 28), (.tmp 29)]))⟩,
                  ⟨(some 31), (some (27, false)), (.op (.mov (.tmp 30)))⟩,
                  ⟨(some 32), (some (31, true)), (.op (.load 1 false (.tmp 3)))⟩,
                  ⟨(some 33), (some (31, true)), (.op (.load 2 true (.tmp 7)))⟩,
                  ⟨(some 34), (some (31, true)), (.call (.dat (.fn (.func 36) [] [])) [(.tmp 32), (.tmp 33)])⟩,
                  ⟨(some 35), (some (31, true)), (.op (.not (.tmp 34)))⟩,
                  ⟨(some 36), (some (27, false)), (.op (.pick (.tmp 31) (.tmp 35) (.dat (.lit (.bool false)))))⟩,
                  ⟨(some 37), none, (.op (.pick (.tmp 27) (.dat (.lit (.bool true))) (.tmp 36)))⟩])
                (.cond (.tmp 37)
                  (.exit 3)
                  .skip))
                (.seq (.sregion [
                  ⟨(some 38), none, (.op (.mov (.tmp 0)))⟩,
                  ⟨(some 39), none, (.op (.load 2 true (.tmp 7)))⟩,
                  ⟨(some 40), none, (.ycall (.tmp 38) [(.tmp 39)])⟩,
                  ⟨(some 41), none, (.op (.not (.tmp 40)))⟩])
                (.cond (.tmp 41)
                  .ret
                  .skip)))))
              (.region none [
                ⟨(some 15), none, (.op (.mov (.tmp 6)))⟩,
                ⟨(some 16), none, (.op (.arith .add (.tmp 15) (.dat (.lit (.int .i64 1)))))⟩,
                ⟨(some 6), none, (.op (.mov (.tmp 16)))⟩]))))))))
        (.region none [
          ⟨(some 42), none, (.op (.arith .add (.tmp 8) (.dat (.lit (.int .i64 1)))))⟩,
          ⟨(some 8), none, (.op (.mov (.tmp 42)))⟩])))))))
  res := []
theorem c46 : CmpF Try.prog 46 a46 := chkF_cmp (F := Try.f46) (by kernel_rfl) mixed (by kernel_rfl)
/-- cmp.isNaN(int) -/
def a47 : AF where
  nt := 6
  body := (.seq (.region none [
      ⟨(some 2), none, (.op (.mov (.dat (.lit (.bool false)))))⟩])
    (.seq (.region none [
      ⟨(some 3), none, (.op (.mov (.tmp 0)))⟩,
      ⟨(some 4), none, (.op (.mov (.tmp 0)))⟩,
      ⟨(some 5), none, (.op (.arith .neq (.tmp 3) (.tmp 4)))⟩,
      ⟨(some 2), none, (.op (.mov (.tmp 5)))⟩])
    .ret))
  res := [.tmp 2]
theorem c47 : CmpF Try.prog 47 a47 := chkF_cmp (F := Try.f47) (by kernel_rfl) mixed (by kernel_rfl)
end Go.Proofs.Ytbfjmachkbhfnaa
end

section
namespace Go.Proofs.Ytbfjmachkbhfnaa
open Go Go.Proofs.Ytbfjmachkbhfnaa.AL
theorem site (n : Int) : PCall Try.prog 34 [dI n] (.ret (dB (decide (0 ≤ n) && decide (n < 24)))) := by
  refine pcall_of_vc noC c34 (by simp [a34]) fun hr => ?_
  simp [a34]
  refine vc_calls [] ?_
  simp
def cBetween (x y : Int) : D := .agg [dI (if y < x then y else x), dI (if y > x then y else x)]
theorem between (x y : Int) : PCall Try.prog 37 [dI x, dI y] (.ret (cBetween x y)) := by
  refine pcall_of_vc noC c37 (by simp [a37]) fun hr => ?_
  simp [a37, cBetween]
def cValid (x y : Int) : Bool := decide (0 ≤ x) && decide (x < y) && decide (y < 24)
theorem valid (x y : Int) : PCall Try.prog 32 [.agg [dI x, dI y]] (.ret (dB (cValid x y))) := by
  refine pcall_of_vc noC c32 (by simp [a32]) fun hr => ?_
  simp [a32]
  refine vc_calls [] ?_
  simp [cValid]
/-- The contracts at hand. -/
def T1 : FuncId → List D → Option Out
  | 34, [.lit (.int .i64 n)] => some (.ret (dB (decide (0 ≤ n) && decide (n < 24))))
  | 37, [.lit (.int .i64 x), .lit (.int .i64 y)] => some (.ret (cBetween x y))
  | 32, [.agg [.lit (.int .i64 x), .lit (.int .i64 y)]] => some (.ret (dB (cValid x y)))
  | _, _ => none
theorem hT1 : ∀ f ds out, T1 f ds = some out → PCall Try.prog f ds out := by
  intro f ds out h
  unfold T1 at h
  split at h
  · injection h with h; subst h; exact site _
  · injection h with h; subst h; exact between _ _
  · injection h with h; subst h; exact valid _ _
  · cases h
/-- A packet; links. -/
structure Pk where
  a : Int
  b : Int
  p : List UInt8
  deriving DecidableEq
structure Nt where
  q : List Pk
  c : List (Int × Int)
  deriving DecidableEq
def dP (x : Pk) : D := .agg [dI x.a, dI x.b, .sl 1 (x.p.map dU)]
def dL (x : Int × Int) : D := .agg [dI x.1, dI x.2]
def dN (n : Nt) : D := .agg [.sl 3 (n.q.map dP), .sl 2 (n.c.map dL)]
def okP (x : Pk) : Bool := cValid (if x.b < x.a then x.b else x.a) (if x.b > x.a then x.b else x.a) && decide ((x.p.length : Int) ≤ 1048576)

theorem packet (x : Pk) : PCall Try.prog 28 [dP x] (.ret (dB (okP x))) := by
  refine pcall_of_vc hT1 c28 (by simp [a28]) fun hr => ?_
  simp [a28, dP]
  refine vc_calls [.ret (cBetween x.a x.b), .ret (dB (cValid (if x.b < x.a then x.b else x.a) (if x.b > x.a then x.b else x.a)))] ?_
  simp [T1, cBetween, okP]

theorem dP_cells (x : Pk) : (dP x).cells = [dI x.a, dI x.b, .sl 1 (x.p.map dU)] := rfl
theorem dP_agg (x : Pk) : (dP x).isAgg = true := rfl
theorem dP_noTup (x : Pk) : (AV.d (dP x)).noTup = true := rfl
attribute [local simp] dP_cells dP_agg dP_noTup
theorem packet1 (x : Pk) : PCall Try.prog 31 [dP x] (.ret (dB (!okP x))) := by
  refine pcall_of_vc (C := fun f ds out => ∃ x, f = 28 ∧ ds = [dP x] ∧ out = .ret (dB (okP x))) (by rintro _ _ _ ⟨x, rfl, rfl, rfl⟩; exact packet x) c31 (by simp [a31]) fun hr => ?_
  simp [a31, dP]
  refine vc_calls [.ret (dB (okP x))] ?_
  simp
  exact ⟨x, ⟨rfl, rfl, rfl⟩, rfl⟩

theorem getD_map' {α β : Type} (f : α → β) (l : List α) (i : Nat) (d : β) (h : i < l.length) : (l.map f).getD i d = f l[i] := by simp [List.getD, h]

/-- The place of the first packet that is not valid. -/
theorem indexBad (l : List Pk) : PCall Try.prog 43 [.sl 3 (l.map dP), .fn (.func 31) [] []] (.ret (dI (match l.findIdx? (fun x => !okP x) with | some i => i | none => -1))) := by
  refine pcall_of_vc (C := fun f ds out => ∃ x, f = 31 ∧ ds = [dP x] ∧ out = .ret (dB (!okP x))) (by rintro _ _ _ ⟨x, rfl, rfl, rfl⟩; exact packet1 x) c43 (by simp [a43]) fun hr => ?_
  have hlen := (hr (.sl 3 (l.map dP)) (by simp)).sl.1
  simp at hlen
  simp [a43]
  refine vc_loopX Nat (fun i => ⟨[(0, true, .d (.sl 3 (l.map dP))), (1, true, .d (.fn (.func 31) [] [])), (7, true, .d (dI l.length)), (8, true, .d (dI i))], [], []⟩) (fun i => i ≤ l.length ∧ ∀ j, (h : j < i) → (h2 : j < l.length) → okP l[j] = true) (fun i => l.length - i) 0 (by simp) ⟨[], [], ?_⟩ (fun i hi => ?_)
  · simp [doms, subS, subH, subDs]
  · obtain ⟨h1, h2⟩ := hi
    simp
    refine ⟨fun hlt => ?_, fun hge => ?_⟩
    · refine vc_calls [.ret (dB (!okP l[i]))] ?_
      simp [hlt]
      refine ⟨⟨l[i], rfl, rfl⟩, ?_⟩
      refine ⟨fun hb => ?_, fun hb => ?_⟩
      · rw [findIdx_some hlt (by simpa using hb) (fun j hj => by simp [h2 j hj (by omega)])]
        exact LeD.refl _
      · refine ⟨i + 1, ⟨by omega, fun j hj hj2 => ?_⟩, by omega, [], [], ?_⟩
        · by_cases e : j = i
          · subst e; exact hb
          · exact h2 j (by omega) hj2
        · rw [wrap64 (by omega)]
          simp [doms, subS, subH, subDs]
    · rw [findIdx_none (fun j hj => by simp [h2 j (by omega) hj])]
      exact LeD.refl _
end Go.Proofs.Ytbfjmachkbhfnaa
end

section
namespace Go.Proofs.Ytbfjmachkbhfnaa
open Go Go.Proofs.Ytbfjmachkbhfnaa.AL
attribute [local simp] dP_cells dP_agg dP_noTup
def firstBad (l : List Pk) : Int := match l.findIdx? (fun x => !okP x) with | some i => i | none => -1
theorem containsBad (l : List Pk) : PCall Try.prog 30 [.sl 3 (l.map dP), .fn (.func 31) [] []] (.ret (dB (!l.all okP))) := by
  refine pcall_of_vc (C := fun f ds out => ∃ l, f = 43 ∧ ds = [.sl 3 (l.map dP), .fn (.func 31) [] []] ∧ out = .ret (dI (firstBad l))) (by rintro _ _ _ ⟨l, rfl, rfl, rfl⟩; exact indexBad l) c30 (by simp [a30]) fun hr => ?_
  simp [a30]
  refine vc_calls [.ret (dI (firstBad l))] ?_
  simp
  refine ⟨⟨l, rfl, rfl⟩, ?_⟩
  apply leD_of_eq
  congr 2
  unfold firstBad
  split
  · rename_i i h
    rw [List.findIdx?_eq_some_iff_getElem] at h
    obtain ⟨h1, h2, _⟩ := h
    have : l.all okP = false := by
      rw [List.all_eq_false]
      exact ⟨l[i], List.getElem_mem h1, by simpa using h2⟩
    simp [this]
  · rename_i h
    rw [List.findIdx?_eq_none_iff] at h
    have : l.all okP = true := by
      rw [List.all_eq_true]
      intro x hx
      simpa using h x hx
    simp [this]
theorem isNaN (x : Int) : PCall Try.prog 47 [dI x] (.ret (dB false)) := by
  refine pcall_of_vc noC c47 (by simp [a47]) fun hr => ?_
  simp [a47]
theorem cmpInt (x y : Int) : PCall Try.prog 44 [dI x, dI y] (.ret (dI (if x < y then -1 else if x > y then 1 else 0))) := by
  refine pcall_of_vc (C := fun f ds out => ∃ x, f = 47 ∧ ds = [dI x] ∧ out = .ret (dB false)) (by rintro _ _ _ ⟨l, rfl, rfl, rfl⟩; exact isNaN l) c44 (by simp [a44]) fun hr => ?_
  simp [a44]
  refine vc_calls [.ret (dB false)] ?_
  simp
  refine vc_calls [.ret (dB false)] ?_
  simp
  refine ⟨fun h => leD_of_eq (by simp [h]), fun h => ⟨fun h2 => leD_of_eq (by simp [h2]; omega), fun h2 => leD_of_eq (by simp; omega)⟩⟩
end Go.Proofs.Ytbfjmachkbhfnaa
end

section
namespace Go.Proofs.Ytbfjmachkbhfnaa
open Go Go.Proofs.Ytbfjmachkbhfnaa.AL
attribute [local simp] dP_cells dP_agg dP_noTup
def cmpL : List Int → List Int → Int
  | [], [] => 0
  | [], _ :: _ => -1
  | _ :: _, [] => 1
  | x :: xs, y :: ys => if x < y then -1 else if x > y then 1 else cmpL xs ys
theorem cmpL_drop {s t : List Int} {i : Nat} (h1 : i < s.length) (h2 : i < t.length) : cmpL (s.drop i) (t.drop i) = if s[i] < t[i] then -1 else if s[i] > t[i] then 1 else cmpL (s.drop (i + 1)) (t.drop (i + 1)) := by
  rw [List.drop_eq_getElem_cons h1, List.drop_eq_getElem_cons h2]
  rfl
set_option maxRecDepth 4000 in
theorem compare (s t : List Int) : PCall Try.prog 33 [.sl 1 (s.map dI), .sl 1 (t.map dI)] (.ret (dI (cmpL s t))) := by
  refine pcall_of_vc (C := fun f ds out => ∃ x y, f = 44 ∧ ds = [dI x, dI y] ∧ out = .ret (dI (if x < y then -1 else if x > y then 1 else 0))) (by rintro _ _ _ ⟨x, y, rfl, rfl, rfl⟩; exact cmpInt x y) c33 (by simp [a33]) fun hr => ?_
  have hlen := (hr (.sl 1 (s.map dI)) (by simp)).sl.1
  have hlen2 := (hr (.sl 1 (t.map dI)) (by simp)).sl.1
  simp at hlen hlen2
  simp [a33, -dI]
  refine vc_loopX Nat (fun i => ⟨[(0, true, .d (.sl 1 (s.map dI))), (1, true, .d (.sl 1 (t.map dI))), (9, true, .d (.sl 1 (s.map dI))), (10, true, .d (.lit (.int .i64 s.length))), (11, true, .d (.lit (.int .i64 i)))], [], []⟩) (fun i => i ≤ s.length ∧ i ≤ t.length ∧ cmpL (s.drop i) (t.drop i) = cmpL s t) (fun i => s.length - i) 0 (by simp) ⟨[], [], ?_⟩ (fun i hi => ?_)
  · simp [doms, subS, subH, subDs]
  · obtain ⟨h1, h2, h3⟩ := hi
    simp [-dI]
    refine ⟨fun hlt => ?_, fun hge => ?_⟩
    · simp [hlt]
      refine ⟨fun hle => ?_, fun hlt2 => ?_⟩
      · apply leD_of_eq
        have : i = t.length := by omega
        subst this
        rw [← h3, List.drop_length, List.drop_eq_getElem_cons hlt]; rfl
      · simp [hlt2]
        refine vc_calls [.ret (dI (if s[i] < t[i] then -1 else if s[i] > t[i] then 1 else 0))] ?_
        simp
        refine ⟨⟨s[i], t[i], ⟨rfl, rfl⟩, rfl⟩, ?_⟩
        have hd := cmpL_drop hlt hlt2
        rw [h3] at hd
        refine ⟨fun hne => ?_, fun he => ?_⟩
        · apply leD_of_eq
          rw [hd]
          split at hne
          · rename_i h; simp [h]
          · split at hne
            · rename_i h h'; simp [h, h']
            · simp at hne
        · have e1 : ¬ s[i] < t[i] := fun h => by simp [h] at he
          have e2 : ¬ t[i] < s[i] := fun h => by simp [e1, h] at he
          refine ⟨i + 1, ⟨by omega, by omega, ?_⟩, by omega, [], [], ?_⟩
          · rw [hd]; simp [e1, e2]
          · rw [wrap64 (by omega)]
            simp [doms, subS, subH, subDs]
    · have : i = s.length := by omega
      subst this
      rw [List.drop_length] at h3
      refine ⟨fun hlt2 => leD_of_eq ?_, fun hle => leD_of_eq ?_⟩
      · rw [← h3, List.drop_eq_getElem_cons hlt2]; rfl
      · rw [← h3, List.drop_eq_nil_of_le hle]; rfl
end Go.Proofs.Ytbfjmachkbhfnaa
end

section
namespace Go.Proofs.Ytbfjmachkbhfnaa
open Go Go.Proofs.Ytbfjmachkbhfnaa.AL
attribute [local simp] dP_cells dP_agg dP_noTup
theorem dL_cells (x : Int × Int) : (dL x).cells = [dI x.1, dI x.2] := rfl
theorem dL_agg (x : Int × Int) : (dL x).isAgg = true := rfl
theorem dL_noTup (x : Int × Int) : (AV.d (dL x)).noTup = true := rfl
attribute [local simp] dL_cells dL_agg dL_noTup
def cAt (c : List (Int × Int)) (i : Nat) : Bool :=
  cValid (c.getD i default).1 (c.getD i default).2 && (i == 0 || decide (cmpL [(c.getD (i - 1) default).1, (c.getD (i - 1) default).2] [(c.getD i default).1, (c.getD i default).2] < 0))
def okC (c : List (Int × Int)) : Bool := (List.range c.length).all (cAt c)
def okNt (n : Nt) : Bool := decide ((n.q.length : Int) ≤ 4096) && (n.q.all okP && okC n.c)
def eNet (n : Nt) : Int := if okNt n then 0 else 60
inductive CCheck : FuncId → List D → Out → Prop
  | bad (l : List Pk) : CCheck 30 [.sl 3 (l.map dP), .fn (.func 31) [] []] (.ret (dB (!l.all okP)))
  | valid (x : Int × Int) : CCheck 32 [dL x] (.ret (dB (cValid x.1 x.2)))
  | cmp (x y : Int × Int) : CCheck 33 [.sl 1 (dL x).cells, .sl 1 (dL y).cells] (.ret (dI (cmpL [x.1, x.2] [y.1, y.2])))
theorem hCheck : ∀ f ds out, CCheck f ds out → PCall Try.prog f ds out := by
  intro f ds out h
  cases h with
  | bad l => exact containsBad l
  | valid x => exact valid x.1 x.2
  | cmp x y => exact compare [x.1, x.2] [y.1, y.2]
set_option maxRecDepth 4000 in
theorem check (n : Nt) : PCall Try.prog 13 [dN n] (.ret (dI (eNet n))) := by
  refine pcall_of_vc hCheck c13 (by simp [a13]) fun hr => ?_
  have hl1 := (hr (dN n) (by simp)).agg (.sl 2 (n.c.map dL)) (by simp [dN])
  have hlen := hl1.2.sl.1
  simp at hlen
  simp [a13, dN, -dI, -dB]
  refine vc_calls [.ret (dB (!n.q.all okP))] ?_
  simp [-dI]
  refine ⟨fun h => ⟨h, .bad n.q⟩, fun hb => ?_, fun h1 h2 => ?_⟩
  · apply leD_of_eq
    have : okNt n = false := by
      unfold okNt
      rcases hb with h | h
      · simp [show ¬ ((n.q.length : Int) ≤ 4096) by omega]
      · have : n.q.all okP = false := by simpa using h
        simp [this]
    simp [eNet, this]
  · refine vc_loopX Nat (fun i => ⟨[(1, true, .ptr 0 0), (15, true, .d (.sl 2 (n.c.map dL))), (16, true, .d (.lit (.int .i64 n.c.length))), (17, true, .d (.lit (.int .i64 i)))], [(0, .box true [.d (.sl 3 (n.q.map dP)), .d (.sl 2 (n.c.map dL))])], []⟩) (fun i => i ≤ n.c.length ∧ ∀ j, j < i → cAt n.c j = true) (fun i => n.c.length - i) 0 (by simp) ⟨[], [], ?_⟩ (fun i hi => ?_)
    · simp [doms, subS, subH, subDs, rho, assocN, newN, okN]
    · obtain ⟨h3, h4⟩ := hi
      simp [-dI, -dB]
      refine ⟨fun hlt => ?_, fun hge => ?_⟩
      · simp [hlt, -dI, -dB]
        cases i with
        | zero =>
          refine vc_callsD [.ret (dB (cValid n.c[0].1 n.c[0].2)), .ret (dI 0)] ?_
          simp
          refine ⟨.valid n.c[0], .lit _, rfl, ?_⟩
          refine ⟨fun hb => leD_of_eq ?_, fun hb => ⟨1, ⟨by omega, fun j hj => ?_⟩, by omega, [], [], ?_⟩⟩
          · have : okNt n = false := by
              have : okC n.c = false := by
                rw [okC, List.all_eq_false]
                exact ⟨0, by simpa using hlt, by simp [cAt, hlt, hb]⟩
              simp [okNt, this]
            simp [eNet, this]
          · have : j = 0 := by omega
            subst this
            simp [cAt, hlt, hb]
          · rw [wrap64 (by omega)]
            simp [doms, subS, subH, subDs, rho, assocN, newN, okN]
        | succ i =>
          have hi : i < n.c.length := by omega
          have hw : IntKind.i64.wrap (i : Int) = i := wrap64 (by omega)
          refine vc_callsD [.ret (dB (cValid n.c[i + 1].1 n.c[i + 1].2)), .ret (dI (cmpL [n.c[i].1, n.c[i].2] [n.c[i + 1].1, n.c[i + 1].2]))] ?_
          simp [hw, hi, hlt]
          refine ⟨.valid n.c[i + 1], fun hv => ⟨hv, .cmp n.c[i] n.c[i + 1]⟩, .lit _, rfl, ?_⟩
          have hc : cAt n.c (i + 1) = (cValid n.c[i + 1].1 n.c[i + 1].2 && decide (cmpL [n.c[i].1, n.c[i].2] [n.c[i + 1].1, n.c[i + 1].2] < 0)) := by
            simp [cAt, hlt, hi]
          refine ⟨fun hb => leD_of_eq ?_, fun hb hb2 => ⟨i + 2, ⟨by omega, fun j hj => ?_⟩, by omega, [], [], ?_⟩⟩
          · have : okNt n = false := by
              have : okC n.c = false := by
                rw [okC, List.all_eq_false]
                refine ⟨i + 1, by simpa using hlt, ?_⟩
                rw [hc]
                rcases hb with h | h
                · simp [h]
                · simp [show ¬ cmpL [n.c[i].1, n.c[i].2] [n.c[i + 1].1, n.c[i + 1].2] < 0 by omega]
              simp [okNt, this]
            simp [eNet, this]
          · by_cases e : j = i + 1
            · subst e
              rw [hc]; simp [hb, hb2]
            · exact h4 j (by omega)
          · rw [wrap64 (by omega)]
            simp [doms, subS, subH, subDs, rho, assocN, newN, okN]
            exact leD_of_eq (by congr 2)
      · apply leD_of_eq
        have : okNt n = true := by
          have : okC n.c = true := by
            rw [okC, List.all_eq_true]
            intro x hx
            exact h4 x (by simp at hx; omega)
          simp [okNt, this, h1]
          exact h2
        simp [eNet, this]
end Go.Proofs.Ytbfjmachkbhfnaa
end
