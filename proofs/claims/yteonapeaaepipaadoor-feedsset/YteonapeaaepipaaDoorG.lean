/- Part of the proof: S1p1. -/
import Derived.Test.YteonapeaaepipaaDoorProg
import Derived.KernelRfl
import Derived.Test.YteonapeaaepipaaDoorF
set_option linter.unnecessarySimpa false
set_option linter.unusedVariables false
set_option linter.unusedSimpArgs false
section
namespace Go.Proofs.YteonapeaaepipaaDoor
open Go Go.Proofs.YteonapeaaepipaaDoor.AL
theorem mixed : Tryd.prog.follows .mixedOrders = true := by kernel_rfl
/-- hansard/hansardlaw18.FeedsSpec -/
def a8 : AF where
  nt := 51
  body := (.seq (.region none [
      ⟨(some 2), none, (.op (.box true (.tmp 0)))⟩,
      ⟨(some 3), none, (.op (.box true (.tmp 1)))⟩,
      ⟨(some 4), none, (.op (.mov (.dat (.lit (.bool false)))))⟩])
    (.seq (.seq (.region none [
      ⟨(some 9), none, (.call (.dat (.fn (.func 27) [] [])) [])⟩,
      ⟨(some 10), none, (.op (.not (.tmp 9)))⟩])
    (.cond (.tmp 10)
      (.seq (.region none [
        ⟨(some 4), none, (.op (.mov (.dat (.lit (.bool false)))))⟩])
      .ret)
      .skip))
    (.seq (.seq (.region none [
      ⟨(some 11), none, (.op (.load 5 true (.tmp 2)))⟩,
      ⟨(some 12), none, (.call (.dat (.fn (.func 28) [] [])) [(.tmp 11)])⟩,
      ⟨(some 13), none, (.op (.not (.tmp 12)))⟩,
      ⟨(some 14), none, (.op (.mov (.tmp 13)))⟩,
      ⟨(some 15), (some (14, false)), (.op (.load 6 true (.tmp 3)))⟩,
      ⟨(some 16), (some (14, false)), (.call (.dat (.fn (.func 29) [] [])) [(.tmp 15)])⟩,
      ⟨(some 17), (some (14, false)), (.op (.not (.tmp 16)))⟩,
      ⟨(some 18), none, (.op (.pick (.tmp 14) (.dat (.lit (.bool true))) (.tmp 17)))⟩])
    (.cond (.tmp 18)
      (.seq (.region none [
        ⟨(some 4), none, (.op (.mov (.dat (.lit (.bool true)))))⟩])
      .ret)
      .skip))
    (.seq (.region none [
      ⟨(some 20), none, (.op (.load 5 true (.tmp 2)))⟩,
      ⟨(some 21), none, (.op (.load 6 true (.tmp 3)))⟩,
      ⟨(some 22), none, (.call (.dat (.fn (.func 30) [] [])) [(.tmp 20), (.tmp 21)])⟩,
      ⟨(some 19), none, (.op (.mov (.tmp 22)))⟩,
      ⟨(some 23), none, (.op (.extract (.tmp 19) 0))⟩,
      ⟨(some 24), none, (.op (.extract (.tmp 19) 1))⟩,
      ⟨(some 5), none, (.op (.alloc true [.lit (.int .i64 0), .nil 6, .nil 5, .lit (.int .i64 0), .lit (.int .i64 0)]))⟩,
      ⟨none, none, (.op (.store 5 (.tmp 5) (.tmp 23)))⟩,
      ⟨(some 6), none, (.op (.mov (.tmp 24)))⟩])
    (.seq (.region none [
      ⟨(some 26), none, (.op (.load 5 true (.tmp 2)))⟩,
      ⟨(some 27), none, (.op (.load 6 true (.tmp 3)))⟩,
      ⟨(some 28), none, (.call (.dat (.fn (.func 31) [] [])) [(.tmp 26), (.tmp 27)])⟩,
      ⟨(some 25), none, (.op (.mov (.tmp 28)))⟩,
      ⟨(some 29), none, (.op (.extract (.tmp 25) 0))⟩,
      ⟨(some 30), none, (.op (.extract (.tmp 25) 1))⟩,
      ⟨(some 7), none, (.op (.alloc true [.lit (.int .i64 0), .nil 6, .nil 5, .lit (.int .i64 0), .lit (.int .i64 0)]))⟩,
      ⟨none, none, (.op (.store 5 (.tmp 7) (.tmp 29)))⟩,
      ⟨(some 8), none, (.op (.mov (.tmp 30)))⟩])
    (.seq (.region (some [[], [0], [0, 1], [0, 1, 2], [0, 1, 2, 3], [0, 1, 2, 3, 4], [0, 1, 2, 3], [0, 1, 2, 3, 4, 5, 6], [0, 1, 2, 3, 4, 5, 6, 7], [0, 1, 2, 3, 4, 5, 6, 7, 8], [0, 1, 2, 3, 4, 5, 6, 7, 8, 9], [0, 1, 2, 3, 4, 5, 6, 7, 8, 9, 10], [0, 1, 2, 3, 4, 5, 6, 7, 8, 9, 10], [0, 1, 2, 3, 4, 5, 6, 7, 8, 9, 10, 11, 12], [0, 1, 2, 3, 4, 5, 6, 7, 8, 9, 10, 11, 12, 13], [0, 1, 2, 3, 4, 5, 6, 7, 8, 9, 10, 11, 12, 13, 14], [0, 1, 2, 3, 4, 5, 6, 7, 8, 9, 10, 11, 12, 13, 14, 15], [0, 1, 2, 3, 4, 5, 6, 7, 8, 9, 10, 11, 12, 13, 14, 15], [0, 1, 2, 3, 4, 5, 6, 7, 8, 9, 10, 11, 12, 13, 14, 15, 16, 17], [0, 1, 2, 3, 4, 5, 6, 7, 8, 9, 10, 11, 12, 13, 14, 15, 16, 17, 18], [0, 1, 2, 3, 4, 5, 6, 7, 8, 9, 10, 11, 12, 13, 14, 15, 16, 17, 18, 19]]) [
      ⟨(some 31), none, (.call (.dat (.fn (.func 33) [] [])) [])⟩,
      ⟨(some 32), none, (.call (.dat (.fn (.func 34) [] [])) [])⟩,
      ⟨(some 33), none, (.call (.dat (.fn (.func 32) [] [])) [(.tmp 31), (.tmp 32)])⟩,
      ⟨(some 34), none, (.op (.mov (.tmp 33)))⟩,
      ⟨(some 35), (some (34, true)), (.op (.load 5 true (.tmp 2)))⟩,
      ⟨(some 36), (some (34, true)), (.call (.dat (.fn (.func 35) [] [])) [(.tmp 35)])⟩,
      ⟨(some 37), (some (34, true)), (.op (.load 5 true (.tmp 2)))⟩,
      ⟨(some 38), (some (34, true)), (.call (.dat (.fn (.func 36) [] [])) [(.tmp 37)])⟩,
      ⟨(some 39), (some (34, true)), (.op (.arith .eql (.tmp 36) (.tmp 38)))⟩,
      ⟨(some 40), none, (.op (.pick (.tmp 34) (.tmp 39) (.dat (.lit (.bool false)))))⟩,
      ⟨(some 41), none, (.op (.mov (.tmp 40)))⟩,
      ⟨(some 42), (some (41, true)), (.op (.load 5 true (.tmp 5)))⟩,
      ⟨(some 43), (some (41, true)), (.op (.load 5 true (.tmp 7)))⟩,
      ⟨(some 44), (some (41, true)), (.call (.dat (.fn (.func 32) [] [])) [(.tmp 42), (.tmp 43)])⟩,
      ⟨(some 45), none, (.op (.pick (.tmp 41) (.tmp 44) (.dat (.lit (.bool false)))))⟩,
      ⟨(some 46), none, (.op (.mov (.tmp 45)))⟩,
      ⟨(some 47), (some (46, true)), (.op (.mov (.tmp 6)))⟩,
      ⟨(some 48), (some (46, true)), (.op (.mov (.tmp 8)))⟩,
      ⟨(some 49), (some (46, true)), (.op (.arith .eql (.tmp 47) (.tmp 48)))⟩,
      ⟨(some 50), none, (.op (.pick (.tmp 46) (.tmp 49) (.dat (.lit (.bool false)))))⟩,
      ⟨(some 4), none, (.op (.mov (.tmp 50)))⟩])
    .ret))))))
  res := [.tmp 4]
theorem c8 : CmpF Tryd.prog 8 a8 := chkF_cmp (F := Tryd.f8) (by kernel_rfl) mixed (by kernel_rfl)
/-- hansard/hansardlaw18.FeedsMissingSpec -/
def a9 : AF where
  nt := 79
  body := (.seq (.region none [
      ⟨(some 1), none, (.op (.box true (.tmp 0)))⟩,
      ⟨(some 2), none, (.op (.mov (.dat (.lit (.bool false)))))⟩])
    (.seq (.seq (.region none [
      ⟨(some 8), none, (.call (.dat (.fn (.func 27) [] [])) [])⟩,
      ⟨(some 9), none, (.op (.not (.tmp 8)))⟩])
    (.cond (.tmp 9)
      (.seq (.region none [
        ⟨(some 2), none, (.op (.mov (.dat (.lit (.bool false)))))⟩])
      .ret)
      .skip))
    (.seq (.seq (.region none [
      ⟨(some 10), none, (.op (.load 5 true (.tmp 1)))⟩,
      ⟨(some 11), none, (.call (.dat (.fn (.func 28) [] [])) [(.tmp 10)])⟩,
      ⟨(some 12), none, (.op (.not (.tmp 11)))⟩])
    (.cond (.tmp 12)
      (.seq (.region none [
        ⟨(some 2), none, (.op (.mov (.dat (.lit (.bool true)))))⟩])
      .ret)
      .skip))
    (.seq (.region none [
      ⟨(some 14), none, (.op (.load 5 true (.tmp 1)))⟩,
      ⟨(some 15), none, (.call (.dat (.fn (.func 37) [] [])) [(.tmp 14)])⟩,
      ⟨(some 13), none, (.op (.mov (.tmp 15)))⟩,
      ⟨(some 16), none, (.op (.extract (.tmp 13) 0))⟩,
      ⟨(some 17), none, (.op (.extract (.tmp 13) 1))⟩,
      ⟨(some 3), none, (.op (.mov (.tmp 16)))⟩,
      ⟨(some 4), none, (.op (.mov (.tmp 17)))⟩])
    (.seq (.region none [
      ⟨(some 19), none, (.op (.load 5 true (.tmp 1)))⟩,
      ⟨(some 20), none, (.call (.dat (.fn (.func 38) [] [])) [(.tmp 19)])⟩,
      ⟨(some 18), none, (.op (.mov (.tmp 20)))⟩,
      ⟨(some 21), none, (.op (.extract (.tmp 18) 0))⟩,
      ⟨(some 22), none, (.op (.extract (.tmp 18) 1))⟩,
      ⟨(some 5), none, (.op (.mov (.tmp 21)))⟩,
      ⟨(some 6), none, (.op (.mov (.tmp 22)))⟩])
    (.seq (.seq (.region none [
      ⟨(some 23), none, (.op (.mov (.tmp 3)))⟩,
      ⟨(some 24), none, (.op (.mov (.tmp 5)))⟩,
      ⟨(some 25), none, (.call (.dat (.fn (.func 39) [] [])) [(.tmp 23), (.tmp 24)])⟩,
      ⟨(some 26), none, (.op (.not (.tmp 25)))⟩,
      ⟨(some 27), none, (.op (.mov (.tmp 26)))⟩,
      ⟨(some 28), (some (27, false)), (.op (.mov (.tmp 4)))⟩,
      ⟨(some 29), (some (27, false)), (.op (.mov (.tmp 6)))⟩,
      ⟨(some 30), (some (27, false)), (.op (.arith .neq (.tmp 28) (.tmp 29)))⟩,
      ⟨(some 31), none, (.op (.pick (.tmp 27) (.dat (.lit (.bool true))) (.tmp 30)))⟩])
    (.cond (.tmp 31)
      (.seq (.region none [
        ⟨(some 2), none, (.op (.mov (.dat (.lit (.bool false)))))⟩])
      .ret)
      .skip))
    (.seq (.seq (.region none [
      ⟨(some 32), none, (.op (.mov (.tmp 4)))⟩,
      ⟨(some 33), none, (.op (.arith .neq (.tmp 32) (.dat (.lit (.int .i64 0)))))⟩])
    (.cond (.tmp 33)
      (.seq (.region none [
        ⟨(some 34), none, (.op (.mov (.tmp 3)))⟩,
        ⟨(some 35), none, (.op (.len (.tmp 34)))⟩,
        ⟨(some 36), none, (.op (.arith .eql (.tmp 35) (.dat (.lit (.int .i64 0)))))⟩,
        ⟨(some 2), none, (.op (.mov (.tmp 36)))⟩])
      .ret)
      .skip))
    (.seq (.region none [
      ⟨(some 37), none, (.op (.field 0 1 false (.tmp 1)))⟩,
      ⟨(some 38), none, (.op (.load 1 false (.tmp 37)))⟩,
      ⟨(some 7), none, (.op (.mov (.tmp 38)))⟩])
    (.seq (.block 0
      (.loop
        (.seq (.seq (.region none [
          ⟨(some 39), none, (.op (.mov (.tmp 3)))⟩,
          ⟨(some 40), none, (.op (.len (.tmp 39)))⟩,
          ⟨(some 41), none, (.op (.field 1 1 false (.tmp 1)))⟩,
          ⟨(some 42), none, (.op (.load 1 false (.tmp 41)))⟩,
          ⟨(some 43), none, (.op (.len (.tmp 42)))⟩,
          ⟨(some 44), none, (.op (.arith .add (.tmp 40) (.tmp 43)))⟩,
          ⟨(some 45), none, (.op (.arith .gtr (.tmp 44) (.dat (.lit (.int .i64 0)))))⟩])
        (.cond (.tmp 45)
          .skip
          (.exit 0)))
        (.block 1
          (.seq (.block 2
            (.seq (.region none [
              ⟨(some 47), none, (.op (.mov (.tmp 3)))⟩,
              ⟨(some 48), none, (.op (.len (.tmp 47)))⟩,
              ⟨(some 49), none, (.op (.arith .gtr (.tmp 48) (.dat (.lit (.int .i64 0)))))⟩,
              ⟨(some 50), none, (.op (.mov (.tmp 49)))⟩,
              ⟨(some 51), (some (50, true)), (.op (.mov (.tmp 3)))⟩,
              ⟨(some 52), (some (50, true)), (.op (.index 1 (.tmp 51) (.dat (.lit (.int .i64 0)))))⟩,
              ⟨(some 53), (some (50, true)), (.op (.load 1 false (.tmp 52)))⟩,
              ⟨(some 54), (some (50, true)), (.op (.mov (.tmp 7)))⟩,
              ⟨(some 55), (some (50, true)), (.op (.arith .eql (.tmp 53) (.tmp 54)))⟩,
              ⟨(some 56), none, (.op (.pick (.tmp 50) (.tmp 55) (.dat (.lit (.bool false)))))⟩,
              ⟨(some 46), none, (.op (.mov (.tmp 56)))⟩])
            (.cond (.tmp 46)
              (.region none [
                ⟨(some 57), none, (.op (.mov (.tmp 3)))⟩,
                ⟨(some 58), none, (.op (.slice 1 (.tmp 57) (some (.dat (.lit (.int .i64 1)))) none))⟩,
                ⟨(some 3), none, (.op (.mov (.tmp 58)))⟩])
              (.seq (.region none [
                ⟨(some 60), none, (.op (.field 1 1 false (.tmp 1)))⟩,
                ⟨(some 61), none, (.op (.load 1 false (.tmp 60)))⟩,
                ⟨(some 62), none, (.op (.len (.tmp 61)))⟩,
                ⟨(some 63), none, (.op (.arith .gtr (.tmp 62) (.dat (.lit (.int .i64 0)))))⟩,
                ⟨(some 64), none, (.op (.mov (.tmp 63)))⟩,
                ⟨(some 65), (some (64, true)), (.op (.field 1 1 false (.tmp 1)))⟩,
                ⟨(some 66), (some (64, true)), (.op (.load 1 false (.tmp 65)))⟩,
                ⟨(some 67), (some (64, true)), (.op (.index 6 (.tmp 66) (.dat (.lit (.int .i64 0)))))⟩,
                ⟨(some 68), (some (64, true)), (.op (.field 0 1 false (.tmp 67)))⟩,
                ⟨(some 69), (some (64, true)), (.op (.load 1 false (.tmp 68)))⟩,
                ⟨(some 70), (some (64, true)), (.op (.mov (.tmp 7)))⟩,
                ⟨(some 71), (some (64, true)), (.op (.arith .eql (.tmp 69) (.tmp 70)))⟩,
                ⟨(some 72), none, (.op (.pick (.tmp 64) (.tmp 71) (.dat (.lit (.bool false)))))⟩,
                ⟨(some 59), none, (.op (.mov (.tmp 72)))⟩])
              (.cond (.tmp 59)
                (.region none [
                  ⟨(some 73), none, (.op (.field 1 1 false (.tmp 1)))⟩,
                  ⟨(some 74), none, (.op (.load 1 false (.tmp 73)))⟩,
                  ⟨(some 75), none, (.op (.slice 6 (.tmp 74) (some (.dat (.lit (.int .i64 1)))) none))⟩,
                  ⟨(some 76), none, (.op (.field 1 1 false (.tmp 1)))⟩,
                  ⟨none, none, (.op (.store 1 (.tmp 76) (.tmp 75)))⟩])
                (.seq (.region none [
                  ⟨(some 2), none, (.op (.mov (.dat (.lit (.bool false)))))⟩])
                .ret))))))
          (.region none [
            ⟨(some 77), none, (.op (.mov (.tmp 7)))⟩,
            ⟨(some 78), none, (.op (.arith .add (.tmp 77) (.dat (.lit (.int .i64 1)))))⟩,
            ⟨(some 7), none, (.op (.mov (.tmp 78)))⟩]))))))
    (.seq (.region none [
      ⟨(some 2), none, (.op (.mov (.dat (.lit (.bool true)))))⟩])
    .ret))))))))))
  res := [.tmp 2]
theorem c9 : CmpF Tryd.prog 9 a9 := chkF_cmp (F := Tryd.f9) (by kernel_rfl) mixed (by kernel_rfl)
/-- hansard/hansardlaw18.FeedsOrder -/
def a10 : AF where
  nt := 123
  body := (.seq (.region none [
      ⟨(some 4), none, (.op (.mov (.dat (.lit (.bool false)))))⟩])
    (.seq (.seq (.region none [
      ⟨(some 18), none, (.call (.dat (.fn (.func 27) [] [])) [])⟩,
      ⟨(some 19), none, (.op (.not (.tmp 18)))⟩])
    (.cond (.tmp 19)
      (.seq (.region none [
        ⟨(some 4), none, (.op (.mov (.dat (.lit (.bool false)))))⟩])
      .ret)
      .skip))
    (.seq (.region none [
      ⟨(some 21), none, (.op (.mov (.tmp 0)))⟩,
      ⟨(some 22), none, (.call (.dat (.fn (.func 40) [] [])) [(.tmp 21)])⟩,
      ⟨(some 20), none, (.op (.mov (.tmp 22)))⟩,
      ⟨(some 23), none, (.op (.extract (.tmp 20) 0))⟩,
      ⟨(some 24), none, (.op (.extract (.tmp 20) 1))⟩,
      ⟨(some 5), none, (.op (.mov (.tmp 23)))⟩,
      ⟨(some 6), none, (.op (.mov (.tmp 24)))⟩])
    (.seq (.seq (.region none [
      ⟨(some 25), none, (.op (.mov (.tmp 6)))⟩,
      ⟨(some 26), none, (.op (.not (.tmp 25)))⟩,
      ⟨(some 27), none, (.op (.mov (.tmp 26)))⟩,
      ⟨(some 28), (some (27, false)), (.op (.mov (.tmp 1)))⟩,
      ⟨(some 29), (some (27, false)), (.op (.len (.tmp 28)))⟩,
      ⟨(some 30), (some (27, false)), (.op (.arith .gtr (.tmp 29) (.dat (.lit (.int .i64 60)))))⟩,
      ⟨(some 31), none, (.op (.pick (.tmp 27) (.dat (.lit (.bool true))) (.tmp 30)))⟩])
    (.cond (.tmp 31)
      (.seq (.region none [
        ⟨(some 4), none, (.op (.mov (.dat (.lit (.bool true)))))⟩])
      .ret)
      .skip))
    (.seq (.region none [
      ⟨(some 32), none, (.call (.dat (.fn (.func 33) [] [])) [])⟩,
      ⟨(some 33), none, (.op (.build [.nil 5, .lit (.int .i64 0)] []))⟩,
      ⟨(some 7), none, (.op (.alloc true [.lit (.int .i64 0), .nil 6, .nil 5, .lit (.int .i64 0), .lit (.int .i64 0)]))⟩,
      ⟨(some 8), none, (.op (.alloc true [.nil 5, .lit (.int .i64 0)]))⟩,
      ⟨none, none, (.op (.store 5 (.tmp 7) (.tmp 32)))⟩,
      ⟨none, none, (.op (.store 2 (.tmp 8) (.tmp 33)))⟩,
      ⟨(some 9), none, (.op (.mov (.dat (.lit (.int .i64 0)))))⟩])
    (.seq (.seq (.region none [
      ⟨(some 34), none, (.op (.mov (.tmp 1)))⟩,
      ⟨(some 35), none, (.op (.len (.tmp 34)))⟩,
      ⟨(some 36), none, (.op (.mov (.tmp 5)))⟩,
      ⟨(some 37), none, (.op (.len (.tmp 36)))⟩,
      ⟨(some 38), none, (.op (.arith .add (.tmp 35) (.tmp 37)))⟩,
      ⟨(some 39), none, (.op (.mov (.dat (.lit (.int .i64 0)))))⟩])
    (.block 0
      (.loop
        (.seq (.region none [
          ⟨(some 40), none, (.op (.arith .lss (.tmp 39) (.tmp 38)))⟩])
        (.seq (.cond (.tmp 40)
          .skip
          (.exit 0))
        (.seq (.block 1
          (.seq (.region none [
            ⟨(some 41), none, (.op (.mov (.tmp 39)))⟩,
            ⟨(some 10), none, (.op (.mov (.tmp 41)))⟩])
          (.seq (.region none [
            ⟨(some 42), none, (.op (.mov (.tmp 10)))⟩,
            ⟨(some 43), none, (.op (.mov (.tmp 1)))⟩,
            ⟨(some 44), none, (.op (.len (.tmp 43)))⟩,
            ⟨(some 45), none, (.op (.arith .sub (.tmp 42) (.tmp 44)))⟩,
            ⟨(some 11), none, (.op (.mov (.tmp 45)))⟩])
          (.seq (.seq (.region none [
            ⟨(some 46), none, (.op (.mov (.tmp 11)))⟩,
            ⟨(some 47), none, (.op (.arith .lss (.tmp 46) (.dat (.lit (.int .i64 0)))))⟩,
            ⟨(some 48), none, (.op (.mov (.tmp 47)))⟩,
            ⟨(some 49), (some (48, true)), (.op (.mov (.tmp 5)))⟩,
            ⟨(some 50), (some (48, true)), (.op (.len (.tmp 49)))⟩,
            ⟨(some 51), (some (48, true)), (.op (.arith .gtr (.tmp 50) (.dat (.lit (.int .i64 0)))))⟩,
            ⟨(some 52), none, (.op (.pick (.tmp 48) (.tmp 51) (.dat (.lit (.bool false)))))⟩])
          (.cond (.tmp 52)
            (.region none [
              ⟨(some 53), none, (.op (.mov (.tmp 1)))⟩,
              ⟨(some 54), none, (.op (.mov (.tmp 10)))⟩,
              ⟨(some 55), none, (.op (.index 1 (.tmp 53) (.tmp 54)))⟩,
              ⟨(some 56), none, (.op (.load 1 false (.tmp 55)))⟩,
              ⟨(some 57), none, (.op (.conv .i64 (.tmp 56)))⟩,
              ⟨(some 58), none, (.op (.mov (.tmp 5)))⟩,
              ⟨(some 59), none, (.op (.len (.tmp 58)))⟩,
              ⟨(some 60), none, (.op (.arith .rem (.tmp 57) (.tmp 59)))⟩,
              ⟨(some 11), none, (.op (.mov (.tmp 60)))⟩])
            .skip))
          (.seq (.seq (.region none [
            ⟨(some 61), none, (.op (.mov (.tmp 11)))⟩,
            ⟨(some 62), none, (.op (.arith .lss (.tmp 61) (.dat (.lit (.int .i64 0)))))⟩])
          (.cond (.tmp 62)
            (.exit 1)
            .skip))
          (.seq (.region (some [[], [], [], [1, 2], [1, 2, 3], [0, 1, 2, 3, 4], [0, 1, 2, 3, 4, 5], [0, 1, 2, 3, 4, 5, 6], [0, 1, 2, 3, 4, 5, 6], [], [0, 1, 2, 3, 4, 5, 6, 7, 9], [0, 1, 2, 3, 4, 5, 6, 7, 8, 9, 10]]) [
            ⟨(some 64), none, (.op (.load 5 true (.tmp 7)))⟩,
            ⟨(some 65), none, (.op (.mov (.tmp 5)))⟩,
            ⟨(some 66), none, (.op (.mov (.tmp 11)))⟩,
            ⟨(some 67), none, (.op (.index 6 (.tmp 65) (.tmp 66)))⟩,
            ⟨(some 68), none, (.op (.load 6 true (.tmp 67)))⟩,
            ⟨(some 69), none, (.call (.dat (.fn (.func 30) [] [])) [(.tmp 64), (.tmp 68)])⟩,
            ⟨(some 63), none, (.op (.mov (.tmp 69)))⟩,
            ⟨(some 70), none, (.op (.extract (.tmp 63) 0))⟩,
            ⟨(some 71), none, (.op (.extract (.tmp 63) 1))⟩,
            ⟨(some 12), none, (.op (.alloc true [.lit (.int .i64 0), .nil 6, .nil 5, .lit (.int .i64 0), .lit (.int .i64 0)]))⟩,
            ⟨none, none, (.op (.store 5 (.tmp 12) (.tmp 70)))⟩,
            ⟨(some 13), none, (.op (.mov (.tmp 71)))⟩])
          (.seq (.seq (.region none [
            ⟨(some 72), none, (.op (.mov (.tmp 13)))⟩,
            ⟨(some 73), none, (.op (.arith .neq (.tmp 72) (.dat (.lit (.int .i64 0)))))⟩])
          (.cond (.tmp 73)
            (.seq (.region none [
              ⟨(some 4), none, (.op (.mov (.dat (.lit (.bool false)))))⟩])
            .ret)
            .skip))
          (.region none [
            ⟨(some 74), none, (.op (.load 5 true (.tmp 12)))⟩,
            ⟨none, none, (.op (.store 5 (.tmp 7) (.tmp 74)))⟩]))))))))
        (.region none [
          ⟨(some 75), none, (.op (.arith .add (.tmp 39) (.dat (.lit (.int .i64 1)))))⟩,
          ⟨(some 39), none, (.op (.mov (.tmp 75)))⟩])))))))
    (.seq (.seq (.region none [
      ⟨(some 76), none, (.op (.mov (.tmp 5)))⟩,
      ⟨(some 77), none, (.op (.len (.tmp 76)))⟩,
      ⟨(some 78), none, (.op (.mov (.dat (.lit (.int .i64 0)))))⟩])
    (.block 2
      (.loop
        (.seq (.region none [
          ⟨(some 79), none, (.op (.arith .lss (.tmp 78) (.tmp 77)))⟩])
        (.seq (.cond (.tmp 79)
          .skip
          (.exit 2))
        (.seq (.block 3
          (.seq (.region none [
            ⟨(some 80), none, (.op (.index 6 (.tmp 76) (.tmp 78)))⟩,
            ⟨(some 81), none, (.op (.load 6 true (.tmp 80)))⟩,
            ⟨(some 15), none, (.op (.alloc true [.lit (.int .i64 0), .lit (.int .i64 0), .lit (.int .i64 0), .lit (.int .i64 0), .lit (.int .i64 0), .nil 5]))⟩,
            ⟨none, none, (.op (.store 6 (.tmp 15) (.tmp 81)))⟩])
          (.seq (.region none [
            ⟨(some 83), none, (.op (.load 2 true (.tmp 8)))⟩,
            ⟨(some 84), none, (.op (.field 2 4 true (.tmp 15)))⟩,
            ⟨(some 85), none, (.op (.load 4 true (.tmp 84)))⟩,
            ⟨(some 86), none, (.call (.dat (.fn (.func 25) [] [])) [(.tmp 83), (.tmp 85)])⟩,
            ⟨(some 82), none, (.op (.mov (.tmp 86)))⟩,
            ⟨(some 87), none, (.op (.extract (.tmp 82) 0))⟩,
            ⟨(some 88), none, (.op (.extract (.tmp 82) 1))⟩,
            ⟨(some 16), none, (.op (.alloc true [.nil 5, .lit (.int .i64 0)]))⟩,
            ⟨none, none, (.op (.store 2 (.tmp 16) (.tmp 87)))⟩,
            ⟨(some 17), none, (.op (.mov (.tmp 88)))⟩])
          (.seq (.region none [
            ⟨(some 89), none, (.op (.mov (.tmp 17)))⟩,
            ⟨(some 90), none, (.op (.arith .eql (.tmp 89) (.dat (.lit (.int .i64 0)))))⟩])
          (.cond (.tmp 90)
            (.region none [
              ⟨(some 91), none, (.op (.load 2 true (.tmp 16)))⟩,
              ⟨none, none, (.op (.store 2 (.tmp 8) (.tmp 91)))⟩])
            (.region none [
              ⟨(some 92), none, (.op (.mov (.tmp 9)))⟩,
              ⟨(some 93), none, (.op (.arith .add (.tmp 92) (.dat (.lit (.int .i64 1)))))⟩,
              ⟨(some 9), none, (.op (.mov (.tmp 93)))⟩]))))))
        (.region none [
          ⟨(some 94), none, (.op (.arith .add (.tmp 78) (.dat (.lit (.int .i64 1)))))⟩,
          ⟨(some 78), none, (.op (.mov (.tmp 94)))⟩])))))))
    (.seq (.region none [
      ⟨(some 95), none, (.op (.field 0 1 false (.tmp 7)))⟩,
      ⟨(some 96), none, (.op (.load 1 false (.tmp 95)))⟩,
      ⟨(some 97), none, (.op (.mov (.tmp 5)))⟩,
      ⟨(some 98), none, (.op (.len (.tmp 97)))⟩,
      ⟨(some 99), none, (.op (.arith .eql (.tmp 96) (.tmp 98)))⟩,
      ⟨(some 100), none, (.op (.mov (.tmp 99)))⟩,
      ⟨(some 101), (some (100, true)), (.op (.field 4 1 false (.tmp 7)))⟩,
      ⟨(some 102), (some (100, true)), (.op (.load 1 false (.tmp 101)))⟩,
      ⟨(some 103), (some (100, true)), (.op (.mov (.tmp 9)))⟩,
      ⟨(some 104), (some (100, true)), (.op (.arith .eql (.tmp 102) (.tmp 103)))⟩,
      ⟨(some 105), none, (.op (.pick (.tmp 100) (.tmp 104) (.dat (.lit (.bool false)))))⟩,
      ⟨(some 106), none, (.op (.mov (.tmp 105)))⟩,
      ⟨(some 107), (some (106, true)), (.op (.field 1 1 false (.tmp 7)))⟩,
      ⟨(some 108), (some (106, true)), (.op (.load 1 false (.tmp 107)))⟩,
      ⟨(some 109), (some (106, true)), (.op (.len (.tmp 108)))⟩,
      ⟨(some 110), (some (106, true)), (.op (.arith .eql (.tmp 109) (.dat (.lit (.int .i64 0)))))⟩,
      ⟨(some 111), none, (.op (.pick (.tmp 106) (.tmp 110) (.dat (.lit (.bool false)))))⟩,
      ⟨(some 112), none, (.op (.mov (.tmp 111)))⟩,
      ⟨(some 113), (some (112, true)), (.op (.field 2 2 true (.tmp 7)))⟩,
      ⟨(some 114), (some (112, true)), (.op (.load 2 true (.tmp 113)))⟩,
      ⟨(some 115), (some (112, true)), (.op (.load 2 true (.tmp 8)))⟩,
      ⟨(some 116), (some (112, true)), (.call (.dat (.fn (.func 41) [] [])) [(.tmp 114), (.tmp 115)])⟩,
      ⟨(some 117), none, (.op (.pick (.tmp 112) (.tmp 116) (.dat (.lit (.bool false)))))⟩,
      ⟨(some 118), none, (.op (.mov (.tmp 117)))⟩,
      ⟨(some 119), (some (118, true)), (.op (.load 5 true (.tmp 7)))⟩,
      ⟨(some 120), (some (118, true)), (.call (.dat (.fn (.func 35) [] [])) [(.tmp 119)])⟩,
      ⟨(some 121), (some (118, true)), (.op (.arith .eql (.tmp 120) (.dat (.lit (.int .i64 0)))))⟩,
      ⟨(some 122), none, (.op (.pick (.tmp 118) (.tmp 121) (.dat (.lit (.bool false)))))⟩,
      ⟨(some 4), none, (.op (.mov (.tmp 122)))⟩])
    .ret))))))))
  res := [.tmp 4]
theorem c10 : CmpF Tryd.prog 10 a10 := chkF_cmp (F := Tryd.f10) (by kernel_rfl) mixed (by kernel_rfl)
/-- hansard/hansardlaw18.FeedsSet -/
def a11 : AF where
  nt := 92
  body := (.seq (.region none [
      ⟨(some 6), none, (.op (.mov (.dat (.lit (.bool false)))))⟩])
    (.seq (.seq (.region none [
      ⟨(some 19), none, (.call (.dat (.fn (.func 27) [] [])) [])⟩,
      ⟨(some 20), none, (.op (.not (.tmp 19)))⟩])
    (.cond (.tmp 20)
      (.seq (.region none [
        ⟨(some 6), none, (.op (.mov (.dat (.lit (.bool false)))))⟩])
      .ret)
      .skip))
    (.seq (.region none [
      ⟨(some 22), none, (.op (.mov (.tmp 0)))⟩,
      ⟨(some 23), none, (.call (.dat (.fn (.func 40) [] [])) [(.tmp 22)])⟩,
      ⟨(some 21), none, (.op (.mov (.tmp 23)))⟩,
      ⟨(some 24), none, (.op (.extract (.tmp 21) 0))⟩,
      ⟨(some 25), none, (.op (.extract (.tmp 21) 1))⟩,
      ⟨(some 7), none, (.op (.mov (.tmp 24)))⟩,
      ⟨(some 8), none, (.op (.mov (.tmp 25)))⟩])
    (.seq (.seq (.region none [
      ⟨(some 26), none, (.op (.mov (.tmp 8)))⟩,
      ⟨(some 27), none, (.op (.not (.tmp 26)))⟩])
    (.cond (.tmp 27)
      (.seq (.region none [
        ⟨(some 6), none, (.op (.mov (.dat (.lit (.bool true)))))⟩])
      .ret)
      .skip))
    (.seq (.region none [
      ⟨(some 9), none, (.op (.mov (.dat (.nil 6))))⟩])
    (.seq (.seq (.region none [
      ⟨(some 28), none, (.op (.mov (.tmp 7)))⟩,
      ⟨(some 29), none, (.op (.len (.tmp 28)))⟩,
      ⟨(some 30), none, (.op (.mov (.dat (.lit (.int .i64 0)))))⟩])
    (.block 0
      (.loop
        (.seq (.region none [
          ⟨(some 31), none, (.op (.arith .lss (.tmp 30) (.tmp 29)))⟩])
        (.seq (.cond (.tmp 31)
          .skip
          (.exit 0))
        (.seq (.block 1
          (.seq (.region none [
            ⟨(some 32), none, (.op (.mov (.tmp 30)))⟩,
            ⟨(some 33), none, (.op (.index 6 (.tmp 28) (.tmp 30)))⟩,
            ⟨(some 34), none, (.op (.load 6 true (.tmp 33)))⟩,
            ⟨(some 11), none, (.op (.alloc true [.lit (.int .i64 0), .lit (.int .i64 0), .lit (.int .i64 0), .lit (.int .i64 0), .lit (.int .i64 0), .nil 5]))⟩,
            ⟨(some 10), none, (.op (.mov (.tmp 32)))⟩,
            ⟨none, none, (.op (.store 6 (.tmp 11) (.tmp 34)))⟩])
          (.seq (.region none [
            ⟨(some 35), none, (.op (.mov (.tmp 1)))⟩,
            ⟨(some 36), none, (.op (.mov (.tmp 10)))⟩,
            ⟨(some 37), none, (.op (.ext (.shift false) [(.tmp 35), (.tmp 36)]))⟩,
            ⟨(some 38), none, (.op (.arith .and (.tmp 37) (.dat (.lit (.int .u16 1)))))⟩,
            ⟨(some 39), none, (.op (.arith .eql (.tmp 38) (.dat (.lit (.int .u16 1)))))⟩])
          (.cond (.tmp 39)
            (.region none [
              ⟨(some 40), none, (.op (.mov (.tmp 9)))⟩,
              ⟨(some 41), none, (.op (.load 6 true (.tmp 11)))⟩,
              ⟨(some 42), none, (.op (.mkslice 6 [(.tmp 41)]))⟩,
              ⟨(some 43), none, (.op (.append 6 64 (.tmp 40) (.tmp 42)))⟩,
              ⟨(some 9), none, (.op (.mov (.tmp 43)))⟩])
            .skip))))
        (.region none [
          ⟨(some 44), none, (.op (.arith .add (.tmp 30) (.dat (.lit (.int .i64 1)))))⟩,
          ⟨(some 30), none, (.op (.mov (.tmp 44)))⟩])))))))
    (.seq (.region none [
      ⟨(some 45), none, (.call (.dat (.fn (.func 33) [] [])) [])⟩,
      ⟨(some 46), none, (.call (.dat (.fn (.func 33) [] [])) [])⟩,
      ⟨(some 12), none, (.op (.alloc true [.lit (.int .i64 0), .nil 6, .nil 5, .lit (.int .i64 0), .lit (.int .i64 0)]))⟩,
      ⟨(some 13), none, (.op (.alloc true [.lit (.int .i64 0), .nil 6, .nil 5, .lit (.int .i64 0), .lit (.int .i64 0)]))⟩,
      ⟨none, none, (.op (.store 5 (.tmp 12) (.tmp 45)))⟩,
      ⟨none, none, (.op (.store 5 (.tmp 13) (.tmp 46)))⟩])
    (.seq (.seq (.region none [
      ⟨(some 47), none, (.op (.mov (.tmp 9)))⟩,
      ⟨(some 48), none, (.op (.len (.tmp 47)))⟩,
      ⟨(some 49), none, (.op (.mov (.dat (.lit (.int .i64 0)))))⟩])
    (.block 2
      (.loop
        (.seq (.region none [
          ⟨(some 50), none, (.op (.arith .lss (.tmp 49) (.tmp 48)))⟩])
        (.seq (.cond (.tmp 50)
          .skip
          (.exit 2))
        (.seq (.block 3
          (.seq (.region none [
            ⟨(some 51), none, (.op (.mov (.tmp 49)))⟩,
            ⟨(some 14), none, (.op (.mov (.tmp 51)))⟩])
          (.seq (.region (some [[], [], [], [1, 2], [1, 2, 3], [0, 1, 2, 3, 4], [0, 1, 2, 3, 4, 5], [0, 1, 2, 3, 4, 5, 6], [0, 1, 2, 3, 4, 5, 6], [], [0, 1, 2, 3, 4, 5, 6, 7, 9], [0, 1, 2, 3, 4, 5, 6, 7, 8, 9, 10]]) [
            ⟨(some 53), none, (.op (.load 5 true (.tmp 12)))⟩,
            ⟨(some 54), none, (.op (.mov (.tmp 9)))⟩,
            ⟨(some 55), none, (.op (.mov (.tmp 14)))⟩,
            ⟨(some 56), none, (.op (.index 6 (.tmp 54) (.tmp 55)))⟩,
            ⟨(some 57), none, (.op (.load 6 true (.tmp 56)))⟩,
            ⟨(some 58), none, (.call (.dat (.fn (.func 30) [] [])) [(.tmp 53), (.tmp 57)])⟩,
            ⟨(some 52), none, (.op (.mov (.tmp 58)))⟩,
            ⟨(some 59), none, (.op (.extract (.tmp 52) 0))⟩,
            ⟨(some 60), none, (.op (.extract (.tmp 52) 1))⟩,
            ⟨(some 15), none, (.op (.alloc true [.lit (.int .i64 0), .nil 6, .nil 5, .lit (.int .i64 0), .lit (.int .i64 0)]))⟩,
            ⟨none, none, (.op (.store 5 (.tmp 15) (.tmp 59)))⟩,
            ⟨(some 16), none, (.op (.mov (.tmp 60)))⟩])
          (.seq (.region (some [[], [], [], [2], [2, 3], [], [2, 3, 4, 5], [], [7], [2, 3, 4, 5, 6, 7, 8], [], [10], [2, 3, 4, 5, 6, 7, 8, 9, 10, 11], [1, 2, 3, 4, 5, 6, 7, 8, 9, 10, 11, 12], [1, 2, 3, 4, 5, 6, 7, 8, 9, 10, 11, 12, 13], [0, 1, 2, 3, 4, 5, 6, 7, 8, 9, 10, 11, 12, 13, 14], [0, 1, 2, 3, 4, 5, 6, 7, 8, 9, 10, 11, 12, 13, 14, 15], [0, 1, 2, 3, 4, 5, 6, 7, 8, 9, 10, 11, 12, 13, 14, 15, 16], [0, 1, 2, 3, 4, 5, 6, 7, 8, 9, 10, 11, 12, 13, 14, 15, 16], [], [0, 1, 2, 3, 4, 5, 6, 7, 8, 9, 10, 11, 12, 13, 14, 15, 16, 17, 19], [0, 1, 2, 3, 4, 5, 6, 7, 8, 9, 10, 11, 12, 13, 14, 15, 16, 17, 18, 19, 20]]) [
            ⟨(some 62), none, (.op (.load 5 true (.tmp 13)))⟩,
            ⟨(some 63), none, (.op (.mov (.tmp 9)))⟩,
            ⟨(some 64), none, (.op (.mov (.tmp 9)))⟩,
            ⟨(some 65), none, (.op (.len (.tmp 64)))⟩,
            ⟨(some 66), none, (.op (.arith .sub (.tmp 65) (.dat (.lit (.int .i64 1)))))⟩,
            ⟨(some 67), none, (.op (.mov (.tmp 14)))⟩,
            ⟨(some 68), none, (.op (.arith .sub (.tmp 66) (.tmp 67)))⟩,
            ⟨(some 69), none, (.op (.mov (.tmp 2)))⟩,
            ⟨(some 70), none, (.op (.conv .i64 (.tmp 69)))⟩,
            ⟨(some 71), none, (.op (.arith .add (.tmp 68) (.tmp 70)))⟩,
            ⟨(some 72), none, (.op (.mov (.tmp 9)))⟩,
            ⟨(some 73), none, (.op (.len (.tmp 72)))⟩,
            ⟨(some 74), none, (.op (.arith .rem (.tmp 71) (.tmp 73)))⟩,
            ⟨(some 75), none, (.op (.index 6 (.tmp 63) (.tmp 74)))⟩,
            ⟨(some 76), none, (.op (.load 6 true (.tmp 75)))⟩,
            ⟨(some 77), none, (.call (.dat (.fn (.func 30) [] [])) [(.tmp 62), (.tmp 76)])⟩,
            ⟨(some 61), none, (.op (.mov (.tmp 77)))⟩,
            ⟨(some 78), none, (.op (.extract (.tmp 61) 0))⟩,
            ⟨(some 79), none, (.op (.extract (.tmp 61) 1))⟩,
            ⟨(some 17), none, (.op (.alloc true [.lit (.int .i64 0), .nil 6, .nil 5, .lit (.int .i64 0), .lit (.int .i64 0)]))⟩,
            ⟨none, none, (.op (.store 5 (.tmp 17) (.tmp 78)))⟩,
            ⟨(some 18), none, (.op (.mov (.tmp 79)))⟩])
          (.seq (.seq (.region none [
            ⟨(some 80), none, (.op (.mov (.tmp 16)))⟩,
            ⟨(some 81), none, (.op (.arith .neq (.tmp 80) (.dat (.lit (.int .i64 0)))))⟩,
            ⟨(some 82), none, (.op (.mov (.tmp 81)))⟩,
            ⟨(some 83), (some (82, false)), (.op (.mov (.tmp 18)))⟩,
            ⟨(some 84), (some (82, false)), (.op (.arith .neq (.tmp 83) (.dat (.lit (.int .i64 0)))))⟩,
            ⟨(some 85), none, (.op (.pick (.tmp 82) (.dat (.lit (.bool true))) (.tmp 84)))⟩])
          (.cond (.tmp 85)
            (.seq (.region none [
              ⟨(some 6), none, (.op (.mov (.dat (.lit (.bool false)))))⟩])
            .ret)
            .skip))
          (.region (some [[], [], [0], [0, 1, 2]]) [
            ⟨(some 86), none, (.op (.load 5 true (.tmp 15)))⟩,
            ⟨(some 87), none, (.op (.load 5 true (.tmp 17)))⟩,
            ⟨none, none, (.op (.store 5 (.tmp 12) (.tmp 86)))⟩,
            ⟨none, none, (.op (.store 5 (.tmp 13) (.tmp 87)))⟩]))))))
        (.region none [
          ⟨(some 88), none, (.op (.arith .add (.tmp 49) (.dat (.lit (.int .i64 1)))))⟩,
          ⟨(some 49), none, (.op (.mov (.tmp 88)))⟩])))))))
    (.seq (.region none [
      ⟨(some 89), none, (.op (.load 5 true (.tmp 12)))⟩,
      ⟨(some 90), none, (.op (.load 5 true (.tmp 13)))⟩,
      ⟨(some 91), none, (.call (.dat (.fn (.func 32) [] [])) [(.tmp 89), (.tmp 90)])⟩,
      ⟨(some 6), none, (.op (.mov (.tmp 91)))⟩])
    .ret)))))))))
  res := [.tmp 6]
theorem c11 : CmpF Tryd.prog 11 a11 := chkF_cmp (F := Tryd.f11) (by kernel_rfl) mixed (by kernel_rfl)
/-- hansard/hansardlaw18.FeedsTwice -/
def a12 : AF where
  nt := 85
  body := (.seq (.region none [
      ⟨(some 2), none, (.op (.box true (.tmp 0)))⟩,
      ⟨(some 3), none, (.op (.box true (.tmp 1)))⟩,
      ⟨(some 4), none, (.op (.mov (.dat (.lit (.bool false)))))⟩])
    (.seq (.seq (.region none [
      ⟨(some 9), none, (.call (.dat (.fn (.func 27) [] [])) [])⟩,
      ⟨(some 10), none, (.op (.not (.tmp 9)))⟩])
    (.cond (.tmp 10)
      (.seq (.region none [
        ⟨(some 4), none, (.op (.mov (.dat (.lit (.bool false)))))⟩])
      .ret)
      .skip))
    (.seq (.seq (.region none [
      ⟨(some 11), none, (.op (.load 5 true (.tmp 2)))⟩,
      ⟨(some 12), none, (.call (.dat (.fn (.func 28) [] [])) [(.tmp 11)])⟩,
      ⟨(some 13), none, (.op (.not (.tmp 12)))⟩,
      ⟨(some 14), none, (.op (.mov (.tmp 13)))⟩,
      ⟨(some 15), (some (14, false)), (.op (.load 6 true (.tmp 3)))⟩,
      ⟨(some 16), (some (14, false)), (.call (.dat (.fn (.func 29) [] [])) [(.tmp 15)])⟩,
      ⟨(some 17), (some (14, false)), (.op (.not (.tmp 16)))⟩,
      ⟨(some 18), none, (.op (.pick (.tmp 14) (.dat (.lit (.bool true))) (.tmp 17)))⟩,
      ⟨(some 19), none, (.op (.mov (.tmp 18)))⟩,
      ⟨(some 20), (some (19, false)), (.op (.field 2 2 true (.tmp 2)))⟩,
      ⟨(some 21), (some (19, false)), (.op (.field 0 1 false (.tmp 20)))⟩,
      ⟨(some 22), (some (19, false)), (.op (.load 1 false (.tmp 21)))⟩,
      ⟨(some 23), (some (19, false)), (.op (.len (.tmp 22)))⟩,
      ⟨(some 24), (some (19, false)), (.op (.arith .gtr (.tmp 23) (.dat (.lit (.int .i64 80)))))⟩,
      ⟨(some 25), none, (.op (.pick (.tmp 19) (.dat (.lit (.bool true))) (.tmp 24)))⟩,
      ⟨(some 26), none, (.op (.mov (.tmp 25)))⟩,
      ⟨(some 27), (some (26, false)), (.op (.load 5 true (.tmp 2)))⟩,
      ⟨(some 28), (some (26, false)), (.call (.dat (.fn (.func 36) [] [])) [(.tmp 27)])⟩,
      ⟨(some 29), (some (26, false)), (.op (.arith .neq (.tmp 28) (.dat (.lit (.int .i64 0)))))⟩,
      ⟨(some 30), none, (.op (.pick (.tmp 26) (.dat (.lit (.bool true))) (.tmp 29)))⟩])
    (.cond (.tmp 30)
      (.seq (.region none [
        ⟨(some 4), none, (.op (.mov (.dat (.lit (.bool true)))))⟩])
      .ret)
      .skip))
    (.seq (.region none [
      ⟨(some 32), none, (.op (.load 5 true (.tmp 2)))⟩,
      ⟨(some 33), none, (.op (.load 6 true (.tmp 3)))⟩,
      ⟨(some 34), none, (.call (.dat (.fn (.func 30) [] [])) [(.tmp 32), (.tmp 33)])⟩,
      ⟨(some 31), none, (.op (.mov (.tmp 34)))⟩,
      ⟨(some 35), none, (.op (.extract (.tmp 31) 0))⟩,
      ⟨(some 36), none, (.op (.extract (.tmp 31) 1))⟩,
      ⟨(some 5), none, (.op (.alloc true [.lit (.int .i64 0), .nil 6, .nil 5, .lit (.int .i64 0), .lit (.int .i64 0)]))⟩,
      ⟨none, none, (.op (.store 5 (.tmp 5) (.tmp 35)))⟩,
      ⟨(some 6), none, (.op (.mov (.tmp 36)))⟩])
    (.seq (.seq (.region none [
      ⟨(some 37), none, (.op (.mov (.tmp 6)))⟩,
      ⟨(some 38), none, (.op (.arith .neq (.tmp 37) (.dat (.lit (.int .i64 0)))))⟩])
    (.cond (.tmp 38)
      (.seq (.region none [
        ⟨(some 39), none, (.op (.load 5 true (.tmp 5)))⟩,
        ⟨(some 40), none, (.op (.build [.lit (.int .i64 0), .nil 6, .nil 5, .lit (.int .i64 0), .lit (.int .i64 0)] []))⟩,
        ⟨(some 41), none, (.call (.dat (.fn (.func 32) [] [])) [(.tmp 39), (.tmp 40)])⟩,
        ⟨(some 4), none, (.op (.mov (.tmp 41)))⟩])
      .ret)
      .skip))
    (.seq (.region none [
      ⟨(some 43), none, (.op (.load 5 true (.tmp 5)))⟩,
      ⟨(some 44), none, (.op (.load 6 true (.tmp 3)))⟩,
      ⟨(some 45), none, (.call (.dat (.fn (.func 30) [] [])) [(.tmp 43), (.tmp 44)])⟩,
      ⟨(some 42), none, (.op (.mov (.tmp 45)))⟩,
      ⟨(some 46), none, (.op (.extract (.tmp 42) 0))⟩,
      ⟨(some 47), none, (.op (.extract (.tmp 42) 1))⟩,
      ⟨(some 7), none, (.op (.alloc true [.lit (.int .i64 0), .nil 6, .nil 5, .lit (.int .i64 0), .lit (.int .i64 0)]))⟩,
      ⟨none, none, (.op (.store 5 (.tmp 7) (.tmp 46)))⟩,
      ⟨(some 8), none, (.op (.mov (.tmp 47)))⟩])
    (.seq (.seq (.region none [
      ⟨(some 48), none, (.op (.mov (.tmp 8)))⟩,
      ⟨(some 49), none, (.op (.arith .neq (.tmp 48) (.dat (.lit (.int .i64 0)))))⟩,
      ⟨(some 50), none, (.op (.mov (.tmp 49)))⟩,
      ⟨(some 51), (some (50, false)), (.op (.load 5 true (.tmp 5)))⟩,
      ⟨(some 52), (some (50, false)), (.op (.load 5 true (.tmp 7)))⟩,
      ⟨(some 53), (some (50, false)), (.call (.dat (.fn (.func 32) [] [])) [(.tmp 51), (.tmp 52)])⟩,
      ⟨(some 54), (some (50, false)), (.op (.not (.tmp 53)))⟩,
      ⟨(some 55), none, (.op (.pick (.tmp 50) (.dat (.lit (.bool true))) (.tmp 54)))⟩,
      ⟨(some 56), none, (.op (.mov (.tmp 55)))⟩,
      ⟨(some 57), (some (56, false)), (.op (.load 5 true (.tmp 5)))⟩,
      ⟨(some 58), (some (56, false)), (.call (.dat (.fn (.func 35) [] [])) [(.tmp 57)])⟩,
      ⟨(some 59), (some (56, false)), (.op (.arith .neq (.tmp 58) (.dat (.lit (.int .i64 0)))))⟩,
      ⟨(some 60), none, (.op (.pick (.tmp 56) (.dat (.lit (.bool true))) (.tmp 59)))⟩,
      ⟨(some 61), none, (.op (.mov (.tmp 60)))⟩,
      ⟨(some 62), (some (61, false)), (.op (.field 0 1 false (.tmp 5)))⟩,
      ⟨(some 63), (some (61, false)), (.op (.load 1 false (.tmp 62)))⟩,
      ⟨(some 64), (some (61, false)), (.op (.field 0 1 false (.tmp 2)))⟩,
      ⟨(some 65), (some (61, false)), (.op (.load 1 false (.tmp 64)))⟩,
      ⟨(some 66), (some (61, false)), (.op (.arith .lss (.tmp 63) (.tmp 65)))⟩,
      ⟨(some 67), none, (.op (.pick (.tmp 61) (.dat (.lit (.bool true))) (.tmp 66)))⟩,
      ⟨(some 68), none, (.op (.mov (.tmp 67)))⟩,
      ⟨(some 69), (some (68, false)), (.op (.field 4 1 false (.tmp 5)))⟩,
      ⟨(some 70), (some (68, false)), (.op (.load 1 false (.tmp 69)))⟩,
      ⟨(some 71), (some (68, false)), (.op (.field 4 1 false (.tmp 2)))⟩,
      ⟨(some 72), (some (68, false)), (.op (.load 1 false (.tmp 71)))⟩,
      ⟨(some 73), (some (68, false)), (.op (.arith .lss (.tmp 70) (.tmp 72)))⟩,
      ⟨(some 74), none, (.op (.pick (.tmp 68) (.dat (.lit (.bool true))) (.tmp 73)))⟩])
    (.cond (.tmp 74)
      (.seq (.region none [
        ⟨(some 4), none, (.op (.mov (.dat (.lit (.bool false)))))⟩])
      .ret)
      .skip))
    (.seq (.region none [
      ⟨(some 75), none, (.op (.field 0 1 false (.tmp 3)))⟩,
      ⟨(some 76), none, (.op (.load 1 false (.tmp 75)))⟩,
      ⟨(some 77), none, (.op (.field 0 1 false (.tmp 2)))⟩,
      ⟨(some 78), none, (.op (.load 1 false (.tmp 77)))⟩,
      ⟨(some 79), none, (.op (.arith .geq (.tmp 76) (.tmp 78)))⟩,
      ⟨(some 80), none, (.op (.mov (.tmp 79)))⟩,
      ⟨(some 81), (some (80, false)), (.op (.load 5 true (.tmp 5)))⟩,
      ⟨(some 82), (some (80, false)), (.op (.load 5 true (.tmp 2)))⟩,
      ⟨(some 83), (some (80, false)), (.call (.dat (.fn (.func 32) [] [])) [(.tmp 81), (.tmp 82)])⟩,
      ⟨(some 84), none, (.op (.pick (.tmp 80) (.dat (.lit (.bool true))) (.tmp 83)))⟩,
      ⟨(some 4), none, (.op (.mov (.tmp 84)))⟩])
    .ret))))))))
  res := [.tmp 4]
theorem c12 : CmpF Tryd.prog 12 a12 := chkF_cmp (F := Tryd.f12) (by kernel_rfl) mixed (by kernel_rfl)
/-- hansard/stream.Check -/
def a23 : AF where
  nt := 5
  body := (.seq (.region none [
      ⟨(some 1), none, (.op (.box true (.tmp 0)))⟩,
      ⟨(some 2), none, (.op (.alloc false [.lit (.int .i64 0)]))⟩])
    (.seq (.sregion [
      ⟨none, none, (.defer (.dat (.fn (.func 52) [] [])) [(.tmp 2)])⟩])
    (.seq (.region none [
      ⟨(some 3), none, (.op (.load 2 true (.tmp 1)))⟩,
      ⟨(some 4), none, (.call (.dat (.fn (.func 53) [] [])) [(.tmp 3)])⟩])
    (.seq (.region none [
      ⟨none, none, (.op (.store 1 (.tmp 2) (.dat (.lit (.int .i64 0)))))⟩])
    .ret))))
  res := [.cell 2 1 false]
theorem c23 : CmpF Tryd.prog 23 a23 := chkF_cmp (F := Tryd.f23) (by kernel_rfl) mixed (by kernel_rfl)
/-- hansard/stream.Do -/
def a25 : AF where
  nt := 35
  body := (.seq (.region none [
      ⟨(some 2), none, (.op (.box true (.tmp 0)))⟩,
      ⟨(some 3), none, (.op (.box true (.tmp 1)))⟩,
      ⟨(some 4), none, (.op (.alloc true [.nil 5, .lit (.int .i64 0)]))⟩,
      ⟨(some 5), none, (.op (.alloc false [.lit (.int .i64 0)]))⟩])
    (.seq (.sregion [
      ⟨(some 8), none, (.op (.func (.func 57) [] [(.tmp 5), (.tmp 4)]))⟩,
      ⟨none, none, (.defer (.tmp 8) [])⟩])
    (.seq (.sregion [
      ⟨none, none, (.defer (.dat (.fn (.func 52) [] [])) [(.tmp 5)])⟩])
    (.seq (.region none [
      ⟨(some 9), none, (.op (.load 2 true (.tmp 2)))⟩,
      ⟨(some 10), none, (.call (.dat (.fn (.func 53) [] [])) [(.tmp 9)])⟩])
    (.seq (.region (some [[], [], [1], [0, 1, 2], [0, 1, 2, 3], [0, 1, 2, 3, 4], [0, 1, 2, 3, 4], [], [0, 1, 2, 3, 4, 5, 7], [0, 1, 2, 3, 4, 5, 6, 7, 8]]) [
      ⟨(some 12), none, (.call (.dat (.fn (.func 58) [] [])) [])⟩,
      ⟨(some 13), none, (.op (.field 0 1 false (.tmp 3)))⟩,
      ⟨(some 14), none, (.op (.load 1 false (.tmp 13)))⟩,
      ⟨(some 15), none, (.op (.ext (.lookup (.int .i64) true (.agg [.lit (.nilFunc), .lit (.nilFunc)])) [(.tmp 12), (.tmp 14)]))⟩,
      ⟨(some 11), none, (.op (.mov (.tmp 15)))⟩,
      ⟨(some 16), none, (.op (.extract (.tmp 11) 0))⟩,
      ⟨(some 17), none, (.op (.extract (.tmp 11) 1))⟩,
      ⟨(some 6), none, (.op (.alloc true [.lit (.nilFunc), .lit (.nilFunc)]))⟩,
      ⟨none, none, (.op (.store 2 (.tmp 6) (.tmp 16)))⟩,
      ⟨(some 7), none, (.op (.mov (.tmp 17)))⟩])
    (.seq (.region none [
      ⟨(some 18), none, (.op (.mov (.tmp 7)))⟩,
      ⟨(some 19), none, (.op (.mov (.tmp 18)))⟩,
      ⟨(some 20), (some (19, true)), (.op (.field 0 1 false (.tmp 6)))⟩,
      ⟨(some 21), (some (19, true)), (.op (.load 1 false (.tmp 20)))⟩,
      ⟨(some 22), (some (19, true)), (.op (.load 2 true (.tmp 2)))⟩,
      ⟨(some 23), (some (19, true)), (.op (.load 4 true (.tmp 3)))⟩,
      ⟨(some 24), (some (19, true)), (.call (.tmp 21) [(.tmp 22), (.tmp 23)])⟩,
      ⟨(some 25), none, (.op (.pick (.tmp 19) (.tmp 24) (.dat (.lit (.bool false)))))⟩,
      ⟨(some 26), none, (.call (.dat (.fn (.func 59) [] [])) [(.tmp 25), (.dat (.lit (.int .i64 170)))])⟩])
    (.seq (.region none [
      ⟨(some 27), none, (.op (.field 1 1 false (.tmp 6)))⟩,
      ⟨(some 28), none, (.op (.load 1 false (.tmp 27)))⟩,
      ⟨(some 29), none, (.op (.load 2 true (.tmp 2)))⟩,
      ⟨(some 30), none, (.op (.load 4 true (.tmp 3)))⟩,
      ⟨(some 31), none, (.call (.tmp 28) [(.tmp 29), (.tmp 30)])⟩,
      ⟨none, none, (.op (.store 2 (.tmp 4) (.tmp 31)))⟩])
    (.seq (.region none [
      ⟨(some 32), none, (.op (.load 2 true (.tmp 4)))⟩,
      ⟨(some 33), none, (.call (.dat (.fn (.func 53) [] [])) [(.tmp 32)])⟩])
    (.seq (.region none [
      ⟨(some 34), none, (.op (.load 2 true (.tmp 4)))⟩,
      ⟨none, none, (.op (.store 2 (.tmp 4) (.tmp 34)))⟩,
      ⟨none, none, (.op (.store 1 (.tmp 5) (.dat (.lit (.int .i64 0)))))⟩])
    .ret)))))))))
  res := [.cell 4 2 true, .cell 5 1 false]
theorem c25 : CmpF Tryd.prog 25 a25 := chkF_cmp (F := Tryd.f25) (by kernel_rfl) mixed (by kernel_rfl)
/-- hansard/hansardlaw18.sane -/
def a27 : AF where
  nt := 171
  body := (.seq (.region none [
      ⟨(some 0), none, (.op (.mov (.dat (.lit (.bool false)))))⟩])
    (.seq (.region none [
      ⟨(some 22), none, (.call (.dat (.fn (.func 33) [] [])) [])⟩,
      ⟨(some 23), none, (.call (.dat (.fn (.func 60) [] [])) [(.dat (.lit (.int .i64 1))), (.dat (.lit (.string ⟨#[116, 119, 111]⟩))), (.dat (.lit (.int .i64 20)))])⟩,
      ⟨(some 24), none, (.call (.dat (.fn (.func 30) [] [])) [(.tmp 22), (.tmp 23)])⟩,
      ⟨(some 21), none, (.op (.mov (.tmp 24)))⟩,
      ⟨(some 25), none, (.op (.extract (.tmp 21) 0))⟩,
      ⟨(some 26), none, (.op (.extract (.tmp 21) 1))⟩,
      ⟨(some 1), none, (.op (.alloc true [.lit (.int .i64 0), .nil 6, .nil 5, .lit (.int .i64 0), .lit (.int .i64 0)]))⟩,
      ⟨none, none, (.op (.store 5 (.tmp 1) (.tmp 25)))⟩,
      ⟨(some 2), none, (.op (.mov (.tmp 26)))⟩])
    (.seq (.region (some [[], [], [0, 1], [0, 1, 2], [0, 1, 2, 3], [0, 1, 2, 3], [], [0, 1, 2, 3, 4, 6], [0, 1, 2, 3, 4, 5, 6, 7]]) [
      ⟨(some 28), none, (.op (.load 5 true (.tmp 1)))⟩,
      ⟨(some 29), none, (.call (.dat (.fn (.func 60) [] [])) [(.dat (.lit (.int .i64 0))), (.dat (.lit (.string ⟨#[111, 110, 101]⟩))), (.dat (.lit (.int .i64 5)))])⟩,
      ⟨(some 30), none, (.call (.dat (.fn (.func 30) [] [])) [(.tmp 28), (.tmp 29)])⟩,
      ⟨(some 27), none, (.op (.mov (.tmp 30)))⟩,
      ⟨(some 31), none, (.op (.extract (.tmp 27) 0))⟩,
      ⟨(some 32), none, (.op (.extract (.tmp 27) 1))⟩,
      ⟨(some 3), none, (.op (.alloc true [.lit (.int .i64 0), .nil 6, .nil 5, .lit (.int .i64 0), .lit (.int .i64 0)]))⟩,
      ⟨none, none, (.op (.store 5 (.tmp 3) (.tmp 31)))⟩,
      ⟨(some 4), none, (.op (.mov (.tmp 32)))⟩])
    (.seq (.region none [
      ⟨(some 34), none, (.call (.dat (.fn (.func 33) [] [])) [])⟩,
      ⟨(some 35), none, (.call (.dat (.fn (.func 60) [] [])) [(.dat (.lit (.int .i64 65))), (.dat (.lit (.string ⟨#[102, 97, 114]⟩))), (.dat (.lit (.int .i64 5)))])⟩,
      ⟨(some 36), none, (.call (.dat (.fn (.func 30) [] [])) [(.tmp 34), (.tmp 35)])⟩,
      ⟨(some 33), none, (.op (.mov (.tmp 36)))⟩,
      ⟨(some 37), none, (.op (.extract (.tmp 33) 0))⟩,
      ⟨(some 38), none, (.op (.extract (.tmp 33) 1))⟩,
      ⟨(some 5), none, (.op (.alloc true [.lit (.int .i64 0), .nil 6, .nil 5, .lit (.int .i64 0), .lit (.int .i64 0)]))⟩,
      ⟨none, none, (.op (.store 5 (.tmp 5) (.tmp 37)))⟩,
      ⟨(some 6), none, (.op (.mov (.tmp 38)))⟩])
    (.seq (.region none [
      ⟨(some 40), none, (.call (.dat (.fn (.func 33) [] [])) [])⟩,
      ⟨(some 41), none, (.call (.dat (.fn (.func 60) [] [])) [(.dat (.lit (.int .i64 (-1)))), (.dat (.lit (.string ⟨#[111, 100, 100]⟩))), (.dat (.lit (.int .i64 5)))])⟩,
      ⟨(some 42), none, (.call (.dat (.fn (.func 30) [] [])) [(.tmp 40), (.tmp 41)])⟩,
      ⟨(some 39), none, (.op (.mov (.tmp 42)))⟩,
      ⟨(some 43), none, (.op (.extract (.tmp 39) 0))⟩,
      ⟨(some 44), none, (.op (.extract (.tmp 39) 1))⟩,
      ⟨(some 7), none, (.op (.alloc true [.lit (.int .i64 0), .nil 6, .nil 5, .lit (.int .i64 0), .lit (.int .i64 0)]))⟩,
      ⟨none, none, (.op (.store 5 (.tmp 7) (.tmp 43)))⟩,
      ⟨(some 8), none, (.op (.mov (.tmp 44)))⟩])
    (.seq (.region (some [[], [], [0, 1], [0, 1, 2], [0, 1, 2, 3], [0, 1, 2, 3], [], [0, 1, 2, 3, 4, 6], [0, 1, 2, 3, 4, 5, 6, 7]]) [
      ⟨(some 46), none, (.op (.load 5 true (.tmp 1)))⟩,
      ⟨(some 47), none, (.call (.dat (.fn (.func 60) [] [])) [(.dat (.lit (.int .i64 1))), (.dat (.lit (.string ⟨#[116, 104, 114, 101, 101]⟩))), (.dat (.lit (.int .i64 20)))])⟩,
      ⟨(some 48), none, (.call (.dat (.fn (.func 30) [] [])) [(.tmp 46), (.tmp 47)])⟩,
      ⟨(some 45), none, (.op (.mov (.tmp 48)))⟩,
      ⟨(some 49), none, (.op (.extract (.tmp 45) 0))⟩,
      ⟨(some 50), none, (.op (.extract (.tmp 45) 1))⟩,
      ⟨(some 9), none, (.op (.alloc true [.lit (.int .i64 0), .nil 6, .nil 5, .lit (.int .i64 0), .lit (.int .i64 0)]))⟩,
      ⟨none, none, (.op (.store 5 (.tmp 9) (.tmp 49)))⟩,
      ⟨(some 10), none, (.op (.mov (.tmp 50)))⟩])
    (.seq (.region (some [[], [], [0, 1], [0, 1, 2], [0, 1, 2, 3], [0, 1, 2, 3], [], [0, 1, 2, 3, 4, 6], [0, 1, 2, 3, 4, 5, 6, 7]]) [
      ⟨(some 52), none, (.op (.load 5 true (.tmp 1)))⟩,
      ⟨(some 53), none, (.call (.dat (.fn (.func 60) [] [])) [(.dat (.lit (.int .i64 2))), (.dat (.lit (.string ⟨#[116, 104, 114, 101, 101]⟩))), (.dat (.lit (.int .i64 40)))])⟩,
      ⟨(some 54), none, (.call (.dat (.fn (.func 30) [] [])) [(.tmp 52), (.tmp 53)])⟩,
      ⟨(some 51), none, (.op (.mov (.tmp 54)))⟩,
      ⟨(some 55), none, (.op (.extract (.tmp 51) 0))⟩,
      ⟨(some 56), none, (.op (.extract (.tmp 51) 1))⟩,
      ⟨(some 11), none, (.op (.alloc true [.lit (.int .i64 0), .nil 6, .nil 5, .lit (.int .i64 0), .lit (.int .i64 0)]))⟩,
      ⟨none, none, (.op (.store 5 (.tmp 11) (.tmp 55)))⟩,
      ⟨(some 12), none, (.op (.mov (.tmp 56)))⟩])
    (.seq (.region (some [[], [], [0, 1], [0, 1, 2], [0, 1, 2, 3], [0, 1, 2, 3], [0, 1, 2, 3, 4], [0, 1, 2, 3, 4, 5, 6]]) [
      ⟨(some 58), none, (.op (.load 5 true (.tmp 11)))⟩,
      ⟨(some 59), none, (.call (.dat (.fn (.func 60) [] [])) [(.dat (.lit (.int .i64 4))), (.dat (.lit (.string ⟨#[102, 111, 117, 114]⟩))), (.dat (.lit (.int .i64 60)))])⟩,
      ⟨(some 60), none, (.call (.dat (.fn (.func 30) [] [])) [(.tmp 58), (.tmp 59)])⟩,
      ⟨(some 57), none, (.op (.mov (.tmp 60)))⟩,
      ⟨(some 61), none, (.op (.extract (.tmp 57) 0))⟩,
      ⟨(some 62), none, (.op (.extract (.tmp 57) 1))⟩,
      ⟨none, none, (.op (.store 5 (.tmp 11) (.tmp 61)))⟩,
      ⟨(some 13), none, (.op (.mov (.tmp 62)))⟩])
    (.seq (.region none [
      ⟨(some 64), none, (.op (.load 5 true (.tmp 11)))⟩,
      ⟨(some 65), none, (.call (.dat (.fn (.func 37) [] [])) [(.tmp 64)])⟩,
      ⟨(some 63), none, (.op (.mov (.tmp 65)))⟩,
      ⟨(some 66), none, (.op (.extract (.tmp 63) 0))⟩,
      ⟨(some 67), none, (.op (.extract (.tmp 63) 1))⟩,
      ⟨(some 14), none, (.op (.mov (.tmp 66)))⟩,
      ⟨(some 15), none, (.op (.mov (.tmp 67)))⟩])
    (.seq (.region none [
      ⟨(some 69), none, (.call (.dat (.fn (.func 33) [] [])) [])⟩,
      ⟨(some 70), none, (.call (.dat (.fn (.func 37) [] [])) [(.tmp 69)])⟩,
      ⟨(some 68), none, (.op (.mov (.tmp 70)))⟩,
      ⟨(some 71), none, (.op (.extract (.tmp 68) 0))⟩,
      ⟨(some 72), none, (.op (.extract (.tmp 68) 1))⟩,
      ⟨(some 16), none, (.op (.mov (.tmp 71)))⟩,
      ⟨(some 17), none, (.op (.mov (.tmp 72)))⟩])
    (.seq (.region none [
      ⟨(some 74), none, (.op (.build [.lit (.int .i64 0), .nil 6, .nil 5, .lit (.int .i64 0), .lit (.int .i64 0)] [(0, 1, (.dat (.lit (.int .i64 (-1)))))]))⟩,
      ⟨(some 75), none, (.call (.dat (.fn (.func 37) [] [])) [(.tmp 74)])⟩,
      ⟨(some 73), none, (.op (.mov (.tmp 75)))⟩,
      ⟨(some 76), none, (.op (.extract (.tmp 73) 0))⟩,
      ⟨(some 77), none, (.op (.extract (.tmp 73) 1))⟩,
      ⟨(some 18), none, (.op (.mov (.tmp 76)))⟩,
      ⟨(some 19), none, (.op (.mov (.tmp 77)))⟩])
    (.seq (.seq (.region none [
      ⟨(some 78), none, (.op (.mov (.tmp 2)))⟩,
      ⟨(some 79), none, (.op (.arith .neq (.tmp 78) (.dat (.lit (.int .i64 0)))))⟩,
      ⟨(some 80), none, (.op (.mov (.tmp 79)))⟩,
      ⟨(some 81), (some (80, false)), (.op (.mov (.tmp 4)))⟩,
      ⟨(some 82), (some (80, false)), (.op (.arith .neq (.tmp 81) (.dat (.lit (.int .i64 0)))))⟩,
      ⟨(some 83), none, (.op (.pick (.tmp 80) (.dat (.lit (.bool true))) (.tmp 82)))⟩,
      ⟨(some 84), none, (.op (.mov (.tmp 83)))⟩,
      ⟨(some 85), (some (84, false)), (.op (.mov (.tmp 6)))⟩,
      ⟨(some 86), (some (84, false)), (.op (.arith .neq (.tmp 85) (.dat (.lit (.int .i64 2)))))⟩,
      ⟨(some 87), none, (.op (.pick (.tmp 84) (.dat (.lit (.bool true))) (.tmp 86)))⟩,
      ⟨(some 88), none, (.op (.mov (.tmp 87)))⟩,
      ⟨(some 89), (some (88, false)), (.op (.mov (.tmp 8)))⟩,
      ⟨(some 90), (some (88, false)), (.op (.arith .neq (.tmp 89) (.dat (.lit (.int .i64 1)))))⟩,
      ⟨(some 91), none, (.op (.pick (.tmp 88) (.dat (.lit (.bool true))) (.tmp 90)))⟩,
      ⟨(some 92), none, (.op (.mov (.tmp 91)))⟩,
      ⟨(some 93), (some (92, false)), (.op (.mov (.tmp 10)))⟩,
      ⟨(some 94), (some (92, false)), (.op (.arith .neq (.tmp 93) (.dat (.lit (.int .i64 181)))))⟩,
      ⟨(some 95), none, (.op (.pick (.tmp 92) (.dat (.lit (.bool true))) (.tmp 94)))⟩,
      ⟨(some 96), none, (.op (.mov (.tmp 95)))⟩,
      ⟨(some 97), (some (96, false)), (.op (.mov (.tmp 12)))⟩,
      ⟨(some 98), (some (96, false)), (.op (.arith .neq (.tmp 97) (.dat (.lit (.int .i64 0)))))⟩,
      ⟨(some 99), none, (.op (.pick (.tmp 96) (.dat (.lit (.bool true))) (.tmp 98)))⟩,
      ⟨(some 100), none, (.op (.mov (.tmp 99)))⟩,
      ⟨(some 101), (some (100, false)), (.op (.mov (.tmp 13)))⟩,
      ⟨(some 102), (some (100, false)), (.op (.arith .neq (.tmp 101) (.dat (.lit (.int .i64 0)))))⟩,
      ⟨(some 103), none, (.op (.pick (.tmp 100) (.dat (.lit (.bool true))) (.tmp 102)))⟩,
      ⟨(some 104), none, (.op (.mov (.tmp 103)))⟩,
      ⟨(some 105), (some (104, false)), (.op (.mov (.tmp 15)))⟩,
      ⟨(some 106), (some (104, false)), (.op (.arith .neq (.tmp 105) (.dat (.lit (.int .i64 0)))))⟩,
      ⟨(some 107), none, (.op (.pick (.tmp 104) (.dat (.lit (.bool true))) (.tmp 106)))⟩,
      ⟨(some 108), none, (.op (.mov (.tmp 107)))⟩,
      ⟨(some 109), (some (108, false)), (.op (.mov (.tmp 17)))⟩,
      ⟨(some 110), (some (108, false)), (.op (.arith .neq (.tmp 109) (.dat (.lit (.int .i64 0)))))⟩,
      ⟨(some 111), none, (.op (.pick (.tmp 108) (.dat (.lit (.bool true))) (.tmp 110)))⟩,
      ⟨(some 112), none, (.op (.mov (.tmp 111)))⟩,
      ⟨(some 113), (some (112, false)), (.op (.mov (.tmp 19)))⟩,
      ⟨(some 114), (some (112, false)), (.op (.arith .neq (.tmp 113) (.dat (.lit (.int .i64 180)))))⟩,
      ⟨(some 115), none, (.op (.pick (.tmp 112) (.dat (.lit (.bool true))) (.tmp 114)))⟩,
      ⟨(some 116), none, (.op (.mov (.tmp 115)))⟩,
      ⟨(some 117), (some (116, false)), (.op (.field 1 1 false (.tmp 1)))⟩,
      ⟨(some 118), (some (116, false)), (.op (.load 1 false (.tmp 117)))⟩,
      ⟨(some 119), (some (116, false)), (.op (.len (.tmp 118)))⟩,
      ⟨(some 120), (some (116, false)), (.op (.arith .neq (.tmp 119) (.dat (.lit (.int .i64 1)))))⟩,
      ⟨(some 121), none, (.op (.pick (.tmp 116) (.dat (.lit (.bool true))) (.tmp 120)))⟩,
      ⟨(some 122), none, (.op (.mov (.tmp 121)))⟩,
      ⟨(some 123), (some (122, false)), (.op (.field 0 1 false (.tmp 1)))⟩,
      ⟨(some 124), (some (122, false)), (.op (.load 1 false (.tmp 123)))⟩,
      ⟨(some 125), (some (122, false)), (.op (.arith .neq (.tmp 124) (.dat (.lit (.int .i64 0)))))⟩,
      ⟨(some 126), none, (.op (.pick (.tmp 122) (.dat (.lit (.bool true))) (.tmp 125)))⟩])
    (.cond (.tmp 126)
      (.seq (.region none [
        ⟨(some 0), none, (.op (.mov (.dat (.lit (.bool false)))))⟩])
      .ret)
      .skip))
    (.seq (.region none [
      ⟨(some 127), none, (.call (.dat (.fn (.func 61) [] [])) [(.dat (.lit (.string ⟨#[111, 110, 101]⟩))), (.dat (.lit (.int .i64 5)))])⟩,
      ⟨(some 128), none, (.call (.dat (.fn (.func 61) [] [])) [(.dat (.lit (.string ⟨#[116, 119, 111]⟩))), (.dat (.lit (.int .i64 20)))])⟩,
      ⟨(some 129), none, (.op (.mkslice 5 [(.tmp 127), (.tmp 128)]))⟩,
      ⟨(some 130), none, (.op (.build [.nil 5, .lit (.int .i64 0)] [(0, 1, (.tmp 129))]))⟩,
      ⟨(some 20), none, (.op (.alloc true [.nil 5, .lit (.int .i64 0)]))⟩,
      ⟨none, none, (.op (.store 2 (.tmp 20) (.tmp 130)))⟩])
    (.seq (.region none [
      ⟨(some 131), none, (.op (.field 0 1 false (.tmp 3)))⟩,
      ⟨(some 132), none, (.op (.load 1 false (.tmp 131)))⟩,
      ⟨(some 133), none, (.op (.arith .eql (.tmp 132) (.dat (.lit (.int .i64 2)))))⟩,
      ⟨(some 134), none, (.op (.mov (.tmp 133)))⟩,
      ⟨(some 135), (some (134, true)), (.op (.field 4 1 false (.tmp 3)))⟩,
      ⟨(some 136), (some (134, true)), (.op (.load 1 false (.tmp 135)))⟩,
      ⟨(some 137), (some (134, true)), (.op (.arith .eql (.tmp 136) (.dat (.lit (.int .i64 0)))))⟩,
      ⟨(some 138), none, (.op (.pick (.tmp 134) (.tmp 137) (.dat (.lit (.bool false)))))⟩,
      ⟨(some 139), none, (.op (.mov (.tmp 138)))⟩,
      ⟨(some 140), (some (139, true)), (.op (.field 1 1 false (.tmp 3)))⟩,
      ⟨(some 141), (some (139, true)), (.op (.load 1 false (.tmp 140)))⟩,
      ⟨(some 142), (some (139, true)), (.op (.len (.tmp 141)))⟩,
      ⟨(some 143), (some (139, true)), (.op (.arith .eql (.tmp 142) (.dat (.lit (.int .i64 0)))))⟩,
      ⟨(some 144), none, (.op (.pick (.tmp 139) (.tmp 143) (.dat (.lit (.bool false)))))⟩,
      ⟨(some 145), none, (.op (.mov (.tmp 144)))⟩,
      ⟨(some 146), (some (145, true)), (.op (.field 2 2 true (.tmp 3)))⟩,
      ⟨(some 147), (some (145, true)), (.op (.load 2 true (.tmp 146)))⟩,
      ⟨(some 148), (some (145, true)), (.op (.load 2 true (.tmp 20)))⟩,
      ⟨(some 149), (some (145, true)), (.call (.dat (.fn (.func 41) [] [])) [(.tmp 147), (.tmp 148)])⟩,
      ⟨(some 150), none, (.op (.pick (.tmp 145) (.tmp 149) (.dat (.lit (.bool false)))))⟩,
      ⟨(some 151), none, (.op (.mov (.tmp 150)))⟩,
      ⟨(some 152), (some (151, true)), (.op (.mov (.tmp 14)))⟩,
      ⟨(some 153), (some (151, true)), (.op (.mkslice 1 [(.dat (.lit (.int .i64 0))), (.dat (.lit (.int .i64 3)))]))⟩,
      ⟨(some 154), (some (151, true)), (.call (.dat (.fn (.func 39) [] [])) [(.tmp 152), (.tmp 153)])⟩,
      ⟨(some 155), none, (.op (.pick (.tmp 151) (.tmp 154) (.dat (.lit (.bool false)))))⟩,
      ⟨(some 156), none, (.op (.mov (.tmp 155)))⟩,
      ⟨(some 157), (some (156, true)), (.op (.mov (.tmp 16)))⟩,
      ⟨(some 158), (some (156, true)), (.op (.len (.tmp 157)))⟩,
      ⟨(some 159), (some (156, true)), (.op (.arith .eql (.tmp 158) (.dat (.lit (.int .i64 0)))))⟩,
      ⟨(some 160), none, (.op (.pick (.tmp 156) (.tmp 159) (.dat (.lit (.bool false)))))⟩,
      ⟨(some 161), none, (.op (.mov (.tmp 160)))⟩,
      ⟨(some 162), (some (161, true)), (.call (.dat (.fn (.func 33) [] [])) [])⟩,
      ⟨(some 163), (some (161, true)), (.call (.dat (.fn (.func 35) [] [])) [(.tmp 162)])⟩,
      ⟨(some 164), (some (161, true)), (.op (.arith .eql (.tmp 163) (.dat (.lit (.int .i64 0)))))⟩,
      ⟨(some 165), none, (.op (.pick (.tmp 161) (.tmp 164) (.dat (.lit (.bool false)))))⟩,
      ⟨(some 166), none, (.op (.mov (.tmp 165)))⟩,
      ⟨(some 167), (some (166, true)), (.op (.load 5 true (.tmp 11)))⟩,
      ⟨(some 168), (some (166, true)), (.call (.dat (.fn (.func 35) [] [])) [(.tmp 167)])⟩,
      ⟨(some 169), (some (166, true)), (.op (.arith .eql (.tmp 168) (.dat (.lit (.int .i64 0)))))⟩,
      ⟨(some 170), none, (.op (.pick (.tmp 166) (.tmp 169) (.dat (.lit (.bool false)))))⟩,
      ⟨(some 0), none, (.op (.mov (.tmp 170)))⟩])
    .ret))))))))))))))
  res := [.tmp 0]
theorem c27 : CmpF Tryd.prog 27 a27 := chkF_cmp (F := Tryd.f27) (by kernel_rfl) mixed (by kernel_rfl)
/-- hansard/hansardref18.Few -/
def a28 : AF where
  nt := 29
  body := (.seq (.region none [
      ⟨(some 1), none, (.op (.box true (.tmp 0)))⟩,
      ⟨(some 2), none, (.op (.mov (.dat (.lit (.bool false)))))⟩])
    (.seq (.seq (.region none [
      ⟨(some 4), none, (.op (.field 2 2 true (.tmp 1)))⟩,
      ⟨(some 5), none, (.op (.field 0 1 false (.tmp 4)))⟩,
      ⟨(some 6), none, (.op (.load 1 false (.tmp 5)))⟩,
      ⟨(some 7), none, (.call (.dat (.fn (.func 62) [] [])) [(.tmp 6)])⟩,
      ⟨(some 8), none, (.op (.not (.tmp 7)))⟩,
      ⟨(some 9), none, (.op (.mov (.tmp 8)))⟩,
      ⟨(some 10), (some (9, false)), (.op (.field 1 1 false (.tmp 1)))⟩,
      ⟨(some 11), (some (9, false)), (.op (.load 1 false (.tmp 10)))⟩,
      ⟨(some 12), (some (9, false)), (.op (.len (.tmp 11)))⟩,
      ⟨(some 13), (some (9, false)), (.op (.arith .gtr (.tmp 12) (.dat (.lit (.int .i64 80)))))⟩,
      ⟨(some 14), none, (.op (.pick (.tmp 9) (.dat (.lit (.bool true))) (.tmp 13)))⟩])
    (.cond (.tmp 14)
      (.seq (.region none [
        ⟨(some 2), none, (.op (.mov (.dat (.lit (.bool false)))))⟩])
      .ret)
      .skip))
    (.seq (.seq (.region none [
      ⟨(some 3), none, (.op (.mov (.dat (.lit (.int .i64 0)))))⟩])
    (.block 0
      (.loop
        (.seq (.seq (.region none [
          ⟨(some 15), none, (.op (.mov (.tmp 3)))⟩,
          ⟨(some 16), none, (.op (.field 1 1 false (.tmp 1)))⟩,
          ⟨(some 17), none, (.op (.load 1 false (.tmp 16)))⟩,
          ⟨(some 18), none, (.op (.len (.tmp 17)))⟩,
          ⟨(some 19), none, (.op (.arith .lss (.tmp 15) (.tmp 18)))⟩])
        (.cond (.tmp 19)
          .skip
          (.exit 0)))
        (.seq (.block 1
          (.seq (.region none [
            ⟨(some 22), none, (.op (.field 1 1 false (.tmp 1)))⟩,
            ⟨(some 23), none, (.op (.load 1 false (.tmp 22)))⟩,
            ⟨(some 24), none, (.op (.mov (.tmp 3)))⟩,
            ⟨(some 25), none, (.op (.index 6 (.tmp 23) (.tmp 24)))⟩,
            ⟨(some 26), none, (.op (.load 6 true (.tmp 25)))⟩,
            ⟨(some 27), none, (.call (.dat (.fn (.func 29) [] [])) [(.tmp 26)])⟩,
            ⟨(some 28), none, (.op (.not (.tmp 27)))⟩])
          (.cond (.tmp 28)
            (.seq (.region none [
              ⟨(some 2), none, (.op (.mov (.dat (.lit (.bool false)))))⟩])
            .ret)
            .skip)))
        (.region none [
          ⟨(some 20), none, (.op (.mov (.tmp 3)))⟩,
          ⟨(some 21), none, (.op (.arith .add (.tmp 20) (.dat (.lit (.int .i64 1)))))⟩,
          ⟨(some 3), none, (.op (.mov (.tmp 21)))⟩]))))))
    (.seq (.region none [
      ⟨(some 2), none, (.op (.mov (.dat (.lit (.bool true)))))⟩])
    .ret))))
  res := [.tmp 2]
theorem c28 : CmpF Tryd.prog 28 a28 := chkF_cmp (F := Tryd.f28) (by kernel_rfl) mixed (by kernel_rfl)
/-- hansard/hansardref18.FewPack -/
def a29 : AF where
  nt := 7
  body := (.seq (.region none [
      ⟨(some 1), none, (.op (.box true (.tmp 0)))⟩,
      ⟨(some 2), none, (.op (.mov (.dat (.lit (.bool false)))))⟩])
    (.seq (.region none [
      ⟨(some 3), none, (.op (.field 2 4 true (.tmp 1)))⟩,
      ⟨(some 4), none, (.op (.field 3 1 false (.tmp 3)))⟩,
      ⟨(some 5), none, (.op (.load 1 false (.tmp 4)))⟩,
      ⟨(some 6), none, (.call (.dat (.fn (.func 62) [] [])) [(.tmp 5)])⟩,
      ⟨(some 2), none, (.op (.mov (.tmp 6)))⟩])
    .ret))
  res := [.tmp 2]
theorem c29 : CmpF Tryd.prog 29 a29 := chkF_cmp (F := Tryd.f29) (by kernel_rfl) mixed (by kernel_rfl)
/-- hansard/feeds.Put -/
def a30 : AF where
  nt := 87
  body := (.seq (.region none [
      ⟨(some 2), none, (.op (.box true (.tmp 0)))⟩,
      ⟨(some 3), none, (.op (.box true (.tmp 1)))⟩,
      ⟨(some 4), none, (.op (.alloc true [.lit (.int .i64 0), .nil 6, .nil 5, .lit (.int .i64 0), .lit (.int .i64 0)]))⟩,
      ⟨(some 5), none, (.op (.mov (.dat (.lit (.int .i64 0)))))⟩])
    (.seq (.seq (.region none [
      ⟨(some 12), none, (.op (.load 5 true (.tmp 2)))⟩,
      ⟨(some 13), none, (.call (.dat (.fn (.func 35) [] [])) [(.tmp 12)])⟩,
      ⟨(some 6), none, (.op (.mov (.tmp 13)))⟩])
    (.seq (.region none [
      ⟨(some 14), none, (.op (.mov (.tmp 6)))⟩,
      ⟨(some 15), none, (.op (.arith .neq (.tmp 14) (.dat (.lit (.int .i64 0)))))⟩])
    (.cond (.tmp 15)
      (.seq (.region none [
        ⟨(some 16), none, (.op (.load 5 true (.tmp 4)))⟩,
        ⟨(some 17), none, (.op (.mov (.tmp 6)))⟩,
        ⟨none, none, (.op (.store 5 (.tmp 4) (.tmp 16)))⟩,
        ⟨(some 5), none, (.op (.mov (.tmp 17)))⟩])
      .ret)
      .skip)))
    (.seq (.seq (.region none [
      ⟨(some 18), none, (.op (.load 6 true (.tmp 3)))⟩,
      ⟨(some 19), none, (.call (.dat (.fn (.func 63) [] [])) [(.tmp 18)])⟩,
      ⟨(some 20), none, (.op (.not (.tmp 19)))⟩])
    (.cond (.tmp 20)
      (.seq (.region none [
        ⟨(some 21), none, (.op (.load 5 true (.tmp 4)))⟩,
        ⟨none, none, (.op (.store 5 (.tmp 4) (.tmp 21)))⟩,
        ⟨(some 5), none, (.op (.mov (.dat (.lit (.int .i64 1)))))⟩])
      .ret)
      .skip))
    (.seq (.seq (.region none [
      ⟨(some 22), none, (.op (.field 0 1 false (.tmp 3)))⟩,
      ⟨(some 23), none, (.op (.load 1 false (.tmp 22)))⟩,
      ⟨(some 24), none, (.op (.field 0 1 false (.tmp 2)))⟩,
      ⟨(some 25), none, (.op (.load 1 false (.tmp 24)))⟩,
      ⟨(some 26), none, (.op (.arith .lss (.tmp 23) (.tmp 25)))⟩])
    (.cond (.tmp 26)
      (.seq (.region none [
        ⟨(some 27), none, (.op (.load 5 true (.tmp 2)))⟩,
        ⟨none, none, (.op (.store 5 (.tmp 4) (.tmp 27)))⟩,
        ⟨(some 5), none, (.op (.mov (.dat (.lit (.int .i64 0)))))⟩])
      .ret)
      .skip))
    (.seq (.region none [
      ⟨(some 29), none, (.op (.field 1 1 false (.tmp 2)))⟩,
      ⟨(some 30), none, (.op (.load 1 false (.tmp 29)))⟩,
      ⟨(some 31), none, (.op (.load 6 true (.tmp 3)))⟩,
      ⟨(some 32), none, (.op (.build [.lit (.int .i64 0), .lit (.int .i64 0), .lit (.int .i64 0), .lit (.int .i64 0), .lit (.int .i64 0), .nil 5] [(0, 6, (.tmp 31))]))⟩,
      ⟨(some 33), none, (.op (.func (.func 65) [(.tmp 32)] []))⟩,
      ⟨(some 34), none, (.call (.dat (.fn (.func 64) [] [])) [(.tmp 30), (.dat (.lit (.int .i64 0))), (.tmp 33)])⟩,
      ⟨(some 28), none, (.op (.mov (.tmp 34)))⟩,
      ⟨(some 35), none, (.op (.extract (.tmp 28) 0))⟩,
      ⟨(some 36), none, (.op (.extract (.tmp 28) 1))⟩,
      ⟨(some 7), none, (.op (.mov (.tmp 35)))⟩,
      ⟨(some 8), none, (.op (.mov (.tmp 36)))⟩])
    (.seq (.block 0
      (.seq (.region (some [[], [0], [0, 1], [0, 1, 2], [0, 1], [0, 1, 2, 3, 4], [0, 1, 2, 3, 4, 5], [0, 1], [0, 1, 2, 3, 4, 5, 6, 7], [0, 1, 2, 3, 4, 5, 6, 7, 8], [0, 1, 2, 3, 4, 5, 6, 7, 8, 9], [0, 1, 2, 3, 4, 5, 6, 7, 8, 9, 10]]) [
        ⟨(some 38), none, (.op (.mov (.tmp 8)))⟩,
        ⟨(some 39), none, (.op (.mov (.tmp 38)))⟩,
        ⟨(some 40), (some (39, true)), (.op (.field 1 1 false (.tmp 2)))⟩,
        ⟨(some 41), (some (39, true)), (.op (.load 1 false (.tmp 40)))⟩,
        ⟨(some 42), (some (39, true)), (.op (.mov (.tmp 7)))⟩,
        ⟨(some 43), (some (39, true)), (.op (.index 6 (.tmp 41) (.tmp 42)))⟩,
        ⟨(some 44), (some (39, true)), (.op (.load 6 true (.tmp 43)))⟩,
        ⟨(some 45), (some (39, true)), (.op (.load 6 true (.tmp 3)))⟩,
        ⟨(some 46), (some (39, true)), (.call (.dat (.fn (.func 66) [] [])) [(.tmp 44), (.tmp 45)])⟩,
        ⟨(some 47), (some (39, true)), (.op (.not (.tmp 46)))⟩,
        ⟨(some 48), none, (.op (.pick (.tmp 39) (.tmp 47) (.dat (.lit (.bool false)))))⟩,
        ⟨(some 37), none, (.op (.mov (.tmp 48)))⟩])
      (.cond (.tmp 37)
        (.seq (.region none [
          ⟨(some 49), none, (.op (.load 5 true (.tmp 4)))⟩,
          ⟨none, none, (.op (.store 5 (.tmp 4) (.tmp 49)))⟩,
          ⟨(some 5), none, (.op (.mov (.dat (.lit (.int .i64 181)))))⟩])
        .ret)
        (.seq (.region none [
          ⟨(some 51), none, (.op (.mov (.tmp 8)))⟩,
          ⟨(some 50), none, (.op (.mov (.tmp 51)))⟩])
        (.cond (.tmp 50)
          (.seq (.region none [
            ⟨(some 52), none, (.op (.load 5 true (.tmp 2)))⟩,
            ⟨none, none, (.op (.store 5 (.tmp 4) (.tmp 52)))⟩,
            ⟨(some 5), none, (.op (.mov (.dat (.lit (.int .i64 0)))))⟩])
          .ret)
          (.seq (.region none [
            ⟨(some 54), none, (.op (.field 0 1 false (.tmp 3)))⟩,
            ⟨(some 55), none, (.op (.load 1 false (.tmp 54)))⟩,
            ⟨(some 56), none, (.op (.field 0 1 false (.tmp 2)))⟩,
            ⟨(some 57), none, (.op (.load 1 false (.tmp 56)))⟩,
            ⟨(some 58), none, (.op (.arith .add (.tmp 57) (.dat (.lit (.int .i64 64)))))⟩,
            ⟨(some 59), none, (.op (.arith .gtr (.tmp 55) (.tmp 58)))⟩,
            ⟨(some 53), none, (.op (.mov (.tmp 59)))⟩])
          (.cond (.tmp 53)
            (.seq (.region none [
              ⟨(some 60), none, (.op (.load 5 true (.tmp 4)))⟩,
              ⟨none, none, (.op (.store 5 (.tmp 4) (.tmp 60)))⟩,
              ⟨(some 5), none, (.op (.mov (.dat (.lit (.int .i64 2)))))⟩])
            .ret)
            .skip)))))))
    (.seq (.region (some [[], [0], [0, 1], [], [], [4], [0, 1, 2, 3, 4, 5], [0, 1, 2, 3, 4, 5, 6], [0, 1, 2, 3, 4, 5, 6, 7]]) [
      ⟨(some 61), none, (.op (.field 1 1 false (.tmp 2)))⟩,
      ⟨(some 62), none, (.op (.load 1 false (.tmp 61)))⟩,
      ⟨(some 63), none, (.op (.ext (.libClone 68 6 64) [(.tmp 62)]))⟩,
      ⟨(some 64), none, (.op (.mov (.tmp 7)))⟩,
      ⟨(some 65), none, (.op (.load 6 true (.tmp 3)))⟩,
      ⟨(some 66), none, (.op (.ext (.mkslW 6) [(.tmp 65)]))⟩,
      ⟨(some 67), none, (.op (.ext (.libIns 67 6 64) [(.tmp 63), (.tmp 64), (.tmp 66)]))⟩,
      ⟨(some 68), none, (.op (.field 1 1 false (.tmp 2)))⟩,
      ⟨none, none, (.op (.store 1 (.tmp 68) (.tmp 67)))⟩])
    (.seq (.seq (.sregion [
      ⟨(some 69), none, (.icall (.dat (.fn (.func 69) [] [])) [(.tmp 2)])⟩])
    (.block 1
      (.range (.tmp 69) [70]
        (.region none [
          ⟨(some 9), none, (.op (.alloc true [.lit (.int .i64 0), .lit (.int .i64 0), .lit (.int .i64 0), .nil 5]))⟩,
          ⟨none, none, (.op (.store 4 (.tmp 9) (.tmp 70)))⟩])
        (.block 2
          (.seq (.region none [
            ⟨(some 72), none, (.op (.field 2 2 true (.tmp 2)))⟩,
            ⟨(some 73), none, (.op (.load 2 true (.tmp 72)))⟩,
            ⟨(some 74), none, (.op (.load 4 true (.tmp 9)))⟩,
            ⟨(some 75), none, (.call (.dat (.fn (.func 25) [] [])) [(.tmp 73), (.tmp 74)])⟩,
            ⟨(some 71), none, (.op (.mov (.tmp 75)))⟩,
            ⟨(some 76), none, (.op (.extract (.tmp 71) 0))⟩,
            ⟨(some 77), none, (.op (.extract (.tmp 71) 1))⟩,
            ⟨(some 10), none, (.op (.alloc true [.nil 5, .lit (.int .i64 0)]))⟩,
            ⟨none, none, (.op (.store 2 (.tmp 10) (.tmp 76)))⟩,
            ⟨(some 11), none, (.op (.mov (.tmp 77)))⟩])
          (.seq (.region none [
            ⟨(some 78), none, (.op (.mov (.tmp 11)))⟩,
            ⟨(some 79), none, (.op (.arith .eql (.tmp 78) (.dat (.lit (.int .i64 0)))))⟩])
          (.cond (.tmp 79)
            (.region none [
              ⟨(some 80), none, (.op (.load 2 true (.tmp 10)))⟩,
              ⟨(some 81), none, (.op (.field 2 2 true (.tmp 2)))⟩,
              ⟨none, none, (.op (.store 2 (.tmp 81) (.tmp 80)))⟩])
            (.region none [
              ⟨(some 82), none, (.op (.field 4 1 false (.tmp 2)))⟩,
              ⟨(some 83), none, (.op (.load 1 false (.tmp 82)))⟩,
              ⟨(some 84), none, (.op (.arith .add (.tmp 83) (.dat (.lit (.int .i64 1)))))⟩,
              ⟨(some 85), none, (.op (.field 4 1 false (.tmp 2)))⟩,
              ⟨none, none, (.op (.store 1 (.tmp 85) (.tmp 84)))⟩]))))))))
    (.seq (.region none [
      ⟨(some 86), none, (.op (.load 5 true (.tmp 2)))⟩,
      ⟨none, none, (.op (.store 5 (.tmp 4) (.tmp 86)))⟩,
      ⟨(some 5), none, (.op (.mov (.dat (.lit (.int .i64 0)))))⟩])
    .ret)))))))))
  res := [.cell 4 5 true, .tmp 5]
theorem c30 : CmpF Tryd.prog 30 a30 := chkF_cmpL lib0 (F := Tryd.f30) (by kernel_rfl) mixed (by kernel_rfl)
/-- hansard/hansardref18.Put -/
def a31 : AF where
  nt := 110
  body := (.seq (.region none [
      ⟨(some 2), none, (.op (.box true (.tmp 0)))⟩,
      ⟨(some 3), none, (.op (.box true (.tmp 1)))⟩,
      ⟨(some 4), none, (.op (.alloc true [.lit (.int .i64 0), .nil 6, .nil 5, .lit (.int .i64 0), .lit (.int .i64 0)]))⟩,
      ⟨(some 5), none, (.op (.mov (.dat (.lit (.int .i64 0)))))⟩])
    (.seq (.seq (.region none [
      ⟨(some 8), none, (.op (.load 5 true (.tmp 2)))⟩,
      ⟨(some 9), none, (.call (.dat (.fn (.func 36) [] [])) [(.tmp 8)])⟩,
      ⟨(some 10), none, (.op (.arith .neq (.tmp 9) (.dat (.lit (.int .i64 0)))))⟩])
    (.cond (.tmp 10)
      (.seq (.region none [
        ⟨(some 11), none, (.op (.build [.lit (.int .i64 0), .nil 6, .nil 5, .lit (.int .i64 0), .lit (.int .i64 0)] []))⟩,
        ⟨none, none, (.op (.store 5 (.tmp 4) (.tmp 11)))⟩,
        ⟨(some 5), none, (.op (.mov (.dat (.lit (.int .i64 180)))))⟩])
      .ret)
      .skip))
    (.seq (.seq (.region none [
      ⟨(some 12), none, (.op (.load 6 true (.tmp 3)))⟩,
      ⟨(some 13), none, (.call (.dat (.fn (.func 70) [] [])) [(.tmp 12)])⟩,
      ⟨(some 14), none, (.op (.not (.tmp 13)))⟩])
    (.cond (.tmp 14)
      (.seq (.region none [
        ⟨(some 15), none, (.op (.build [.lit (.int .i64 0), .nil 6, .nil 5, .lit (.int .i64 0), .lit (.int .i64 0)] []))⟩,
        ⟨none, none, (.op (.store 5 (.tmp 4) (.tmp 15)))⟩,
        ⟨(some 5), none, (.op (.mov (.dat (.lit (.int .i64 1)))))⟩])
      .ret)
      .skip))
    (.seq (.seq (.region none [
      ⟨(some 16), none, (.op (.field 0 1 false (.tmp 3)))⟩,
      ⟨(some 17), none, (.op (.load 1 false (.tmp 16)))⟩,
      ⟨(some 18), none, (.op (.field 0 1 false (.tmp 2)))⟩,
      ⟨(some 19), none, (.op (.load 1 false (.tmp 18)))⟩,
      ⟨(some 20), none, (.op (.arith .lss (.tmp 17) (.tmp 19)))⟩])
    (.cond (.tmp 20)
      (.seq (.region none [
        ⟨(some 21), none, (.op (.load 5 true (.tmp 2)))⟩,
        ⟨none, none, (.op (.store 5 (.tmp 4) (.tmp 21)))⟩,
        ⟨(some 5), none, (.op (.mov (.dat (.lit (.int .i64 0)))))⟩])
      .ret)
      .skip))
    (.seq (.region none [
      ⟨(some 6), none, (.op (.mov (.dat (.lit (.int .i64 0)))))⟩])
    (.seq (.block 0
      (.loop
        (.seq (.seq (.region (some [[], [], [1], [1, 2], [0, 1, 2, 3], [0, 1, 2, 3, 4], [0, 1, 2, 3, 4, 5], [0, 1, 2, 3, 4, 5, 6], [0, 1, 2, 3, 4, 5], [0, 1, 2, 3, 4, 5, 6, 7, 8], [0, 1, 2, 3, 4, 5, 6, 7, 8, 9], [0, 1, 2, 3, 4, 5, 6, 7, 8, 9, 10], [0, 1, 2, 3, 4, 5], [0, 1, 2, 3, 4, 5, 12], [0, 1, 2, 3, 4, 5, 6, 7, 8, 9, 10, 11, 12, 13], [0, 1, 2, 3, 4, 5, 6, 7, 8, 9, 10, 11, 12, 13, 14]]) [
          ⟨(some 22), none, (.op (.mov (.tmp 6)))⟩,
          ⟨(some 23), none, (.op (.field 1 1 false (.tmp 2)))⟩,
          ⟨(some 24), none, (.op (.load 1 false (.tmp 23)))⟩,
          ⟨(some 25), none, (.op (.len (.tmp 24)))⟩,
          ⟨(some 26), none, (.op (.arith .lss (.tmp 22) (.tmp 25)))⟩,
          ⟨(some 27), none, (.op (.mov (.tmp 26)))⟩,
          ⟨(some 28), (some (27, true)), (.op (.field 1 1 false (.tmp 2)))⟩,
          ⟨(some 29), (some (27, true)), (.op (.load 1 false (.tmp 28)))⟩,
          ⟨(some 30), (some (27, true)), (.op (.mov (.tmp 6)))⟩,
          ⟨(some 31), (some (27, true)), (.op (.index 6 (.tmp 29) (.tmp 30)))⟩,
          ⟨(some 32), (some (27, true)), (.op (.field 0 1 false (.tmp 31)))⟩,
          ⟨(some 33), (some (27, true)), (.op (.load 1 false (.tmp 32)))⟩,
          ⟨(some 34), (some (27, true)), (.op (.field 0 1 false (.tmp 3)))⟩,
          ⟨(some 35), (some (27, true)), (.op (.load 1 false (.tmp 34)))⟩,
          ⟨(some 36), (some (27, true)), (.op (.arith .lss (.tmp 33) (.tmp 35)))⟩,
          ⟨(some 37), none, (.op (.pick (.tmp 27) (.tmp 36) (.dat (.lit (.bool false)))))⟩])
        (.cond (.tmp 37)
          .skip
          (.exit 0)))
        (.block 1
          (.region none [
            ⟨(some 38), none, (.op (.mov (.tmp 6)))⟩,
            ⟨(some 39), none, (.op (.arith .add (.tmp 38) (.dat (.lit (.int .i64 1)))))⟩,
            ⟨(some 6), none, (.op (.mov (.tmp 39)))⟩])))))
    (.seq (.seq (.region (some [[], [], [1], [1, 2], [0, 1, 2, 3], [0, 1, 2, 3, 4], [0, 1, 2, 3, 4, 5], [0, 1, 2, 3, 4, 5, 6], [0, 1, 2, 3, 4, 5], [0, 1, 2, 3, 4, 5, 6, 7, 8], [0, 1, 2, 3, 4, 5, 6, 7, 8, 9], [0, 1, 2, 3, 4, 5, 6, 7, 8, 9, 10], [0, 1, 2, 3, 4, 5], [0, 1, 2, 3, 4, 5, 12], [0, 1, 2, 3, 4, 5, 6, 7, 8, 9, 10, 11, 12, 13], [0, 1, 2, 3, 4, 5, 6, 7, 8, 9, 10, 11, 12, 13, 14]]) [
      ⟨(some 40), none, (.op (.mov (.tmp 6)))⟩,
      ⟨(some 41), none, (.op (.field 1 1 false (.tmp 2)))⟩,
      ⟨(some 42), none, (.op (.load 1 false (.tmp 41)))⟩,
      ⟨(some 43), none, (.op (.len (.tmp 42)))⟩,
      ⟨(some 44), none, (.op (.arith .lss (.tmp 40) (.tmp 43)))⟩,
      ⟨(some 45), none, (.op (.mov (.tmp 44)))⟩,
      ⟨(some 46), (some (45, true)), (.op (.field 1 1 false (.tmp 2)))⟩,
      ⟨(some 47), (some (45, true)), (.op (.load 1 false (.tmp 46)))⟩,
      ⟨(some 48), (some (45, true)), (.op (.mov (.tmp 6)))⟩,
      ⟨(some 49), (some (45, true)), (.op (.index 6 (.tmp 47) (.tmp 48)))⟩,
      ⟨(some 50), (some (45, true)), (.op (.field 0 1 false (.tmp 49)))⟩,
      ⟨(some 51), (some (45, true)), (.op (.load 1 false (.tmp 50)))⟩,
      ⟨(some 52), (some (45, true)), (.op (.field 0 1 false (.tmp 3)))⟩,
      ⟨(some 53), (some (45, true)), (.op (.load 1 false (.tmp 52)))⟩,
      ⟨(some 54), (some (45, true)), (.op (.arith .eql (.tmp 51) (.tmp 53)))⟩,
      ⟨(some 55), none, (.op (.pick (.tmp 45) (.tmp 54) (.dat (.lit (.bool false)))))⟩])
    (.cond (.tmp 55)
      (.seq (.seq (.region (some [[], [0], [], [0, 1, 2], [0, 1, 2, 3], [], [0, 1, 2, 3, 4, 5], [0, 1, 2, 3, 4, 5, 6]]) [
        ⟨(some 56), none, (.op (.field 1 1 false (.tmp 2)))⟩,
        ⟨(some 57), none, (.op (.load 1 false (.tmp 56)))⟩,
        ⟨(some 58), none, (.op (.mov (.tmp 6)))⟩,
        ⟨(some 59), none, (.op (.index 6 (.tmp 57) (.tmp 58)))⟩,
        ⟨(some 60), none, (.op (.load 6 true (.tmp 59)))⟩,
        ⟨(some 61), none, (.op (.load 6 true (.tmp 3)))⟩,
        ⟨(some 62), none, (.call (.dat (.fn (.func 71) [] [])) [(.tmp 60), (.tmp 61)])⟩,
        ⟨(some 63), none, (.op (.not (.tmp 62)))⟩])
      (.cond (.tmp 63)
        (.seq (.region none [
          ⟨(some 64), none, (.op (.build [.lit (.int .i64 0), .nil 6, .nil 5, .lit (.int .i64 0), .lit (.int .i64 0)] []))⟩,
          ⟨none, none, (.op (.store 5 (.tmp 4) (.tmp 64)))⟩,
          ⟨(some 5), none, (.op (.mov (.dat (.lit (.int .i64 181)))))⟩])
        .ret)
        .skip))
      (.seq (.region none [
        ⟨(some 65), none, (.op (.load 5 true (.tmp 2)))⟩,
        ⟨none, none, (.op (.store 5 (.tmp 4) (.tmp 65)))⟩,
        ⟨(some 5), none, (.op (.mov (.dat (.lit (.int .i64 0)))))⟩])
      .ret))
      .skip))
    (.seq (.seq (.region none [
      ⟨(some 66), none, (.op (.field 0 1 false (.tmp 3)))⟩,
      ⟨(some 67), none, (.op (.load 1 false (.tmp 66)))⟩,
      ⟨(some 68), none, (.op (.field 0 1 false (.tmp 2)))⟩,
      ⟨(some 69), none, (.op (.load 1 false (.tmp 68)))⟩,
      ⟨(some 70), none, (.op (.arith .add (.tmp 69) (.dat (.lit (.int .i64 64)))))⟩,
      ⟨(some 71), none, (.op (.arith .gtr (.tmp 67) (.tmp 70)))⟩])
    (.cond (.tmp 71)
      (.seq (.region none [
        ⟨(some 72), none, (.op (.build [.lit (.int .i64 0), .nil 6, .nil 5, .lit (.int .i64 0), .lit (.int .i64 0)] []))⟩,
        ⟨none, none, (.op (.store 5 (.tmp 4) (.tmp 72)))⟩,
        ⟨(some 5), none, (.op (.mov (.dat (.lit (.int .i64 2)))))⟩])
      .ret)
      .skip))
    (.seq (.region (some [[], [], [1], [], [1, 2, 3], [0, 1, 2, 3, 4], [], [6], [0, 1, 2, 3, 4, 5, 6, 7], [], [9], [], [9, 10, 11], [0, 1, 2, 3, 4, 5, 6, 7, 8, 9, 10, 11, 12], [0, 1, 2, 3, 4, 5, 6, 7, 8, 9, 10, 11, 12, 13]]) [
      ⟨(some 73), none, (.op (.mkslice 6 []))⟩,
      ⟨(some 74), none, (.op (.field 1 1 false (.tmp 2)))⟩,
      ⟨(some 75), none, (.op (.load 1 false (.tmp 74)))⟩,
      ⟨(some 76), none, (.op (.mov (.tmp 6)))⟩,
      ⟨(some 77), none, (.op (.slice 6 (.tmp 75) none (some (.tmp 76))))⟩,
      ⟨(some 78), none, (.op (.append 6 64 (.tmp 73) (.tmp 77)))⟩,
      ⟨(some 79), none, (.op (.load 6 true (.tmp 3)))⟩,
      ⟨(some 80), none, (.op (.mkslice 6 [(.tmp 79)]))⟩,
      ⟨(some 81), none, (.op (.append 6 64 (.tmp 78) (.tmp 80)))⟩,
      ⟨(some 82), none, (.op (.field 1 1 false (.tmp 2)))⟩,
      ⟨(some 83), none, (.op (.load 1 false (.tmp 82)))⟩,
      ⟨(some 84), none, (.op (.mov (.tmp 6)))⟩,
      ⟨(some 85), none, (.op (.slice 6 (.tmp 83) (some (.tmp 84)) none))⟩,
      ⟨(some 86), none, (.op (.append 6 64 (.tmp 81) (.tmp 85)))⟩,
      ⟨(some 7), none, (.op (.mov (.tmp 86)))⟩])
    (.seq (.block 2
      (.loop
        (.seq (.seq (.region (some [[], [0], [0, 1], [0, 1, 2], [0, 1, 2, 3], [0, 1, 2, 3, 4], [0, 1, 2, 3, 4, 5], [0, 1, 2, 3, 4, 5, 6], [0, 1, 2, 3], [0, 1, 2, 3, 8], [0, 1, 2, 3, 4, 5, 6, 7, 8, 9], [0, 1, 2, 3, 4, 5, 6, 7, 8, 9, 10]]) [
          ⟨(some 87), none, (.op (.mov (.tmp 7)))⟩,
          ⟨(some 88), none, (.op (.len (.tmp 87)))⟩,
          ⟨(some 89), none, (.op (.arith .gtr (.tmp 88) (.dat (.lit (.int .i64 0)))))⟩,
          ⟨(some 90), none, (.op (.mov (.tmp 89)))⟩,
          ⟨(some 91), (some (90, true)), (.op (.mov (.tmp 7)))⟩,
          ⟨(some 92), (some (90, true)), (.op (.index 6 (.tmp 91) (.dat (.lit (.int .i64 0)))))⟩,
          ⟨(some 93), (some (90, true)), (.op (.field 0 1 false (.tmp 92)))⟩,
          ⟨(some 94), (some (90, true)), (.op (.load 1 false (.tmp 93)))⟩,
          ⟨(some 95), (some (90, true)), (.op (.field 0 1 false (.tmp 2)))⟩,
          ⟨(some 96), (some (90, true)), (.op (.load 1 false (.tmp 95)))⟩,
          ⟨(some 97), (some (90, true)), (.op (.arith .eql (.tmp 94) (.tmp 96)))⟩,
          ⟨(some 98), none, (.op (.pick (.tmp 90) (.tmp 97) (.dat (.lit (.bool false)))))⟩])
        (.cond (.tmp 98)
          .skip
          (.exit 2)))
        (.block 3
          (.seq (.region (some [[], [], [1], [1, 2], [1, 2, 3], [0, 1, 2, 3, 4], [0, 1, 2, 3, 4, 5]]) [
            ⟨(some 99), none, (.op (.load 5 true (.tmp 2)))⟩,
            ⟨(some 100), none, (.op (.mov (.tmp 7)))⟩,
            ⟨(some 101), none, (.op (.index 6 (.tmp 100) (.dat (.lit (.int .i64 0)))))⟩,
            ⟨(some 102), none, (.op (.field 2 4 true (.tmp 101)))⟩,
            ⟨(some 103), none, (.op (.load 4 true (.tmp 102)))⟩,
            ⟨(some 104), none, (.call (.dat (.fn (.func 72) [] [])) [(.tmp 99), (.tmp 103)])⟩,
            ⟨none, none, (.op (.store 5 (.tmp 2) (.tmp 104)))⟩])
          (.region none [
            ⟨(some 105), none, (.op (.mov (.tmp 7)))⟩,
            ⟨(some 106), none, (.op (.slice 6 (.tmp 105) (some (.dat (.lit (.int .i64 1)))) none))⟩,
            ⟨(some 7), none, (.op (.mov (.tmp 106)))⟩]))))))
    (.seq (.region none [
      ⟨(some 107), none, (.op (.mov (.tmp 7)))⟩,
      ⟨(some 108), none, (.op (.field 1 1 false (.tmp 2)))⟩,
      ⟨none, none, (.op (.store 1 (.tmp 108) (.tmp 107)))⟩])
    (.seq (.region none [
      ⟨(some 109), none, (.op (.load 5 true (.tmp 2)))⟩,
      ⟨none, none, (.op (.store 5 (.tmp 4) (.tmp 109)))⟩,
      ⟨(some 5), none, (.op (.mov (.dat (.lit (.int .i64 0)))))⟩])
    .ret))))))))))))
  res := [.cell 4 5 true, .tmp 5]
theorem c31 : CmpF Tryd.prog 31 a31 := chkF_cmp (F := Tryd.f31) (by kernel_rfl) mixed (by kernel_rfl)
/-- hansard/hansardref18.Same -/
def a32 : AF where
  nt := 54
  body := (.seq (.region none [
      ⟨(some 2), none, (.op (.box true (.tmp 0)))⟩,
      ⟨(some 3), none, (.op (.box true (.tmp 1)))⟩,
      ⟨(some 4), none, (.op (.mov (.dat (.lit (.bool false)))))⟩])
    (.seq (.seq (.region none [
      ⟨(some 6), none, (.op (.field 0 1 false (.tmp 2)))⟩,
      ⟨(some 7), none, (.op (.load 1 false (.tmp 6)))⟩,
      ⟨(some 8), none, (.op (.field 0 1 false (.tmp 3)))⟩,
      ⟨(some 9), none, (.op (.load 1 false (.tmp 8)))⟩,
      ⟨(some 10), none, (.op (.arith .neq (.tmp 7) (.tmp 9)))⟩,
      ⟨(some 11), none, (.op (.mov (.tmp 10)))⟩,
      ⟨(some 12), (some (11, false)), (.op (.field 4 1 false (.tmp 2)))⟩,
      ⟨(some 13), (some (11, false)), (.op (.load 1 false (.tmp 12)))⟩,
      ⟨(some 14), (some (11, false)), (.op (.field 4 1 false (.tmp 3)))⟩,
      ⟨(some 15), (some (11, false)), (.op (.load 1 false (.tmp 14)))⟩,
      ⟨(some 16), (some (11, false)), (.op (.arith .neq (.tmp 13) (.tmp 15)))⟩,
      ⟨(some 17), none, (.op (.pick (.tmp 11) (.dat (.lit (.bool true))) (.tmp 16)))⟩,
      ⟨(some 18), none, (.op (.mov (.tmp 17)))⟩,
      ⟨(some 19), (some (18, false)), (.op (.field 1 1 false (.tmp 2)))⟩,
      ⟨(some 20), (some (18, false)), (.op (.load 1 false (.tmp 19)))⟩,
      ⟨(some 21), (some (18, false)), (.op (.len (.tmp 20)))⟩,
      ⟨(some 22), (some (18, false)), (.op (.field 1 1 false (.tmp 3)))⟩,
      ⟨(some 23), (some (18, false)), (.op (.load 1 false (.tmp 22)))⟩,
      ⟨(some 24), (some (18, false)), (.op (.len (.tmp 23)))⟩,
      ⟨(some 25), (some (18, false)), (.op (.arith .neq (.tmp 21) (.tmp 24)))⟩,
      ⟨(some 26), none, (.op (.pick (.tmp 18) (.dat (.lit (.bool true))) (.tmp 25)))⟩,
      ⟨(some 27), none, (.op (.mov (.tmp 26)))⟩,
      ⟨(some 28), (some (27, false)), (.op (.field 2 2 true (.tmp 2)))⟩,
      ⟨(some 29), (some (27, false)), (.op (.load 2 true (.tmp 28)))⟩,
      ⟨(some 30), (some (27, false)), (.op (.field 2 2 true (.tmp 3)))⟩,
      ⟨(some 31), (some (27, false)), (.op (.load 2 true (.tmp 30)))⟩,
      ⟨(some 32), (some (27, false)), (.call (.dat (.fn (.func 41) [] [])) [(.tmp 29), (.tmp 31)])⟩,
      ⟨(some 33), (some (27, false)), (.op (.not (.tmp 32)))⟩,
      ⟨(some 34), none, (.op (.pick (.tmp 27) (.dat (.lit (.bool true))) (.tmp 33)))⟩])
    (.cond (.tmp 34)
      (.seq (.region none [
        ⟨(some 4), none, (.op (.mov (.dat (.lit (.bool false)))))⟩])
      .ret)
      .skip))
    (.seq (.seq (.region none [
      ⟨(some 5), none, (.op (.mov (.dat (.lit (.int .i64 0)))))⟩])
    (.block 0
      (.loop
        (.seq (.seq (.region none [
          ⟨(some 35), none, (.op (.mov (.tmp 5)))⟩,
          ⟨(some 36), none, (.op (.field 1 1 false (.tmp 2)))⟩,
          ⟨(some 37), none, (.op (.load 1 false (.tmp 36)))⟩,
          ⟨(some 38), none, (.op (.len (.tmp 37)))⟩,
          ⟨(some 39), none, (.op (.arith .lss (.tmp 35) (.tmp 38)))⟩])
        (.cond (.tmp 39)
          .skip
          (.exit 0)))
        (.seq (.block 1
          (.seq (.region (some [[], [0], [], [0, 1, 2], [0, 1, 2, 3], [], [5], [], [5, 6, 7], [5, 6, 7, 8], [0, 1, 2, 3, 4, 5, 6, 7, 8, 9], [0, 1, 2, 3, 4, 5, 6, 7, 8, 9, 10]]) [
            ⟨(some 42), none, (.op (.field 1 1 false (.tmp 2)))⟩,
            ⟨(some 43), none, (.op (.load 1 false (.tmp 42)))⟩,
            ⟨(some 44), none, (.op (.mov (.tmp 5)))⟩,
            ⟨(some 45), none, (.op (.index 6 (.tmp 43) (.tmp 44)))⟩,
            ⟨(some 46), none, (.op (.load 6 true (.tmp 45)))⟩,
            ⟨(some 47), none, (.op (.field 1 1 false (.tmp 3)))⟩,
            ⟨(some 48), none, (.op (.load 1 false (.tmp 47)))⟩,
            ⟨(some 49), none, (.op (.mov (.tmp 5)))⟩,
            ⟨(some 50), none, (.op (.index 6 (.tmp 48) (.tmp 49)))⟩,
            ⟨(some 51), none, (.op (.load 6 true (.tmp 50)))⟩,
            ⟨(some 52), none, (.call (.dat (.fn (.func 71) [] [])) [(.tmp 46), (.tmp 51)])⟩,
            ⟨(some 53), none, (.op (.not (.tmp 52)))⟩])
          (.cond (.tmp 53)
            (.seq (.region none [
              ⟨(some 4), none, (.op (.mov (.dat (.lit (.bool false)))))⟩])
            .ret)
            .skip)))
        (.region none [
          ⟨(some 40), none, (.op (.mov (.tmp 5)))⟩,
          ⟨(some 41), none, (.op (.arith .add (.tmp 40) (.dat (.lit (.int .i64 1)))))⟩,
          ⟨(some 5), none, (.op (.mov (.tmp 41)))⟩]))))))
    (.seq (.region none [
      ⟨(some 4), none, (.op (.mov (.dat (.lit (.bool true)))))⟩])
    .ret))))
  res := [.tmp 4]
theorem c32 : CmpF Tryd.prog 32 a32 := chkF_cmp (F := Tryd.f32) (by kernel_rfl) mixed (by kernel_rfl)
/-- hansard/feeds.New -/
def a33 : AF where
  nt := 1
  body := (.seq (.region none [
      ⟨(some 0), none, (.op (.alloc true [.lit (.int .i64 0), .nil 6, .nil 5, .lit (.int .i64 0), .lit (.int .i64 0)]))⟩])
    .ret)
  res := [.cell 0 5 true]
theorem c33 : CmpF Tryd.prog 33 a33 := chkF_cmp (F := Tryd.f33) (by kernel_rfl) mixed (by kernel_rfl)
/-- hansard/hansardref18.New -/
def a34 : AF where
  nt := 2
  body := (.seq (.region none [
      ⟨(some 0), none, (.op (.alloc true [.lit (.int .i64 0), .nil 6, .nil 5, .lit (.int .i64 0), .lit (.int .i64 0)]))⟩])
    (.seq (.region none [
      ⟨(some 1), none, (.op (.build [.lit (.int .i64 0), .nil 6, .nil 5, .lit (.int .i64 0), .lit (.int .i64 0)] []))⟩,
      ⟨none, none, (.op (.store 5 (.tmp 0) (.tmp 1)))⟩])
    .ret))
  res := [.cell 0 5 true]
theorem c34 : CmpF Tryd.prog 34 a34 := chkF_cmp (F := Tryd.f34) (by kernel_rfl) mixed (by kernel_rfl)
/-- hansard/feeds.Check -/
def a35 : AF where
  nt := 40
  body := (.seq (.region none [
      ⟨(some 1), none, (.op (.box true (.tmp 0)))⟩,
      ⟨(some 2), none, (.op (.mov (.dat (.lit (.int .i64 0)))))⟩])
    (.seq (.region none [
      ⟨(some 5), none, (.op (.field 0 1 false (.tmp 1)))⟩,
      ⟨(some 6), none, (.op (.load 1 false (.tmp 5)))⟩,
      ⟨(some 3), none, (.op (.alloc false [.lit (.int .i64 0)]))⟩,
      ⟨none, none, (.op (.store 1 (.tmp 3) (.tmp 6)))⟩])
    (.seq (.region none [
      ⟨(some 7), none, (.op (.func (.func 73) [] [(.tmp 3), (.tmp 1)]))⟩,
      ⟨(some 4), none, (.op (.mov (.tmp 7)))⟩])
    (.seq (.seq (.sregion [
      ⟨(some 8), none, (.op (.field 0 1 false (.tmp 1)))⟩,
      ⟨(some 9), none, (.op (.load 1 false (.tmp 8)))⟩,
      ⟨(some 10), none, (.op (.arith .lss (.tmp 9) (.dat (.lit (.int .i64 0)))))⟩,
      ⟨(some 11), none, (.op (.mov (.tmp 10)))⟩,
      ⟨(some 12), (some (11, false)), (.op (.field 0 1 false (.tmp 1)))⟩,
      ⟨(some 13), (some (11, false)), (.op (.load 1 false (.tmp 12)))⟩,
      ⟨(some 14), (some (11, false)), (.op (.arith .gtr (.tmp 13) (.dat (.lit (.int .i64 1048577)))))⟩,
      ⟨(some 15), none, (.op (.pick (.tmp 11) (.dat (.lit (.bool true))) (.tmp 14)))⟩,
      ⟨(some 16), none, (.op (.mov (.tmp 15)))⟩,
      ⟨(some 17), (some (16, false)), (.op (.field 4 1 false (.tmp 1)))⟩,
      ⟨(some 18), (some (16, false)), (.op (.load 1 false (.tmp 17)))⟩,
      ⟨(some 19), (some (16, false)), (.op (.arith .lss (.tmp 18) (.dat (.lit (.int .i64 0)))))⟩,
      ⟨(some 20), none, (.op (.pick (.tmp 16) (.dat (.lit (.bool true))) (.tmp 19)))⟩,
      ⟨(some 21), none, (.op (.mov (.tmp 20)))⟩,
      ⟨(some 22), (some (21, false)), (.op (.field 4 1 false (.tmp 1)))⟩,
      ⟨(some 23), (some (21, false)), (.op (.load 1 false (.tmp 22)))⟩,
      ⟨(some 24), (some (21, false)), (.op (.field 0 1 false (.tmp 1)))⟩,
      ⟨(some 25), (some (21, false)), (.op (.load 1 false (.tmp 24)))⟩,
      ⟨(some 26), (some (21, false)), (.op (.arith .gtr (.tmp 23) (.tmp 25)))⟩,
      ⟨(some 27), none, (.op (.pick (.tmp 21) (.dat (.lit (.bool true))) (.tmp 26)))⟩,
      ⟨(some 28), none, (.op (.mov (.tmp 27)))⟩,
      ⟨(some 29), (some (28, false)), (.op (.field 2 2 true (.tmp 1)))⟩,
      ⟨(some 30), (some (28, false)), (.op (.load 2 true (.tmp 29)))⟩,
      ⟨(some 31), (some (28, false)), (.call (.dat (.fn (.func 23) [] [])) [(.tmp 30)])⟩,
      ⟨(some 32), (some (28, false)), (.op (.arith .neq (.tmp 31) (.dat (.lit (.int .i64 0)))))⟩,
      ⟨(some 33), none, (.op (.pick (.tmp 28) (.dat (.lit (.bool true))) (.tmp 32)))⟩,
      ⟨(some 34), none, (.op (.mov (.tmp 33)))⟩,
      ⟨(some 35), (some (34, false)), (.op (.field 1 1 false (.tmp 1)))⟩,
      ⟨(some 36), (some (34, false)), (.op (.load 1 false (.tmp 35)))⟩,
      ⟨(some 37), (some (34, false)), (.op (.mov (.tmp 4)))⟩,
      ⟨(some 38), (some (34, false)), (.icall (.dat (.fn (.func 74) [] [])) [(.tmp 36), (.tmp 37)])⟩,
      ⟨(some 39), none, (.op (.pick (.tmp 34) (.dat (.lit (.bool true))) (.tmp 38)))⟩])
    (.cond (.tmp 39)
      (.seq (.region none [
        ⟨(some 2), none, (.op (.mov (.dat (.lit (.int .i64 180)))))⟩])
      .ret)
      .skip))
    (.seq (.region none [
      ⟨(some 2), none, (.op (.mov (.dat (.lit (.int .i64 0)))))⟩])
    .ret)))))
  res := [.tmp 2]
theorem c35 : CmpF Tryd.prog 35 a35 := chkF_cmp (F := Tryd.f35) (by kernel_rfl) mixed (by kernel_rfl)
/-- hansard/hansardref18.Check -/
def a36 : AF where
  nt := 83
  body := (.seq (.region none [
      ⟨(some 1), none, (.op (.box true (.tmp 0)))⟩,
      ⟨(some 2), none, (.op (.mov (.dat (.lit (.int .i64 0)))))⟩])
    (.seq (.seq (.region none [
      ⟨(some 5), none, (.op (.field 0 1 false (.tmp 1)))⟩,
      ⟨(some 6), none, (.op (.load 1 false (.tmp 5)))⟩,
      ⟨(some 7), none, (.op (.arith .lss (.tmp 6) (.dat (.lit (.int .i64 0)))))⟩,
      ⟨(some 8), none, (.op (.mov (.tmp 7)))⟩,
      ⟨(some 9), (some (8, false)), (.op (.field 0 1 false (.tmp 1)))⟩,
      ⟨(some 10), (some (8, false)), (.op (.load 1 false (.tmp 9)))⟩,
      ⟨(some 11), (some (8, false)), (.op (.arith .gtr (.tmp 10) (.dat (.lit (.int .i64 1048577)))))⟩,
      ⟨(some 12), none, (.op (.pick (.tmp 8) (.dat (.lit (.bool true))) (.tmp 11)))⟩,
      ⟨(some 13), none, (.op (.mov (.tmp 12)))⟩,
      ⟨(some 14), (some (13, false)), (.op (.field 4 1 false (.tmp 1)))⟩,
      ⟨(some 15), (some (13, false)), (.op (.load 1 false (.tmp 14)))⟩,
      ⟨(some 16), (some (13, false)), (.op (.arith .lss (.tmp 15) (.dat (.lit (.int .i64 0)))))⟩,
      ⟨(some 17), none, (.op (.pick (.tmp 13) (.dat (.lit (.bool true))) (.tmp 16)))⟩,
      ⟨(some 18), none, (.op (.mov (.tmp 17)))⟩,
      ⟨(some 19), (some (18, false)), (.op (.field 4 1 false (.tmp 1)))⟩,
      ⟨(some 20), (some (18, false)), (.op (.load 1 false (.tmp 19)))⟩,
      ⟨(some 21), (some (18, false)), (.op (.field 0 1 false (.tmp 1)))⟩,
      ⟨(some 22), (some (18, false)), (.op (.load 1 false (.tmp 21)))⟩,
      ⟨(some 23), (some (18, false)), (.op (.arith .gtr (.tmp 20) (.tmp 22)))⟩,
      ⟨(some 24), none, (.op (.pick (.tmp 18) (.dat (.lit (.bool true))) (.tmp 23)))⟩,
      ⟨(some 25), none, (.op (.mov (.tmp 24)))⟩,
      ⟨(some 26), (some (25, false)), (.op (.field 2 2 true (.tmp 1)))⟩,
      ⟨(some 27), (some (25, false)), (.op (.load 2 true (.tmp 26)))⟩,
      ⟨(some 28), (some (25, false)), (.call (.dat (.fn (.func 45) [] [])) [(.tmp 27)])⟩,
      ⟨(some 29), (some (25, false)), (.op (.arith .neq (.tmp 28) (.dat (.lit (.int .i64 0)))))⟩,
      ⟨(some 30), none, (.op (.pick (.tmp 25) (.dat (.lit (.bool true))) (.tmp 29)))⟩,
      ⟨(some 31), none, (.op (.mov (.tmp 30)))⟩,
      ⟨(some 32), (some (31, false)), (.op (.field 1 1 false (.tmp 1)))⟩,
      ⟨(some 33), (some (31, false)), (.op (.load 1 false (.tmp 32)))⟩,
      ⟨(some 34), (some (31, false)), (.op (.len (.tmp 33)))⟩,
      ⟨(some 35), (some (31, false)), (.op (.arith .gtr (.tmp 34) (.dat (.lit (.int .i64 64)))))⟩,
      ⟨(some 36), none, (.op (.pick (.tmp 31) (.dat (.lit (.bool true))) (.tmp 35)))⟩])
    (.cond (.tmp 36)
      (.seq (.region none [
        ⟨(some 2), none, (.op (.mov (.dat (.lit (.int .i64 180)))))⟩])
      .ret)
      .skip))
    (.seq (.seq (.region none [
      ⟨(some 3), none, (.op (.mov (.dat (.lit (.int .i64 0)))))⟩])
    (.block 0
      (.loop
        (.seq (.seq (.region none [
          ⟨(some 37), none, (.op (.mov (.tmp 3)))⟩,
          ⟨(some 38), none, (.op (.field 1 1 false (.tmp 1)))⟩,
          ⟨(some 39), none, (.op (.load 1 false (.tmp 38)))⟩,
          ⟨(some 40), none, (.op (.len (.tmp 39)))⟩,
          ⟨(some 41), none, (.op (.arith .lss (.tmp 37) (.tmp 40)))⟩])
        (.cond (.tmp 41)
          .skip
          (.exit 0)))
        (.seq (.block 1
          (.seq (.region none [
            ⟨(some 44), none, (.op (.field 1 1 false (.tmp 1)))⟩,
            ⟨(some 45), none, (.op (.load 1 false (.tmp 44)))⟩,
            ⟨(some 46), none, (.op (.mov (.tmp 3)))⟩,
            ⟨(some 47), none, (.op (.index 6 (.tmp 45) (.tmp 46)))⟩,
            ⟨(some 48), none, (.op (.load 6 true (.tmp 47)))⟩,
            ⟨(some 4), none, (.op (.alloc true [.lit (.int .i64 0), .lit (.int .i64 0), .lit (.int .i64 0), .lit (.int .i64 0), .lit (.int .i64 0), .nil 5]))⟩,
            ⟨none, none, (.op (.store 6 (.tmp 4) (.tmp 48)))⟩])
          (.seq (.region (some [[], [0], [0, 1], [0, 1, 2], [0, 1, 2, 3], [0, 1, 2, 3, 4], [0, 1, 2, 3], [0, 1, 2, 3, 6], [0, 1, 2, 3, 4, 5, 6, 7], [0, 1, 2, 3, 4, 5, 6, 7, 8], [0, 1, 2, 3, 4, 5, 6, 7, 8, 9], [0, 1, 2, 3, 4, 5, 6, 7, 8, 9, 10], [0, 1, 2, 3, 4, 5, 6, 7, 8, 9, 10, 11], [0, 1, 2, 3, 4, 5, 6, 7, 8, 9, 10], [0, 1, 2, 3, 4, 5, 6, 7, 8, 9, 10, 13], [0, 1, 2, 3, 4, 5, 6, 7, 8, 9, 10, 13, 14], [0, 1, 2, 3, 4, 5, 6, 7, 8, 9, 10, 11, 12, 13, 14, 15], [0, 1, 2, 3, 4, 5, 6, 7, 8, 9, 10, 11, 12, 13, 14, 15, 16], [0, 1, 2, 3, 4, 5, 6, 7, 8, 9, 10, 11, 12, 13, 14, 15, 16, 17], [0, 1, 2, 3, 4, 5, 6, 7, 8, 9, 10, 11, 12, 13, 14, 15, 16, 17, 18], [0, 1, 2, 3, 4, 5, 6, 7, 8, 9, 10, 11, 12, 13, 14, 15, 16, 17, 18, 19], [0, 1, 2, 3, 4, 5, 6, 7, 8, 9, 10, 11, 12, 13, 14, 15, 16, 17, 18, 19, 20], [0, 1, 2, 3, 4, 5, 6, 7, 8, 9, 10, 11, 12, 13, 14, 15, 16, 17, 18, 19, 20, 21], [0, 1, 2, 3, 4, 5, 6, 7, 8, 9, 10, 11, 12, 13, 14, 15, 16, 17, 18, 19, 20, 21, 22], [0, 1, 2, 3, 4, 5, 6, 7, 8, 9, 10, 11, 12, 13, 14, 15, 16, 17, 18, 19, 20, 21], [0, 1, 2, 3, 4, 5, 6, 7, 8, 9, 10, 11, 12, 13, 14, 15, 16, 17, 18, 19, 20, 21, 24], [0, 1, 2, 3, 4, 5, 6, 7, 8, 9, 10, 11, 12, 13, 14, 15, 16, 17, 18, 19, 20, 21, 22, 23, 24, 25], [0, 1, 2, 3, 4, 5, 6, 7, 8, 9, 10, 11, 12, 13, 14, 15, 16, 17, 18, 19, 20, 21, 22, 23, 24, 25, 26], [0, 1, 2, 3, 4, 5, 6, 7, 8, 9, 10, 11, 12, 13, 14, 15, 16, 17, 18, 19, 20, 21, 22, 23, 24, 25, 26, 27], [0, 1, 2, 3, 4, 5, 6, 7, 8, 9, 10, 11, 12, 13, 14, 15, 16, 17, 18, 19, 20, 21], [0, 1, 2, 3, 4, 5, 6, 7, 8, 9, 10, 11, 12, 13, 14, 15, 16, 17, 18, 19, 20, 21, 29], [0, 1, 2, 3, 4, 5, 6, 7, 8, 9, 10, 11, 12, 13, 14, 15, 16, 17, 18, 19, 20, 21, 22, 23, 24, 25, 26, 27, 28, 29, 30], [0, 1, 2, 3, 4, 5, 6, 7, 8, 9, 10, 11, 12, 13, 14, 15, 16, 17, 18, 19, 20, 21, 22, 23, 24, 25, 26, 27, 28, 29, 30, 31], [0, 1, 2, 3, 4, 5, 6, 7, 8, 9, 10, 11, 12, 13, 14, 15, 16, 17, 18, 19, 20, 21, 22, 23, 24, 25, 26, 27, 28, 29, 30, 31, 32]]) [
            ⟨(some 49), none, (.op (.load 6 true (.tmp 4)))⟩,
            ⟨(some 50), none, (.call (.dat (.fn (.func 70) [] [])) [(.tmp 49)])⟩,
            ⟨(some 51), none, (.op (.not (.tmp 50)))⟩,
            ⟨(some 52), none, (.op (.mov (.tmp 51)))⟩,
            ⟨(some 53), (some (52, false)), (.op (.field 0 1 false (.tmp 4)))⟩,
            ⟨(some 54), (some (52, false)), (.op (.load 1 false (.tmp 53)))⟩,
            ⟨(some 55), (some (52, false)), (.op (.field 0 1 false (.tmp 1)))⟩,
            ⟨(some 56), (some (52, false)), (.op (.load 1 false (.tmp 55)))⟩,
            ⟨(some 57), (some (52, false)), (.op (.arith .leq (.tmp 54) (.tmp 56)))⟩,
            ⟨(some 58), none, (.op (.pick (.tmp 52) (.dat (.lit (.bool true))) (.tmp 57)))⟩,
            ⟨(some 59), none, (.op (.mov (.tmp 58)))⟩,
            ⟨(some 60), (some (59, false)), (.op (.field 0 1 false (.tmp 4)))⟩,
            ⟨(some 61), (some (59, false)), (.op (.load 1 false (.tmp 60)))⟩,
            ⟨(some 62), (some (59, false)), (.op (.field 0 1 false (.tmp 1)))⟩,
            ⟨(some 63), (some (59, false)), (.op (.load 1 false (.tmp 62)))⟩,
            ⟨(some 64), (some (59, false)), (.op (.arith .add (.tmp 63) (.dat (.lit (.int .i64 64)))))⟩,
            ⟨(some 65), (some (59, false)), (.op (.arith .gtr (.tmp 61) (.tmp 64)))⟩,
            ⟨(some 66), none, (.op (.pick (.tmp 59) (.dat (.lit (.bool true))) (.tmp 65)))⟩,
            ⟨(some 67), none, (.op (.mov (.tmp 66)))⟩,
            ⟨(some 68), (some (67, false)), (.op (.mov (.tmp 3)))⟩,
            ⟨(some 69), (some (67, false)), (.op (.arith .gtr (.tmp 68) (.dat (.lit (.int .i64 0)))))⟩,
            ⟨(some 70), (some (67, false)), (.op (.mov (.tmp 69)))⟩,
            ⟨(some 71), (some (70, true)), (.op (.field 1 1 false (.tmp 1)))⟩,
            ⟨(some 72), (some (70, true)), (.op (.load 1 false (.tmp 71)))⟩,
            ⟨(some 73), (some (70, true)), (.op (.mov (.tmp 3)))⟩,
            ⟨(some 74), (some (70, true)), (.op (.arith .sub (.tmp 73) (.dat (.lit (.int .i64 1)))))⟩,
            ⟨(some 75), (some (70, true)), (.op (.index 6 (.tmp 72) (.tmp 74)))⟩,
            ⟨(some 76), (some (70, true)), (.op (.field 0 1 false (.tmp 75)))⟩,
            ⟨(some 77), (some (70, true)), (.op (.load 1 false (.tmp 76)))⟩,
            ⟨(some 78), (some (70, true)), (.op (.field 0 1 false (.tmp 4)))⟩,
            ⟨(some 79), (some (70, true)), (.op (.load 1 false (.tmp 78)))⟩,
            ⟨(some 80), (some (70, true)), (.op (.arith .geq (.tmp 77) (.tmp 79)))⟩,
            ⟨(some 81), (some (67, false)), (.op (.pick (.tmp 70) (.tmp 80) (.dat (.lit (.bool false)))))⟩,
            ⟨(some 82), none, (.op (.pick (.tmp 67) (.dat (.lit (.bool true))) (.tmp 81)))⟩])
          (.cond (.tmp 82)
            (.seq (.region none [
              ⟨(some 2), none, (.op (.mov (.dat (.lit (.int .i64 180)))))⟩])
            .ret)
            .skip))))
        (.region none [
          ⟨(some 42), none, (.op (.mov (.tmp 3)))⟩,
          ⟨(some 43), none, (.op (.arith .add (.tmp 42) (.dat (.lit (.int .i64 1)))))⟩,
          ⟨(some 3), none, (.op (.mov (.tmp 43)))⟩]))))))
    (.seq (.region none [
      ⟨(some 2), none, (.op (.mov (.dat (.lit (.int .i64 0)))))⟩])
    .ret))))
  res := [.tmp 2]
theorem c36 : CmpF Tryd.prog 36 a36 := chkF_cmp (F := Tryd.f36) (by kernel_rfl) mixed (by kernel_rfl)
/-- hansard/feeds.Missing -/
def a37 : AF where
  nt := 36
  body := (.seq (.region none [
      ⟨(some 1), none, (.op (.box true (.tmp 0)))⟩,
      ⟨(some 2), none, (.op (.mov (.dat (.nil 1))))⟩,
      ⟨(some 3), none, (.op (.mov (.dat (.lit (.int .i64 0)))))⟩])
    (.seq (.seq (.region none [
      ⟨(some 8), none, (.op (.load 5 true (.tmp 1)))⟩,
      ⟨(some 9), none, (.call (.dat (.fn (.func 35) [] [])) [(.tmp 8)])⟩,
      ⟨(some 4), none, (.op (.mov (.tmp 9)))⟩])
    (.seq (.region none [
      ⟨(some 10), none, (.op (.mov (.tmp 4)))⟩,
      ⟨(some 11), none, (.op (.arith .neq (.tmp 10) (.dat (.lit (.int .i64 0)))))⟩])
    (.cond (.tmp 11)
      (.seq (.region none [
        ⟨(some 12), none, (.op (.mov (.tmp 4)))⟩,
        ⟨(some 2), none, (.op (.mov (.dat (.nil 1))))⟩,
        ⟨(some 3), none, (.op (.mov (.tmp 12)))⟩])
      .ret)
      .skip)))
    (.seq (.region none [
      ⟨(some 13), none, (.op (.field 0 1 false (.tmp 1)))⟩,
      ⟨(some 14), none, (.op (.load 1 false (.tmp 13)))⟩,
      ⟨(some 5), none, (.op (.mov (.tmp 14)))⟩])
    (.seq (.seq (.region none [
      ⟨(some 15), none, (.op (.field 1 1 false (.tmp 1)))⟩,
      ⟨(some 16), none, (.op (.load 1 false (.tmp 15)))⟩,
      ⟨(some 17), none, (.op (.len (.tmp 16)))⟩,
      ⟨(some 18), none, (.op (.mov (.dat (.lit (.int .i64 0)))))⟩])
    (.block 0
      (.loop
        (.seq (.region none [
          ⟨(some 19), none, (.op (.arith .lss (.tmp 18) (.tmp 17)))⟩])
        (.seq (.cond (.tmp 19)
          .skip
          (.exit 0))
        (.seq (.block 1
          (.seq (.region none [
            ⟨(some 20), none, (.op (.index 6 (.tmp 16) (.tmp 18)))⟩,
            ⟨(some 21), none, (.op (.load 6 true (.tmp 20)))⟩,
            ⟨(some 7), none, (.op (.alloc true [.lit (.int .i64 0), .lit (.int .i64 0), .lit (.int .i64 0), .lit (.int .i64 0), .lit (.int .i64 0), .nil 5]))⟩,
            ⟨none, none, (.op (.store 6 (.tmp 7) (.tmp 21)))⟩])
          (.seq (.block 2
            (.loop
              (.seq (.seq (.region none [
                ⟨(some 22), none, (.op (.mov (.tmp 5)))⟩,
                ⟨(some 23), none, (.op (.field 0 1 false (.tmp 7)))⟩,
                ⟨(some 24), none, (.op (.load 1 false (.tmp 23)))⟩,
                ⟨(some 25), none, (.op (.arith .lss (.tmp 22) (.tmp 24)))⟩])
              (.cond (.tmp 25)
                .skip
                (.exit 2)))
              (.seq (.block 3
                (.region none [
                  ⟨(some 28), none, (.op (.mov (.tmp 2)))⟩,
                  ⟨(some 29), none, (.op (.mov (.tmp 5)))⟩,
                  ⟨(some 30), none, (.op (.mkslice 1 [(.tmp 29)]))⟩,
                  ⟨(some 31), none, (.op (.append 1 8 (.tmp 28) (.tmp 30)))⟩,
                  ⟨(some 2), none, (.op (.mov (.tmp 31)))⟩]))
              (.region none [
                ⟨(some 26), none, (.op (.mov (.tmp 5)))⟩,
                ⟨(some 27), none, (.op (.arith .add (.tmp 26) (.dat (.lit (.int .i64 1)))))⟩,
                ⟨(some 5), none, (.op (.mov (.tmp 27)))⟩])))))
          (.region none [
            ⟨(some 32), none, (.op (.mov (.tmp 5)))⟩,
            ⟨(some 33), none, (.op (.arith .add (.tmp 32) (.dat (.lit (.int .i64 1)))))⟩,
            ⟨(some 5), none, (.op (.mov (.tmp 33)))⟩]))))
        (.region none [
          ⟨(some 34), none, (.op (.arith .add (.tmp 18) (.dat (.lit (.int .i64 1)))))⟩,
          ⟨(some 18), none, (.op (.mov (.tmp 34)))⟩])))))))
    (.seq (.region none [
      ⟨(some 35), none, (.op (.mov (.tmp 2)))⟩,
      ⟨(some 2), none, (.op (.mov (.tmp 35)))⟩,
      ⟨(some 3), none, (.op (.mov (.dat (.lit (.int .i64 0)))))⟩])
    .ret)))))
  res := [.tmp 2, .tmp 3]
theorem c37 : CmpF Tryd.prog 37 a37 := chkF_cmp (F := Tryd.f37) (by kernel_rfl) mixed (by kernel_rfl)
/-- hansard/hansardref18.Missing -/
def a38 : AF where
  nt := 37
  body := (.seq (.region none [
      ⟨(some 1), none, (.op (.box true (.tmp 0)))⟩,
      ⟨(some 2), none, (.op (.mov (.dat (.nil 1))))⟩,
      ⟨(some 3), none, (.op (.mov (.dat (.lit (.int .i64 0)))))⟩])
    (.seq (.seq (.region none [
      ⟨(some 7), none, (.op (.load 5 true (.tmp 1)))⟩,
      ⟨(some 8), none, (.call (.dat (.fn (.func 36) [] [])) [(.tmp 7)])⟩,
      ⟨(some 9), none, (.op (.arith .neq (.tmp 8) (.dat (.lit (.int .i64 0)))))⟩])
    (.cond (.tmp 9)
      (.seq (.region none [
        ⟨(some 2), none, (.op (.mov (.dat (.nil 1))))⟩,
        ⟨(some 3), none, (.op (.mov (.dat (.lit (.int .i64 180)))))⟩])
      .ret)
      .skip))
    (.seq (.region none [
      ⟨(some 10), none, (.op (.mkslice 1 []))⟩,
      ⟨(some 4), none, (.op (.mov (.tmp 10)))⟩])
    (.seq (.region none [
      ⟨(some 11), none, (.op (.field 0 1 false (.tmp 1)))⟩,
      ⟨(some 12), none, (.op (.load 1 false (.tmp 11)))⟩,
      ⟨(some 5), none, (.op (.mov (.tmp 12)))⟩])
    (.seq (.seq (.region none [
      ⟨(some 6), none, (.op (.mov (.dat (.lit (.int .i64 0)))))⟩])
    (.block 0
      (.loop
        (.seq (.seq (.region none [
          ⟨(some 13), none, (.op (.mov (.tmp 6)))⟩,
          ⟨(some 14), none, (.op (.field 1 1 false (.tmp 1)))⟩,
          ⟨(some 15), none, (.op (.load 1 false (.tmp 14)))⟩,
          ⟨(some 16), none, (.op (.len (.tmp 15)))⟩,
          ⟨(some 17), none, (.op (.arith .lss (.tmp 13) (.tmp 16)))⟩])
        (.cond (.tmp 17)
          .skip
          (.exit 0)))
        (.seq (.block 1
          (.seq (.block 2
            (.loop
              (.seq (.seq (.region none [
                ⟨(some 20), none, (.op (.mov (.tmp 5)))⟩,
                ⟨(some 21), none, (.op (.field 1 1 false (.tmp 1)))⟩,
                ⟨(some 22), none, (.op (.load 1 false (.tmp 21)))⟩,
                ⟨(some 23), none, (.op (.mov (.tmp 6)))⟩,
                ⟨(some 24), none, (.op (.index 6 (.tmp 22) (.tmp 23)))⟩,
                ⟨(some 25), none, (.op (.field 0 1 false (.tmp 24)))⟩,
                ⟨(some 26), none, (.op (.load 1 false (.tmp 25)))⟩,
                ⟨(some 27), none, (.op (.arith .lss (.tmp 20) (.tmp 26)))⟩])
              (.cond (.tmp 27)
                .skip
                (.exit 2)))
              (.block 3
                (.seq (.region none [
                  ⟨(some 28), none, (.op (.mov (.tmp 4)))⟩,
                  ⟨(some 29), none, (.op (.mov (.tmp 5)))⟩,
                  ⟨(some 30), none, (.op (.mkslice 1 [(.tmp 29)]))⟩,
                  ⟨(some 31), none, (.op (.append 1 8 (.tmp 28) (.tmp 30)))⟩,
                  ⟨(some 4), none, (.op (.mov (.tmp 31)))⟩])
                (.region none [
                  ⟨(some 32), none, (.op (.mov (.tmp 5)))⟩,
                  ⟨(some 33), none, (.op (.arith .add (.tmp 32) (.dat (.lit (.int .i64 1)))))⟩,
                  ⟨(some 5), none, (.op (.mov (.tmp 33)))⟩]))))))
          (.region none [
            ⟨(some 34), none, (.op (.mov (.tmp 5)))⟩,
            ⟨(some 35), none, (.op (.arith .add (.tmp 34) (.dat (.lit (.int .i64 1)))))⟩,
            ⟨(some 5), none, (.op (.mov (.tmp 35)))⟩])))
        (.region none [
          ⟨(some 18), none, (.op (.mov (.tmp 6)))⟩,
          ⟨(some 19), none, (.op (.arith .add (.tmp 18) (.dat (.lit (.int .i64 1)))))⟩,
          ⟨(some 6), none, (.op (.mov (.tmp 19)))⟩]))))))
    (.seq (.region none [
      ⟨(some 36), none, (.op (.mov (.tmp 4)))⟩,
      ⟨(some 2), none, (.op (.mov (.tmp 36)))⟩,
      ⟨(some 3), none, (.op (.mov (.dat (.lit (.int .i64 0)))))⟩])
    .ret))))))
  res := [.tmp 2, .tmp 3]
theorem c38 : CmpF Tryd.prog 38 a38 := chkF_cmp (F := Tryd.f38) (by kernel_rfl) mixed (by kernel_rfl)
/-- hansard/hansardref18.SameInts -/
def a39 : AF where
  nt := 26
  body := (.seq (.region none [
      ⟨(some 4), none, (.op (.mov (.dat (.lit (.bool false)))))⟩])
    (.seq (.seq (.region none [
      ⟨(some 6), none, (.op (.mov (.tmp 0)))⟩,
      ⟨(some 7), none, (.op (.len (.tmp 6)))⟩,
      ⟨(some 8), none, (.op (.mov (.tmp 1)))⟩,
      ⟨(some 9), none, (.op (.len (.tmp 8)))⟩,
      ⟨(some 10), none, (.op (.arith .neq (.tmp 7) (.tmp 9)))⟩])
    (.cond (.tmp 10)
      (.seq (.region none [
        ⟨(some 4), none, (.op (.mov (.dat (.lit (.bool false)))))⟩])
      .ret)
      .skip))
    (.seq (.seq (.region none [
      ⟨(some 5), none, (.op (.mov (.dat (.lit (.int .i64 0)))))⟩])
    (.block 0
      (.loop
        (.seq (.seq (.region none [
          ⟨(some 11), none, (.op (.mov (.tmp 5)))⟩,
          ⟨(some 12), none, (.op (.mov (.tmp 0)))⟩,
          ⟨(some 13), none, (.op (.len (.tmp 12)))⟩,
          ⟨(some 14), none, (.op (.arith .lss (.tmp 11) (.tmp 13)))⟩])
        (.cond (.tmp 14)
          .skip
          (.exit 0)))
        (.seq (.block 1
          (.seq (.region (some [[], [], [0, 1], [0, 1, 2], [], [], [4, 5], [4, 5, 6], [0, 1, 2, 3, 4, 5, 6, 7]]) [
            ⟨(some 17), none, (.op (.mov (.tmp 0)))⟩,
            ⟨(some 18), none, (.op (.mov (.tmp 5)))⟩,
            ⟨(some 19), none, (.op (.index 1 (.tmp 17) (.tmp 18)))⟩,
            ⟨(some 20), none, (.op (.load 1 false (.tmp 19)))⟩,
            ⟨(some 21), none, (.op (.mov (.tmp 1)))⟩,
            ⟨(some 22), none, (.op (.mov (.tmp 5)))⟩,
            ⟨(some 23), none, (.op (.index 1 (.tmp 21) (.tmp 22)))⟩,
            ⟨(some 24), none, (.op (.load 1 false (.tmp 23)))⟩,
            ⟨(some 25), none, (.op (.arith .neq (.tmp 20) (.tmp 24)))⟩])
          (.cond (.tmp 25)
            (.seq (.region none [
              ⟨(some 4), none, (.op (.mov (.dat (.lit (.bool false)))))⟩])
            .ret)
            .skip)))
        (.region none [
          ⟨(some 15), none, (.op (.mov (.tmp 5)))⟩,
          ⟨(some 16), none, (.op (.arith .add (.tmp 15) (.dat (.lit (.int .i64 1)))))⟩,
          ⟨(some 5), none, (.op (.mov (.tmp 16)))⟩]))))))
    (.seq (.region none [
      ⟨(some 4), none, (.op (.mov (.dat (.lit (.bool true)))))⟩])
    .ret))))
  res := [.tmp 4]
theorem c39 : CmpF Tryd.prog 39 a39 := chkF_cmp (F := Tryd.f39) (by kernel_rfl) mixed (by kernel_rfl)
/-- hansard/hansardlaw18.packs -/
def a40 : AF where
  nt := 35
  body := (.seq (.region none [
      ⟨(some 2), none, (.op (.mov (.dat (.nil 6))))⟩,
      ⟨(some 3), none, (.op (.mov (.dat (.lit (.bool false)))))⟩])
    (.seq (.seq (.region none [
      ⟨(some 7), none, (.op (.mov (.tmp 0)))⟩,
      ⟨(some 8), none, (.op (.len (.tmp 7)))⟩,
      ⟨(some 9), none, (.op (.arith .gtr (.tmp 8) (.dat (.lit (.int .i64 12)))))⟩])
    (.cond (.tmp 9)
      (.seq (.region none [
        ⟨(some 2), none, (.op (.mov (.dat (.nil 6))))⟩,
        ⟨(some 3), none, (.op (.mov (.dat (.lit (.bool false)))))⟩])
      .ret)
      .skip))
    (.seq (.seq (.region none [
      ⟨(some 10), none, (.op (.mov (.tmp 0)))⟩,
      ⟨(some 11), none, (.op (.len (.tmp 10)))⟩,
      ⟨(some 12), none, (.op (.mov (.dat (.lit (.int .i64 0)))))⟩])
    (.block 0
      (.loop
        (.seq (.region none [
          ⟨(some 13), none, (.op (.arith .lss (.tmp 12) (.tmp 11)))⟩])
        (.seq (.cond (.tmp 13)
          .skip
          (.exit 0))
        (.seq (.block 1
          (.seq (.region none [
            ⟨(some 14), none, (.op (.mov (.tmp 12)))⟩,
            ⟨(some 15), none, (.op (.index 4 (.tmp 10) (.tmp 12)))⟩,
            ⟨(some 16), none, (.op (.load 4 true (.tmp 15)))⟩,
            ⟨(some 5), none, (.op (.alloc true [.lit (.int .i64 0), .lit (.int .i64 0), .lit (.int .i64 0), .nil 5]))⟩,
            ⟨(some 4), none, (.op (.mov (.tmp 14)))⟩,
            ⟨none, none, (.op (.store 4 (.tmp 5) (.tmp 16)))⟩])
          (.seq (.region none [
            ⟨(some 17), none, (.op (.mov (.tmp 4)))⟩,
            ⟨(some 18), none, (.op (.mov (.tmp 4)))⟩,
            ⟨(some 19), none, (.op (.load 4 true (.tmp 5)))⟩,
            ⟨(some 20), none, (.op (.build [.lit (.int .i64 0), .lit (.int .i64 0), .lit (.int .i64 0), .lit (.int .i64 0), .lit (.int .i64 0), .nil 5] [(0, 1, (.tmp 17)), (1, 1, (.tmp 18)), (2, 4, (.tmp 19))]))⟩,
            ⟨(some 6), none, (.op (.alloc true [.lit (.int .i64 0), .lit (.int .i64 0), .lit (.int .i64 0), .lit (.int .i64 0), .lit (.int .i64 0), .nil 5]))⟩,
            ⟨none, none, (.op (.store 6 (.tmp 6) (.tmp 20)))⟩])
          (.seq (.seq (.region none [
            ⟨(some 21), none, (.op (.load 6 true (.tmp 6)))⟩,
            ⟨(some 22), none, (.call (.dat (.fn (.func 29) [] [])) [(.tmp 21)])⟩,
            ⟨(some 23), none, (.op (.not (.tmp 22)))⟩,
            ⟨(some 24), none, (.op (.mov (.tmp 23)))⟩,
            ⟨(some 25), (some (24, false)), (.op (.load 6 true (.tmp 6)))⟩,
            ⟨(some 26), (some (24, false)), (.call (.dat (.fn (.func 70) [] [])) [(.tmp 25)])⟩,
            ⟨(some 27), (some (24, false)), (.op (.not (.tmp 26)))⟩,
            ⟨(some 28), none, (.op (.pick (.tmp 24) (.dat (.lit (.bool true))) (.tmp 27)))⟩])
          (.cond (.tmp 28)
            (.seq (.region none [
              ⟨(some 2), none, (.op (.mov (.dat (.nil 6))))⟩,
              ⟨(some 3), none, (.op (.mov (.dat (.lit (.bool false)))))⟩])
            .ret)
            .skip))
          (.region none [
            ⟨(some 29), none, (.op (.mov (.tmp 2)))⟩,
            ⟨(some 30), none, (.op (.load 6 true (.tmp 6)))⟩,
            ⟨(some 31), none, (.op (.mkslice 6 [(.tmp 30)]))⟩,
            ⟨(some 32), none, (.op (.append 6 64 (.tmp 29) (.tmp 31)))⟩,
            ⟨(some 2), none, (.op (.mov (.tmp 32)))⟩])))))
        (.region none [
          ⟨(some 33), none, (.op (.arith .add (.tmp 12) (.dat (.lit (.int .i64 1)))))⟩,
          ⟨(some 12), none, (.op (.mov (.tmp 33)))⟩])))))))
    (.seq (.region none [
      ⟨(some 34), none, (.op (.mov (.tmp 2)))⟩,
      ⟨(some 2), none, (.op (.mov (.tmp 34)))⟩,
      ⟨(some 3), none, (.op (.mov (.dat (.lit (.bool true)))))⟩])
    .ret))))
  res := [.tmp 2, .tmp 3]
theorem c40 : CmpF Tryd.prog 40 a40 := chkF_cmp (F := Tryd.f40) (by kernel_rfl) mixed (by kernel_rfl)
/-- hansard/hansardref18.SameStream -/
def a41 : AF where
  nt := 17
  body := (.seq (.region none [
      ⟨(some 2), none, (.op (.box true (.tmp 0)))⟩,
      ⟨(some 3), none, (.op (.box true (.tmp 1)))⟩,
      ⟨(some 4), none, (.op (.mov (.dat (.lit (.bool false)))))⟩])
    (.seq (.region none [
      ⟨(some 5), none, (.op (.field 1 1 false (.tmp 2)))⟩,
      ⟨(some 6), none, (.op (.load 1 false (.tmp 5)))⟩,
      ⟨(some 7), none, (.op (.field 1 1 false (.tmp 3)))⟩,
      ⟨(some 8), none, (.op (.load 1 false (.tmp 7)))⟩,
      ⟨(some 9), none, (.op (.arith .eql (.tmp 6) (.tmp 8)))⟩,
      ⟨(some 10), none, (.op (.mov (.tmp 9)))⟩,
      ⟨(some 11), (some (10, true)), (.op (.field 0 1 false (.tmp 2)))⟩,
      ⟨(some 12), (some (10, true)), (.op (.load 1 false (.tmp 11)))⟩,
      ⟨(some 13), (some (10, true)), (.op (.field 0 1 false (.tmp 3)))⟩,
      ⟨(some 14), (some (10, true)), (.op (.load 1 false (.tmp 13)))⟩,
      ⟨(some 15), (some (10, true)), (.call (.dat (.fn (.func 75) [] [])) [(.tmp 12), (.tmp 14)])⟩,
      ⟨(some 16), none, (.op (.pick (.tmp 10) (.tmp 15) (.dat (.lit (.bool false)))))⟩,
      ⟨(some 4), none, (.op (.mov (.tmp 16)))⟩])
    .ret))
  res := [.tmp 4]
theorem c41 : CmpF Tryd.prog 41 a41 := chkF_cmp (F := Tryd.f41) (by kernel_rfl) mixed (by kernel_rfl)
/-- hansard/hansardref17.Check -/
def a45 : AF where
  nt := 24
  body := (.seq (.region none [
      ⟨(some 1), none, (.op (.box true (.tmp 0)))⟩,
      ⟨(some 2), none, (.op (.mov (.dat (.lit (.int .i64 0)))))⟩])
    (.seq (.seq (.region none [
      ⟨(some 3), none, (.op (.field 0 1 false (.tmp 1)))⟩,
      ⟨(some 4), none, (.op (.load 1 false (.tmp 3)))⟩,
      ⟨(some 5), none, (.op (.len (.tmp 4)))⟩,
      ⟨(some 6), none, (.op (.arith .gtr (.tmp 5) (.dat (.lit (.int .i64 4096)))))⟩])
    (.cond (.tmp 6)
      (.seq (.region none [
        ⟨(some 2), none, (.op (.mov (.dat (.lit (.int .i64 2)))))⟩])
      .ret)
      .skip))
    (.seq (.seq (.region none [
      ⟨(some 7), none, (.op (.field 1 1 false (.tmp 1)))⟩,
      ⟨(some 8), none, (.op (.load 1 false (.tmp 7)))⟩,
      ⟨(some 9), none, (.op (.arith .lss (.tmp 8) (.dat (.lit (.int .i64 0)))))⟩,
      ⟨(some 10), none, (.op (.mov (.tmp 9)))⟩,
      ⟨(some 11), (some (10, false)), (.op (.field 1 1 false (.tmp 1)))⟩,
      ⟨(some 12), (some (10, false)), (.op (.load 1 false (.tmp 11)))⟩,
      ⟨(some 13), (some (10, false)), (.op (.field 0 1 false (.tmp 1)))⟩,
      ⟨(some 14), (some (10, false)), (.op (.load 1 false (.tmp 13)))⟩,
      ⟨(some 15), (some (10, false)), (.op (.len (.tmp 14)))⟩,
      ⟨(some 16), (some (10, false)), (.op (.arith .gtr (.tmp 12) (.tmp 15)))⟩,
      ⟨(some 17), none, (.op (.pick (.tmp 10) (.dat (.lit (.bool true))) (.tmp 16)))⟩,
      ⟨(some 18), none, (.op (.mov (.tmp 17)))⟩,
      ⟨(some 19), (some (18, false)), (.op (.field 0 1 false (.tmp 1)))⟩,
      ⟨(some 20), (some (18, false)), (.op (.load 1 false (.tmp 19)))⟩,
      ⟨(some 21), (some (18, false)), (.call (.dat (.fn (.func 78) [] [])) [(.tmp 20)])⟩,
      ⟨(some 22), (some (18, false)), (.op (.not (.tmp 21)))⟩,
      ⟨(some 23), none, (.op (.pick (.tmp 18) (.dat (.lit (.bool true))) (.tmp 22)))⟩])
    (.cond (.tmp 23)
      (.seq (.region none [
        ⟨(some 2), none, (.op (.mov (.dat (.lit (.int .i64 170)))))⟩])
      .ret)
      .skip))
    (.seq (.region none [
      ⟨(some 2), none, (.op (.mov (.dat (.lit (.int .i64 0)))))⟩])
    .ret))))
  res := [.tmp 2]
theorem c45 : CmpF Tryd.prog 45 a45 := chkF_cmp (F := Tryd.f45) (by kernel_rfl) mixed (by kernel_rfl)
/-- hansard/stream.caught -/
def a52 : AR where
  nt := 19
  ta := 5
  tb := 2
  rest := (.seq (.region none [
      ⟨(some 6), none, (.op (.mov (.tmp 2)))⟩,
      ⟨(some 7), none, (.op (.ext (.isNil true) [(.tmp 6)]))⟩])
    (.cond (.tmp 7)
      (.seq (.region none [
        ⟨(some 9), none, (.op (.mov (.tmp 2)))⟩,
        ⟨(some 10), none, (.op (.ext (.tassert 28 (.lit (.int .i64 0))) [(.tmp 9)]))⟩,
        ⟨(some 8), none, (.op (.mov (.tmp 10)))⟩,
        ⟨(some 11), none, (.op (.extract (.tmp 8) 0))⟩,
        ⟨(some 12), none, (.op (.extract (.tmp 8) 1))⟩,
        ⟨(some 3), none, (.op (.mov (.tmp 11)))⟩,
        ⟨(some 4), none, (.op (.mov (.tmp 12)))⟩])
      (.seq (.seq (.region none [
        ⟨(some 13), none, (.op (.mov (.tmp 4)))⟩,
        ⟨(some 14), none, (.op (.not (.tmp 13)))⟩])
      (.cond (.tmp 14)
        (.sregion [
          ⟨(some 15), none, (.op (.mov (.tmp 2)))⟩,
          ⟨none, none, (.panic (.tmp 15))⟩])
        .skip))
      (.region none [
        ⟨(some 16), none, (.op (.mov (.tmp 0)))⟩,
        ⟨(some 17), none, (.op (.mov (.tmp 3)))⟩,
        ⟨(some 18), none, (.op (.ext .nilChk [(.tmp 16)]))⟩,
        ⟨none, none, (.op (.store 1 (.tmp 18) (.tmp 17)))⟩])))
      .skip))
  res := []
theorem c52 : CmpRF Tryd.prog 52 a52 := chkRF_cmp (F := Tryd.f52) (by kernel_rfl) mixed (by kernel_rfl)
/-- hansard/stream.check -/
def a53 : AF where
  nt := 41
  body := (.seq (.region none [
      ⟨(some 1), none, (.op (.box true (.tmp 0)))⟩])
    (.seq (.region none [
      ⟨(some 5), none, (.op (.field 0 1 false (.tmp 1)))⟩,
      ⟨(some 6), none, (.op (.load 1 false (.tmp 5)))⟩,
      ⟨(some 7), none, (.op (.len (.tmp 6)))⟩,
      ⟨(some 8), none, (.op (.arith .leq (.tmp 7) (.dat (.lit (.int .i64 4096)))))⟩,
      ⟨(some 9), none, (.call (.dat (.fn (.func 59) [] [])) [(.tmp 8), (.dat (.lit (.int .i64 2)))])⟩])
    (.seq (.region none [
      ⟨(some 10), none, (.op (.field 1 1 false (.tmp 1)))⟩,
      ⟨(some 11), none, (.op (.load 1 false (.tmp 10)))⟩,
      ⟨(some 12), none, (.op (.arith .geq (.tmp 11) (.dat (.lit (.int .i64 0)))))⟩,
      ⟨(some 13), none, (.op (.mov (.tmp 12)))⟩,
      ⟨(some 14), (some (13, true)), (.op (.field 1 1 false (.tmp 1)))⟩,
      ⟨(some 15), (some (13, true)), (.op (.load 1 false (.tmp 14)))⟩,
      ⟨(some 16), (some (13, true)), (.op (.field 0 1 false (.tmp 1)))⟩,
      ⟨(some 17), (some (13, true)), (.op (.load 1 false (.tmp 16)))⟩,
      ⟨(some 18), (some (13, true)), (.op (.len (.tmp 17)))⟩,
      ⟨(some 19), (some (13, true)), (.op (.arith .leq (.tmp 15) (.tmp 18)))⟩,
      ⟨(some 20), none, (.op (.pick (.tmp 13) (.tmp 19) (.dat (.lit (.bool false)))))⟩,
      ⟨(some 21), none, (.call (.dat (.fn (.func 59) [] [])) [(.tmp 20), (.dat (.lit (.int .i64 170)))])⟩])
    (.seq (.region none [
      ⟨(some 2), none, (.op (.mov (.dat (.lit (.int .i64 0)))))⟩])
    (.seq (.region none [
      ⟨(some 22), none, (.op (.field 0 1 false (.tmp 1)))⟩,
      ⟨(some 23), none, (.op (.load 1 false (.tmp 22)))⟩,
      ⟨(some 24), none, (.op (.len (.tmp 23)))⟩,
      ⟨(some 25), none, (.op (.mov (.dat (.lit (.int .i64 0)))))⟩])
    (.block 0
      (.loop
        (.seq (.region none [
          ⟨(some 26), none, (.op (.arith .lss (.tmp 25) (.tmp 24)))⟩])
        (.seq (.cond (.tmp 26)
          .skip
          (.exit 0))
        (.seq (.block 1
          (.seq (.region none [
            ⟨(some 27), none, (.op (.index 5 (.tmp 23) (.tmp 25)))⟩,
            ⟨(some 28), none, (.op (.load 5 true (.tmp 27)))⟩,
            ⟨(some 4), none, (.op (.alloc true [.lit (.string ⟨#[]⟩), .lit (.int .i64 0), .lit (.int .i64 0), .lit (.int .i64 0), .nil 1]))⟩,
            ⟨none, none, (.op (.store 5 (.tmp 4) (.tmp 28)))⟩])
          (.seq (.region none [
            ⟨(some 29), none, (.op (.load 5 true (.tmp 4)))⟩,
            ⟨(some 30), none, (.call (.dat (.fn (.func 83) [] [])) [(.tmp 29)])⟩,
            ⟨(some 31), none, (.op (.mov (.tmp 30)))⟩,
            ⟨(some 32), (some (31, true)), (.op (.field 1 1 false (.tmp 4)))⟩,
            ⟨(some 33), (some (31, true)), (.op (.load 1 false (.tmp 32)))⟩,
            ⟨(some 34), (some (31, true)), (.op (.mov (.tmp 2)))⟩,
            ⟨(some 35), (some (31, true)), (.op (.arith .geq (.tmp 33) (.tmp 34)))⟩,
            ⟨(some 36), none, (.op (.pick (.tmp 31) (.tmp 35) (.dat (.lit (.bool false)))))⟩,
            ⟨(some 37), none, (.call (.dat (.fn (.func 59) [] [])) [(.tmp 36), (.dat (.lit (.int .i64 170)))])⟩])
          (.region none [
            ⟨(some 38), none, (.op (.field 1 1 false (.tmp 4)))⟩,
            ⟨(some 39), none, (.op (.load 1 false (.tmp 38)))⟩,
            ⟨(some 2), none, (.op (.mov (.tmp 39)))⟩]))))
        (.region none [
          ⟨(some 40), none, (.op (.arith .add (.tmp 25) (.dat (.lit (.int .i64 1)))))⟩,
          ⟨(some 25), none, (.op (.mov (.tmp 40)))⟩])))))))))))
  res := []
theorem c53 : CmpF Tryd.prog 53 a53 := chkF_cmp (F := Tryd.f53) (by kernel_rfl) mixed (by kernel_rfl)
/-- hansard/stream.Do$1 -/
def a57 : AF where
  nt := 5
  body := (.seq (.region none [
      ⟨(some 2), none, (.op (.load 1 false (.tmp 0)))⟩,
      ⟨(some 3), none, (.op (.arith .neq (.tmp 2) (.dat (.lit (.int .i64 0)))))⟩])
    (.cond (.tmp 3)
      (.region none [
        ⟨(some 4), none, (.op (.build [.nil 5, .lit (.int .i64 0)] []))⟩,
        ⟨none, none, (.op (.store 2 (.tmp 1) (.tmp 4)))⟩])
      .skip))
  res := []
theorem c57 : CmpF Tryd.prog 57 a57 := chkF_cmp (F := Tryd.f57) (by kernel_rfl) mixed (by kernel_rfl)
/-- hansard/stream.kinds -/
def a58 : AF where
  nt := 6
  body := (.seq (.region none [
      ⟨(some 0), none, (.op (.mov (.dat (.lit (.map none)))))⟩])
    (.seq (.region none [
      ⟨(some 1), none, (.op (.ext .mkmap []))⟩,
      ⟨(some 2), none, (.op (.build [.lit (.nilFunc), .lit (.nilFunc)] [(0, 1, (.dat (.fn (.func 88) [] []))), (1, 1, (.dat (.fn (.func 89) [] [])))]))⟩,
      ⟨none, none, (.op (.ext (.insert (.int .i64)) [(.tmp 1), (.dat (.lit (.int .i64 1))), (.tmp 2)]))⟩,
      ⟨(some 3), none, (.op (.build [.lit (.nilFunc), .lit (.nilFunc)] [(0, 1, (.dat (.fn (.func 91) [] []))), (1, 1, (.dat (.fn (.func 94) [] [])))]))⟩,
      ⟨none, none, (.op (.ext (.insert (.int .i64)) [(.tmp 1), (.dat (.lit (.int .i64 2))), (.tmp 3)]))⟩,
      ⟨(some 4), none, (.op (.build [.lit (.nilFunc), .lit (.nilFunc)] [(0, 1, (.dat (.fn (.func 95) [] []))), (1, 1, (.dat (.fn (.func 96) [] [])))]))⟩,
      ⟨none, none, (.op (.ext (.insert (.int .i64)) [(.tmp 1), (.dat (.lit (.int .i64 3))), (.tmp 4)]))⟩,
      ⟨(some 5), none, (.op (.mov (.tmp 1)))⟩,
      ⟨(some 0), none, (.op (.mov (.tmp 5)))⟩])
    .ret))
  res := [.tmp 0]
theorem c58 : CmpF Tryd.prog 58 a58 := chkF_cmp (F := Tryd.f58) (by kernel_rfl) mixed (by kernel_rfl)
/-- hansard/stream.need -/
def a59 : AF where
  nt := 8
  body := (.seq (.region none [
      ⟨(some 4), none, (.op (.mov (.tmp 0)))⟩,
      ⟨(some 5), none, (.op (.not (.tmp 4)))⟩])
    (.cond (.tmp 5)
      (.sregion [
        ⟨(some 6), none, (.op (.mov (.tmp 1)))⟩,
        ⟨(some 7), none, (.op (.ifc 28 (.tmp 6)))⟩,
        ⟨none, none, (.panic (.tmp 7))⟩])
      .skip))
  res := []
theorem c59 : CmpF Tryd.prog 59 a59 := chkF_cmp (F := Tryd.f59) (by kernel_rfl) mixed (by kernel_rfl)
/-- hansard/hansardlaw18.pack -/
def a60 : AF where
  nt := 15
  body := (.seq (.region none [
      ⟨(some 6), none, (.op (.alloc true [.lit (.int .i64 0), .lit (.int .i64 0), .lit (.int .i64 0), .lit (.int .i64 0), .lit (.int .i64 0), .nil 5]))⟩])
    (.seq (.region none [
      ⟨(some 7), none, (.op (.mov (.tmp 0)))⟩,
      ⟨(some 8), none, (.op (.mov (.tmp 2)))⟩,
      ⟨(some 9), none, (.op (.mov (.tmp 1)))⟩,
      ⟨(some 10), none, (.op (.mov (.tmp 2)))⟩,
      ⟨(some 11), none, (.call (.dat (.fn (.func 61) [] [])) [(.tmp 9), (.tmp 10)])⟩,
      ⟨(some 12), none, (.op (.mkslice 5 [(.tmp 11)]))⟩,
      ⟨(some 13), none, (.op (.build [.lit (.int .i64 0), .lit (.int .i64 0), .lit (.int .i64 0), .nil 5] [(0, 1, (.dat (.lit (.int .i64 1)))), (3, 1, (.tmp 12))]))⟩,
      ⟨(some 14), none, (.op (.build [.lit (.int .i64 0), .lit (.int .i64 0), .lit (.int .i64 0), .lit (.int .i64 0), .lit (.int .i64 0), .nil 5] [(0, 1, (.tmp 7)), (1, 1, (.tmp 8)), (2, 4, (.tmp 13))]))⟩,
      ⟨none, none, (.op (.store 6 (.tmp 6) (.tmp 14)))⟩])
    .ret))
  res := [.cell 6 6 true]
theorem c60 : CmpF Tryd.prog 60 a60 := chkF_cmp (F := Tryd.f60) (by kernel_rfl) mixed (by kernel_rfl)
/-- hansard/hansardlaw18.word -/
def a61 : AF where
  nt := 10
  body := (.seq (.region none [
      ⟨(some 4), none, (.op (.alloc true [.lit (.string ⟨#[]⟩), .lit (.int .i64 0), .lit (.int .i64 0), .lit (.int .i64 0), .nil 1]))⟩])
    (.seq (.region none [
      ⟨(some 5), none, (.op (.mov (.tmp 0)))⟩,
      ⟨(some 6), none, (.op (.mov (.tmp 1)))⟩,
      ⟨(some 7), none, (.op (.mov (.tmp 1)))⟩,
      ⟨(some 8), none, (.op (.arith .add (.tmp 7) (.dat (.lit (.int .i64 10)))))⟩,
      ⟨(some 9), none, (.op (.build [.lit (.string ⟨#[]⟩), .lit (.int .i64 0), .lit (.int .i64 0), .lit (.int .i64 0), .nil 1] [(0, 1, (.tmp 5)), (1, 1, (.tmp 6)), (2, 1, (.tmp 8))]))⟩,
      ⟨none, none, (.op (.store 5 (.tmp 4) (.tmp 9)))⟩])
    .ret))
  res := [.cell 4 5 true]
theorem c61 : CmpF Tryd.prog 61 a61 := chkF_cmp (F := Tryd.f61) (by kernel_rfl) mixed (by kernel_rfl)
/-- hansard/hansardref18.FewWords -/
def a62 : AF where
  nt := 43
  body := (.seq (.region none [
      ⟨(some 2), none, (.op (.mov (.dat (.lit (.bool false)))))⟩])
    (.seq (.seq (.region none [
      ⟨(some 4), none, (.op (.mov (.tmp 0)))⟩,
      ⟨(some 5), none, (.op (.len (.tmp 4)))⟩,
      ⟨(some 6), none, (.op (.arith .gtr (.tmp 5) (.dat (.lit (.int .i64 80)))))⟩,
      ⟨(some 7), none, (.op (.mov (.tmp 6)))⟩,
      ⟨(some 8), (some (7, true)), (.op (.mov (.tmp 0)))⟩,
      ⟨(some 9), (some (7, true)), (.op (.len (.tmp 8)))⟩,
      ⟨(some 10), (some (7, true)), (.op (.arith .leq (.tmp 9) (.dat (.lit (.int .i64 4096)))))⟩,
      ⟨(some 11), none, (.op (.pick (.tmp 7) (.tmp 10) (.dat (.lit (.bool false)))))⟩,
      ⟨(some 12), none, (.op (.mov (.tmp 11)))⟩,
      ⟨(some 13), (some (12, false)), (.op (.mov (.tmp 0)))⟩,
      ⟨(some 14), (some (12, false)), (.op (.len (.tmp 13)))⟩,
      ⟨(some 15), (some (12, false)), (.op (.arith .gtr (.tmp 14) (.dat (.lit (.int .i64 5000)))))⟩,
      ⟨(some 16), none, (.op (.pick (.tmp 12) (.dat (.lit (.bool true))) (.tmp 15)))⟩])
    (.cond (.tmp 16)
      (.seq (.region none [
        ⟨(some 2), none, (.op (.mov (.dat (.lit (.bool false)))))⟩])
      .ret)
      .skip))
    (.seq (.seq (.region none [
      ⟨(some 3), none, (.op (.mov (.dat (.lit (.int .i64 0)))))⟩])
    (.block 0
      (.loop
        (.seq (.seq (.region none [
          ⟨(some 17), none, (.op (.mov (.tmp 3)))⟩,
          ⟨(some 18), none, (.op (.mov (.tmp 0)))⟩,
          ⟨(some 19), none, (.op (.len (.tmp 18)))⟩,
          ⟨(some 20), none, (.op (.arith .lss (.tmp 17) (.tmp 19)))⟩,
          ⟨(some 21), none, (.op (.mov (.tmp 20)))⟩,
          ⟨(some 22), (some (21, true)), (.op (.mov (.tmp 3)))⟩,
          ⟨(some 23), (some (21, true)), (.op (.arith .lss (.tmp 22) (.dat (.lit (.int .i64 100)))))⟩,
          ⟨(some 24), none, (.op (.pick (.tmp 21) (.tmp 23) (.dat (.lit (.bool false)))))⟩])
        (.cond (.tmp 24)
          .skip
          (.exit 0)))
        (.seq (.block 1
          (.seq (.region none [
            ⟨(some 27), none, (.op (.mov (.tmp 0)))⟩,
            ⟨(some 28), none, (.op (.mov (.tmp 3)))⟩,
            ⟨(some 29), none, (.op (.index 5 (.tmp 27) (.tmp 28)))⟩,
            ⟨(some 30), none, (.op (.field 4 1 false (.tmp 29)))⟩,
            ⟨(some 31), none, (.op (.load 1 false (.tmp 30)))⟩,
            ⟨(some 32), none, (.op (.len (.tmp 31)))⟩,
            ⟨(some 33), none, (.op (.arith .gtr (.tmp 32) (.dat (.lit (.int .i64 10)))))⟩,
            ⟨(some 34), none, (.op (.mov (.tmp 33)))⟩,
            ⟨(some 35), (some (34, false)), (.op (.mov (.tmp 0)))⟩,
            ⟨(some 36), (some (34, false)), (.op (.mov (.tmp 3)))⟩,
            ⟨(some 37), (some (34, false)), (.op (.index 5 (.tmp 35) (.tmp 36)))⟩,
            ⟨(some 38), (some (34, false)), (.op (.field 0 1 false (.tmp 37)))⟩,
            ⟨(some 39), (some (34, false)), (.op (.load 1 false (.tmp 38)))⟩,
            ⟨(some 40), (some (34, false)), (.op (.lenS (.tmp 39)))⟩,
            ⟨(some 41), (some (34, false)), (.op (.arith .gtr (.tmp 40) (.dat (.lit (.int .i64 200)))))⟩,
            ⟨(some 42), none, (.op (.pick (.tmp 34) (.dat (.lit (.bool true))) (.tmp 41)))⟩])
          (.cond (.tmp 42)
            (.seq (.region none [
              ⟨(some 2), none, (.op (.mov (.dat (.lit (.bool false)))))⟩])
            .ret)
            .skip)))
        (.region none [
          ⟨(some 25), none, (.op (.mov (.tmp 3)))⟩,
          ⟨(some 26), none, (.op (.arith .add (.tmp 25) (.dat (.lit (.int .i64 1)))))⟩,
          ⟨(some 3), none, (.op (.mov (.tmp 26)))⟩]))))))
    (.seq (.region none [
      ⟨(some 2), none, (.op (.mov (.dat (.lit (.bool true)))))⟩])
    .ret))))
  res := [.tmp 2]
theorem c62 : CmpF Tryd.prog 62 a62 := chkF_cmp (F := Tryd.f62) (by kernel_rfl) mixed (by kernel_rfl)
/-- hansard/feeds.formed -/
def a63 : AF where
  nt := 26
  body := (.seq (.region none [
      ⟨(some 1), none, (.op (.box true (.tmp 0)))⟩,
      ⟨(some 2), none, (.op (.mov (.dat (.lit (.bool false)))))⟩])
    (.seq (.region none [
      ⟨(some 3), none, (.op (.field 0 1 false (.tmp 1)))⟩,
      ⟨(some 4), none, (.op (.load 1 false (.tmp 3)))⟩,
      ⟨(some 5), none, (.op (.field 1 1 false (.tmp 1)))⟩,
      ⟨(some 6), none, (.op (.load 1 false (.tmp 5)))⟩,
      ⟨(some 7), none, (.op (.minmax false (.tmp 4) (.tmp 6)))⟩,
      ⟨(some 8), none, (.op (.arith .geq (.tmp 7) (.dat (.lit (.int .i64 0)))))⟩,
      ⟨(some 9), none, (.op (.mov (.tmp 8)))⟩,
      ⟨(some 10), (some (9, true)), (.op (.field 0 1 false (.tmp 1)))⟩,
      ⟨(some 11), (some (9, true)), (.op (.load 1 false (.tmp 10)))⟩,
      ⟨(some 12), (some (9, true)), (.op (.arith .leq (.tmp 11) (.dat (.lit (.int .i64 1048576)))))⟩,
      ⟨(some 13), none, (.op (.pick (.tmp 9) (.tmp 12) (.dat (.lit (.bool false)))))⟩,
      ⟨(some 14), none, (.op (.mov (.tmp 13)))⟩,
      ⟨(some 15), (some (14, true)), (.op (.field 1 1 false (.tmp 1)))⟩,
      ⟨(some 16), (some (14, true)), (.op (.load 1 false (.tmp 15)))⟩,
      ⟨(some 17), (some (14, true)), (.op (.arith .lss (.tmp 16) (.dat (.lit (.int .i64 1099511627776)))))⟩,
      ⟨(some 18), none, (.op (.pick (.tmp 14) (.tmp 17) (.dat (.lit (.bool false)))))⟩,
      ⟨(some 19), none, (.op (.mov (.tmp 18)))⟩,
      ⟨(some 20), (some (19, true)), (.op (.field 2 4 true (.tmp 1)))⟩,
      ⟨(some 21), (some (19, true)), (.op (.field 3 1 false (.tmp 20)))⟩,
      ⟨(some 22), (some (19, true)), (.op (.load 1 false (.tmp 21)))⟩,
      ⟨(some 23), (some (19, true)), (.op (.len (.tmp 22)))⟩,
      ⟨(some 24), (some (19, true)), (.op (.arith .leq (.tmp 23) (.dat (.lit (.int .i64 64)))))⟩,
      ⟨(some 25), none, (.op (.pick (.tmp 19) (.tmp 24) (.dat (.lit (.bool false)))))⟩,
      ⟨(some 2), none, (.op (.mov (.tmp 25)))⟩])
    .ret))
  res := [.tmp 2]
theorem c63 : CmpF Tryd.prog 63 a63 := chkF_cmp (F := Tryd.f63) (by kernel_rfl) mixed (by kernel_rfl)
/-- slices.BinarySearchFunc(()hansard/api.Pack,hansard/api.Pack,int) -/
def a64 : AF where
  nt := 49
  body := (.seq (.region none [
      ⟨(some 6), none, (.op (.mov (.dat (.lit (.int .i64 0)))))⟩,
      ⟨(some 7), none, (.op (.mov (.dat (.lit (.bool false)))))⟩])
    (.seq (.region none [
      ⟨(some 12), none, (.op (.mov (.tmp 0)))⟩,
      ⟨(some 13), none, (.op (.len (.tmp 12)))⟩,
      ⟨(some 8), none, (.op (.mov (.tmp 13)))⟩])
    (.seq (.region none [
      ⟨(some 14), none, (.op (.mov (.tmp 8)))⟩,
      ⟨(some 9), none, (.op (.mov (.dat (.lit (.int .i64 0)))))⟩,
      ⟨(some 10), none, (.op (.mov (.tmp 14)))⟩])
    (.seq (.block 0
      (.loop
        (.seq (.seq (.region none [
          ⟨(some 15), none, (.op (.mov (.tmp 9)))⟩,
          ⟨(some 16), none, (.op (.mov (.tmp 10)))⟩,
          ⟨(some 17), none, (.op (.arith .lss (.tmp 15) (.tmp 16)))⟩])
        (.cond (.tmp 17)
          .skip
          (.exit 0)))
        (.block 1
          (.seq (.region none [
            ⟨(some 18), none, (.op (.mov (.tmp 9)))⟩,
            ⟨(some 19), none, (.op (.mov (.tmp 10)))⟩,
            ⟨(some 20), none, (.op (.arith .add (.tmp 18) (.tmp 19)))⟩,
            ⟨(some 21), none, (.op (.conv .u64 (.tmp 20)))⟩,
            ⟨(some 22), none, (.op (.ext (.shift false) [(.tmp 21), (.dat (.lit (.int .u64 1)))]))⟩,
            ⟨(some 23), none, (.op (.conv .i64 (.tmp 22)))⟩,
            ⟨(some 11), none, (.op (.mov (.tmp 23)))⟩])
          (.seq (.region none [
            ⟨(some 24), none, (.op (.mov (.tmp 2)))⟩,
            ⟨(some 25), none, (.op (.mov (.tmp 0)))⟩,
            ⟨(some 26), none, (.op (.mov (.tmp 11)))⟩,
            ⟨(some 27), none, (.op (.index 6 (.tmp 25) (.tmp 26)))⟩,
            ⟨(some 28), none, (.op (.load 6 true (.tmp 27)))⟩,
            ⟨(some 29), none, (.op (.mov (.tmp 1)))⟩,
            ⟨(some 30), none, (.call (.tmp 24) [(.tmp 28), (.tmp 29)])⟩,
            ⟨(some 31), none, (.op (.arith .lss (.tmp 30) (.dat (.lit (.int .i64 0)))))⟩])
          (.cond (.tmp 31)
            (.region none [
              ⟨(some 32), none, (.op (.mov (.tmp 11)))⟩,
              ⟨(some 33), none, (.op (.arith .add (.tmp 32) (.dat (.lit (.int .i64 1)))))⟩,
              ⟨(some 9), none, (.op (.mov (.tmp 33)))⟩])
            (.region none [
              ⟨(some 34), none, (.op (.mov (.tmp 11)))⟩,
              ⟨(some 10), none, (.op (.mov (.tmp 34)))⟩]))))))))
    (.seq (.region none [
      ⟨(some 35), none, (.op (.mov (.tmp 9)))⟩,
      ⟨(some 36), none, (.op (.mov (.tmp 9)))⟩,
      ⟨(some 37), none, (.op (.mov (.tmp 8)))⟩,
      ⟨(some 38), none, (.op (.arith .lss (.tmp 36) (.tmp 37)))⟩,
      ⟨(some 39), none, (.op (.mov (.tmp 38)))⟩,
      ⟨(some 40), (some (39, true)), (.op (.mov (.tmp 2)))⟩,
      ⟨(some 41), (some (39, true)), (.op (.mov (.tmp 0)))⟩,
      ⟨(some 42), (some (39, true)), (.op (.mov (.tmp 9)))⟩,
      ⟨(some 43), (some (39, true)), (.op (.index 6 (.tmp 41) (.tmp 42)))⟩,
      ⟨(some 44), (some (39, true)), (.op (.load 6 true (.tmp 43)))⟩,
      ⟨(some 45), (some (39, true)), (.op (.mov (.tmp 1)))⟩,
      ⟨(some 46), (some (39, true)), (.call (.tmp 40) [(.tmp 44), (.tmp 45)])⟩,
      ⟨(some 47), (some (39, true)), (.op (.arith .eql (.tmp 46) (.dat (.lit (.int .i64 0)))))⟩,
      ⟨(some 48), none, (.op (.pick (.tmp 39) (.tmp 47) (.dat (.lit (.bool false)))))⟩,
      ⟨(some 6), none, (.op (.mov (.tmp 35)))⟩,
      ⟨(some 7), none, (.op (.mov (.tmp 48)))⟩])
    .ret)))))
  res := [.tmp 6, .tmp 7]
theorem c64 : CmpF Tryd.prog 64 a64 := chkF_cmp (F := Tryd.f64) (by kernel_rfl) mixed (by kernel_rfl)
/-- (hansard/feeds.key).compare -/
def a65 : AF where
  nt := 13
  body := (.seq (.region none [
      ⟨(some 3), none, (.op (.box true (.tmp 0)))⟩,
      ⟨(some 4), none, (.op (.box true (.tmp 1)))⟩,
      ⟨(some 6), none, (.op (.mov (.dat (.lit (.int .i64 0)))))⟩])
    (.seq (.region none [
      ⟨(some 7), none, (.op (.field 0 1 false (.tmp 4)))⟩,
      ⟨(some 8), none, (.op (.load 1 false (.tmp 7)))⟩,
      ⟨(some 9), none, (.op (.field 0 6 true (.tmp 3)))⟩,
      ⟨(some 10), none, (.op (.field 0 1 false (.tmp 9)))⟩,
      ⟨(some 11), none, (.op (.load 1 false (.tmp 10)))⟩,
      ⟨(some 12), none, (.call (.dat (.fn (.func 97) [] [])) [(.tmp 8), (.tmp 11)])⟩,
      ⟨(some 6), none, (.op (.mov (.tmp 12)))⟩])
    .ret))
  res := [.tmp 6]
theorem c65 : CmpF Tryd.prog 65 a65 := chkF_cmp (F := Tryd.f65) (by kernel_rfl) mixed (by kernel_rfl)
/-- hansard/feeds.same -/
def a66 : AF where
  nt := 45
  body := (.seq (.region none [
      ⟨(some 2), none, (.op (.box true (.tmp 0)))⟩,
      ⟨(some 3), none, (.op (.box true (.tmp 1)))⟩,
      ⟨(some 4), none, (.op (.mov (.dat (.lit (.bool false)))))⟩])
    (.seq (.region none [
      ⟨(some 5), none, (.op (.mov (.dat (.fn (.func 98) [] []))))⟩])
    (.seq (.region none [
      ⟨(some 6), none, (.op (.field 0 1 false (.tmp 2)))⟩,
      ⟨(some 7), none, (.op (.load 1 false (.tmp 6)))⟩,
      ⟨(some 8), none, (.op (.field 1 1 false (.tmp 2)))⟩,
      ⟨(some 9), none, (.op (.load 1 false (.tmp 8)))⟩,
      ⟨(some 10), none, (.op (.field 2 4 true (.tmp 2)))⟩,
      ⟨(some 11), none, (.op (.field 0 1 false (.tmp 10)))⟩,
      ⟨(some 12), none, (.op (.load 1 false (.tmp 11)))⟩,
      ⟨(some 13), none, (.op (.field 2 4 true (.tmp 2)))⟩,
      ⟨(some 14), none, (.op (.field 1 1 false (.tmp 13)))⟩,
      ⟨(some 15), none, (.op (.load 1 false (.tmp 14)))⟩,
      ⟨(some 16), none, (.op (.field 2 4 true (.tmp 2)))⟩,
      ⟨(some 17), none, (.op (.field 2 1 false (.tmp 16)))⟩,
      ⟨(some 18), none, (.op (.load 1 false (.tmp 17)))⟩,
      ⟨(some 19), none, (.op (.build [.lit (.int .i64 0), .lit (.int .i64 0), .lit (.int .i64 0), .lit (.int .i64 0), .lit (.int .i64 0)] [(0, 1, (.tmp 7)), (1, 1, (.tmp 9)), (2, 1, (.tmp 12)), (3, 1, (.tmp 15)), (4, 1, (.tmp 18))]))⟩,
      ⟨(some 20), none, (.op (.field 0 1 false (.tmp 3)))⟩,
      ⟨(some 21), none, (.op (.load 1 false (.tmp 20)))⟩,
      ⟨(some 22), none, (.op (.field 1 1 false (.tmp 3)))⟩,
      ⟨(some 23), none, (.op (.load 1 false (.tmp 22)))⟩,
      ⟨(some 24), none, (.op (.field 2 4 true (.tmp 3)))⟩,
      ⟨(some 25), none, (.op (.field 0 1 false (.tmp 24)))⟩,
      ⟨(some 26), none, (.op (.load 1 false (.tmp 25)))⟩,
      ⟨(some 27), none, (.op (.field 2 4 true (.tmp 3)))⟩,
      ⟨(some 28), none, (.op (.field 1 1 false (.tmp 27)))⟩,
      ⟨(some 29), none, (.op (.load 1 false (.tmp 28)))⟩,
      ⟨(some 30), none, (.op (.field 2 4 true (.tmp 3)))⟩,
      ⟨(some 31), none, (.op (.field 2 1 false (.tmp 30)))⟩,
      ⟨(some 32), none, (.op (.load 1 false (.tmp 31)))⟩,
      ⟨(some 33), none, (.op (.build [.lit (.int .i64 0), .lit (.int .i64 0), .lit (.int .i64 0), .lit (.int .i64 0), .lit (.int .i64 0)] [(0, 1, (.tmp 21)), (1, 1, (.tmp 23)), (2, 1, (.tmp 26)), (3, 1, (.tmp 29)), (4, 1, (.tmp 32))]))⟩,
      ⟨(some 34), none, (.op (.ext (.eqrow false [.int .i64, .int .i64, .int .i64, .int .i64, .int .i64]) [(.tmp 19), (.tmp 33)]))⟩,
      ⟨(some 35), none, (.op (.mov (.tmp 34)))⟩,
      ⟨(some 36), (some (35, true)), (.op (.field 2 4 true (.tmp 2)))⟩,
      ⟨(some 37), (some (35, true)), (.op (.field 3 1 false (.tmp 36)))⟩,
      ⟨(some 38), (some (35, true)), (.op (.load 1 false (.tmp 37)))⟩,
      ⟨(some 39), (some (35, true)), (.op (.field 2 4 true (.tmp 3)))⟩,
      ⟨(some 40), (some (35, true)), (.op (.field 3 1 false (.tmp 39)))⟩,
      ⟨(some 41), (some (35, true)), (.op (.load 1 false (.tmp 40)))⟩,
      ⟨(some 42), (some (35, true)), (.op (.mov (.tmp 5)))⟩,
      ⟨(some 43), (some (35, true)), (.call (.dat (.fn (.func 92) [] [])) [(.tmp 38), (.tmp 41), (.tmp 42)])⟩,
      ⟨(some 44), none, (.op (.pick (.tmp 35) (.tmp 43) (.dat (.lit (.bool false)))))⟩,
      ⟨(some 4), none, (.op (.mov (.tmp 44)))⟩])
    .ret)))
  res := [.tmp 4]
theorem c66 : CmpF Tryd.prog 66 a66 := chkF_cmp (F := Tryd.f66) (by kernel_rfl) mixed (by kernel_rfl)
/-- hansard/feeds.ready -/
def a69 : AF where
  nt := 4
  body := (.seq (.region none [
      ⟨(some 1), none, (.op (.box false (.tmp 0)))⟩,
      ⟨(some 2), none, (.op (.mov (.dat (.lit (.nilFunc)))))⟩])
    (.seq (.region none [
      ⟨(some 3), none, (.op (.func (.func 102) [] [(.tmp 1)]))⟩,
      ⟨(some 2), none, (.op (.mov (.tmp 3)))⟩])
    .ret))
  res := [.tmp 2]
theorem c69 : CmpF Tryd.prog 69 a69 := chkF_cmp (F := Tryd.f69) (by kernel_rfl) mixed (by kernel_rfl)
/-- hansard/hansardref18.Formed -/
def a70 : AF where
  nt := 28
  body := (.seq (.region none [
      ⟨(some 1), none, (.op (.box true (.tmp 0)))⟩,
      ⟨(some 2), none, (.op (.mov (.dat (.lit (.bool false)))))⟩])
    (.seq (.region none [
      ⟨(some 3), none, (.op (.field 0 1 false (.tmp 1)))⟩,
      ⟨(some 4), none, (.op (.load 1 false (.tmp 3)))⟩,
      ⟨(some 5), none, (.op (.arith .geq (.tmp 4) (.dat (.lit (.int .i64 0)))))⟩,
      ⟨(some 6), none, (.op (.mov (.tmp 5)))⟩,
      ⟨(some 7), (some (6, true)), (.op (.field 0 1 false (.tmp 1)))⟩,
      ⟨(some 8), (some (6, true)), (.op (.load 1 false (.tmp 7)))⟩,
      ⟨(some 9), (some (6, true)), (.op (.arith .leq (.tmp 8) (.dat (.lit (.int .i64 1048576)))))⟩,
      ⟨(some 10), none, (.op (.pick (.tmp 6) (.tmp 9) (.dat (.lit (.bool false)))))⟩,
      ⟨(some 11), none, (.op (.mov (.tmp 10)))⟩,
      ⟨(some 12), (some (11, true)), (.op (.field 1 1 false (.tmp 1)))⟩,
      ⟨(some 13), (some (11, true)), (.op (.load 1 false (.tmp 12)))⟩,
      ⟨(some 14), (some (11, true)), (.op (.arith .geq (.tmp 13) (.dat (.lit (.int .i64 0)))))⟩,
      ⟨(some 15), none, (.op (.pick (.tmp 11) (.tmp 14) (.dat (.lit (.bool false)))))⟩,
      ⟨(some 16), none, (.op (.mov (.tmp 15)))⟩,
      ⟨(some 17), (some (16, true)), (.op (.field 1 1 false (.tmp 1)))⟩,
      ⟨(some 18), (some (16, true)), (.op (.load 1 false (.tmp 17)))⟩,
      ⟨(some 19), (some (16, true)), (.op (.arith .lss (.tmp 18) (.dat (.lit (.int .i64 1099511627776)))))⟩,
      ⟨(some 20), none, (.op (.pick (.tmp 16) (.tmp 19) (.dat (.lit (.bool false)))))⟩,
      ⟨(some 21), none, (.op (.mov (.tmp 20)))⟩,
      ⟨(some 22), (some (21, true)), (.op (.field 2 4 true (.tmp 1)))⟩,
      ⟨(some 23), (some (21, true)), (.op (.field 3 1 false (.tmp 22)))⟩,
      ⟨(some 24), (some (21, true)), (.op (.load 1 false (.tmp 23)))⟩,
      ⟨(some 25), (some (21, true)), (.op (.len (.tmp 24)))⟩,
      ⟨(some 26), (some (21, true)), (.op (.arith .leq (.tmp 25) (.dat (.lit (.int .i64 64)))))⟩,
      ⟨(some 27), none, (.op (.pick (.tmp 21) (.tmp 26) (.dat (.lit (.bool false)))))⟩,
      ⟨(some 2), none, (.op (.mov (.tmp 27)))⟩])
    .ret))
  res := [.tmp 2]
theorem c70 : CmpF Tryd.prog 70 a70 := chkF_cmp (F := Tryd.f70) (by kernel_rfl) mixed (by kernel_rfl)
/-- hansard/hansardref18.SamePack -/
def a71 : AF where
  nt := 53
  body := (.seq (.region none [
      ⟨(some 2), none, (.op (.box true (.tmp 0)))⟩,
      ⟨(some 3), none, (.op (.box true (.tmp 1)))⟩,
      ⟨(some 4), none, (.op (.mov (.dat (.lit (.bool false)))))⟩])
    (.seq (.region none [
      ⟨(some 5), none, (.op (.field 0 1 false (.tmp 2)))⟩,
      ⟨(some 6), none, (.op (.load 1 false (.tmp 5)))⟩,
      ⟨(some 7), none, (.op (.field 0 1 false (.tmp 3)))⟩,
      ⟨(some 8), none, (.op (.load 1 false (.tmp 7)))⟩,
      ⟨(some 9), none, (.op (.arith .eql (.tmp 6) (.tmp 8)))⟩,
      ⟨(some 10), none, (.op (.mov (.tmp 9)))⟩,
      ⟨(some 11), (some (10, true)), (.op (.field 1 1 false (.tmp 2)))⟩,
      ⟨(some 12), (some (10, true)), (.op (.load 1 false (.tmp 11)))⟩,
      ⟨(some 13), (some (10, true)), (.op (.field 1 1 false (.tmp 3)))⟩,
      ⟨(some 14), (some (10, true)), (.op (.load 1 false (.tmp 13)))⟩,
      ⟨(some 15), (some (10, true)), (.op (.arith .eql (.tmp 12) (.tmp 14)))⟩,
      ⟨(some 16), none, (.op (.pick (.tmp 10) (.tmp 15) (.dat (.lit (.bool false)))))⟩,
      ⟨(some 17), none, (.op (.mov (.tmp 16)))⟩,
      ⟨(some 18), (some (17, true)), (.op (.field 2 4 true (.tmp 2)))⟩,
      ⟨(some 19), (some (17, true)), (.op (.field 0 1 false (.tmp 18)))⟩,
      ⟨(some 20), (some (17, true)), (.op (.load 1 false (.tmp 19)))⟩,
      ⟨(some 21), (some (17, true)), (.op (.field 2 4 true (.tmp 3)))⟩,
      ⟨(some 22), (some (17, true)), (.op (.field 0 1 false (.tmp 21)))⟩,
      ⟨(some 23), (some (17, true)), (.op (.load 1 false (.tmp 22)))⟩,
      ⟨(some 24), (some (17, true)), (.op (.arith .eql (.tmp 20) (.tmp 23)))⟩,
      ⟨(some 25), none, (.op (.pick (.tmp 17) (.tmp 24) (.dat (.lit (.bool false)))))⟩,
      ⟨(some 26), none, (.op (.mov (.tmp 25)))⟩,
      ⟨(some 27), (some (26, true)), (.op (.field 2 4 true (.tmp 2)))⟩,
      ⟨(some 28), (some (26, true)), (.op (.field 1 1 false (.tmp 27)))⟩,
      ⟨(some 29), (some (26, true)), (.op (.load 1 false (.tmp 28)))⟩,
      ⟨(some 30), (some (26, true)), (.op (.field 2 4 true (.tmp 3)))⟩,
      ⟨(some 31), (some (26, true)), (.op (.field 1 1 false (.tmp 30)))⟩,
      ⟨(some 32), (some (26, true)), (.op (.load 1 false (.tmp 31)))⟩,
      ⟨(some 33), (some (26, true)), (.op (.arith .eql (.tmp 29) (.tmp 32)))⟩,
      ⟨(some 34), none, (.op (.pick (.tmp 26) (.tmp 33) (.dat (.lit (.bool false)))))⟩,
      ⟨(some 35), none, (.op (.mov (.tmp 34)))⟩,
      ⟨(some 36), (some (35, true)), (.op (.field 2 4 true (.tmp 2)))⟩,
      ⟨(some 37), (some (35, true)), (.op (.field 2 1 false (.tmp 36)))⟩,
      ⟨(some 38), (some (35, true)), (.op (.load 1 false (.tmp 37)))⟩,
      ⟨(some 39), (some (35, true)), (.op (.field 2 4 true (.tmp 3)))⟩,
      ⟨(some 40), (some (35, true)), (.op (.field 2 1 false (.tmp 39)))⟩,
      ⟨(some 41), (some (35, true)), (.op (.load 1 false (.tmp 40)))⟩,
      ⟨(some 42), (some (35, true)), (.op (.arith .eql (.tmp 38) (.tmp 41)))⟩,
      ⟨(some 43), none, (.op (.pick (.tmp 35) (.tmp 42) (.dat (.lit (.bool false)))))⟩,
      ⟨(some 44), none, (.op (.mov (.tmp 43)))⟩,
      ⟨(some 45), (some (44, true)), (.op (.field 2 4 true (.tmp 2)))⟩,
      ⟨(some 46), (some (44, true)), (.op (.field 3 1 false (.tmp 45)))⟩,
      ⟨(some 47), (some (44, true)), (.op (.load 1 false (.tmp 46)))⟩,
      ⟨(some 48), (some (44, true)), (.op (.field 2 4 true (.tmp 3)))⟩,
      ⟨(some 49), (some (44, true)), (.op (.field 3 1 false (.tmp 48)))⟩,
      ⟨(some 50), (some (44, true)), (.op (.load 1 false (.tmp 49)))⟩,
      ⟨(some 51), (some (44, true)), (.call (.dat (.fn (.func 75) [] [])) [(.tmp 47), (.tmp 50)])⟩,
      ⟨(some 52), none, (.op (.pick (.tmp 44) (.tmp 51) (.dat (.lit (.bool false)))))⟩,
      ⟨(some 4), none, (.op (.mov (.tmp 52)))⟩])
    .ret))
  res := [.tmp 4]
theorem c71 : CmpF Tryd.prog 71 a71 := chkF_cmp (F := Tryd.f71) (by kernel_rfl) mixed (by kernel_rfl)
/-- hansard/hansardref18.take -/
def a72 : AF where
  nt := 27
  body := (.seq (.region none [
      ⟨(some 2), none, (.op (.box true (.tmp 0)))⟩,
      ⟨(some 3), none, (.op (.box true (.tmp 1)))⟩,
      ⟨(some 4), none, (.op (.alloc true [.lit (.int .i64 0), .nil 6, .nil 5, .lit (.int .i64 0), .lit (.int .i64 0)]))⟩])
    (.seq (.region none [
      ⟨(some 8), none, (.op (.field 2 2 true (.tmp 2)))⟩,
      ⟨(some 9), none, (.op (.load 2 true (.tmp 8)))⟩,
      ⟨(some 10), none, (.op (.load 4 true (.tmp 3)))⟩,
      ⟨(some 11), none, (.call (.dat (.fn (.func 103) [] [])) [(.tmp 9), (.tmp 10)])⟩,
      ⟨(some 7), none, (.op (.mov (.tmp 11)))⟩,
      ⟨(some 12), none, (.op (.extract (.tmp 7) 0))⟩,
      ⟨(some 13), none, (.op (.extract (.tmp 7) 1))⟩,
      ⟨(some 5), none, (.op (.alloc true [.nil 5, .lit (.int .i64 0)]))⟩,
      ⟨none, none, (.op (.store 2 (.tmp 5) (.tmp 12)))⟩,
      ⟨(some 6), none, (.op (.mov (.tmp 13)))⟩])
    (.seq (.seq (.region none [
      ⟨(some 14), none, (.op (.mov (.tmp 6)))⟩,
      ⟨(some 15), none, (.op (.arith .eql (.tmp 14) (.dat (.lit (.int .i64 0)))))⟩])
    (.cond (.tmp 15)
      (.region none [
        ⟨(some 16), none, (.op (.load 2 true (.tmp 5)))⟩,
        ⟨(some 17), none, (.op (.field 2 2 true (.tmp 2)))⟩,
        ⟨none, none, (.op (.store 2 (.tmp 17) (.tmp 16)))⟩])
      (.region none [
        ⟨(some 18), none, (.op (.field 4 1 false (.tmp 2)))⟩,
        ⟨(some 19), none, (.op (.load 1 false (.tmp 18)))⟩,
        ⟨(some 20), none, (.op (.arith .add (.tmp 19) (.dat (.lit (.int .i64 1)))))⟩,
        ⟨(some 21), none, (.op (.field 4 1 false (.tmp 2)))⟩,
        ⟨none, none, (.op (.store 1 (.tmp 21) (.tmp 20)))⟩])))
    (.seq (.region none [
      ⟨(some 22), none, (.op (.field 0 1 false (.tmp 2)))⟩,
      ⟨(some 23), none, (.op (.load 1 false (.tmp 22)))⟩,
      ⟨(some 24), none, (.op (.arith .add (.tmp 23) (.dat (.lit (.int .i64 1)))))⟩,
      ⟨(some 25), none, (.op (.field 0 1 false (.tmp 2)))⟩,
      ⟨none, none, (.op (.store 1 (.tmp 25) (.tmp 24)))⟩])
    (.seq (.region none [
      ⟨(some 26), none, (.op (.load 5 true (.tmp 2)))⟩,
      ⟨none, none, (.op (.store 5 (.tmp 4) (.tmp 26)))⟩])
    .ret)))))
  res := [.cell 4 5 true]
theorem c72 : CmpF Tryd.prog 72 a72 := chkF_cmp (F := Tryd.f72) (by kernel_rfl) mixed (by kernel_rfl)
/-- hansard/feeds.Check$1 -/
def a73 : AF where
  nt := 26
  body := (.seq (.region none [
      ⟨(some 3), none, (.op (.box true (.tmp 0)))⟩,
      ⟨(some 4), none, (.op (.mov (.dat (.lit (.bool false)))))⟩])
    (.seq (.region none [
      ⟨(some 6), none, (.op (.load 6 true (.tmp 3)))⟩,
      ⟨(some 7), none, (.call (.dat (.fn (.func 63) [] [])) [(.tmp 6)])⟩,
      ⟨(some 8), none, (.op (.mov (.tmp 7)))⟩,
      ⟨(some 9), (some (8, true)), (.op (.field 0 1 false (.tmp 3)))⟩,
      ⟨(some 10), (some (8, true)), (.op (.load 1 false (.tmp 9)))⟩,
      ⟨(some 11), (some (8, true)), (.op (.load 1 false (.tmp 1)))⟩,
      ⟨(some 12), (some (8, true)), (.op (.arith .gtr (.tmp 10) (.tmp 11)))⟩,
      ⟨(some 13), none, (.op (.pick (.tmp 8) (.tmp 12) (.dat (.lit (.bool false)))))⟩,
      ⟨(some 14), none, (.op (.mov (.tmp 13)))⟩,
      ⟨(some 15), (some (14, true)), (.op (.field 0 1 false (.tmp 3)))⟩,
      ⟨(some 16), (some (14, true)), (.op (.load 1 false (.tmp 15)))⟩,
      ⟨(some 17), (some (14, true)), (.op (.field 0 1 false (.tmp 2)))⟩,
      ⟨(some 18), (some (14, true)), (.op (.load 1 false (.tmp 17)))⟩,
      ⟨(some 19), (some (14, true)), (.op (.arith .add (.tmp 18) (.dat (.lit (.int .i64 64)))))⟩,
      ⟨(some 20), (some (14, true)), (.op (.arith .leq (.tmp 16) (.tmp 19)))⟩,
      ⟨(some 21), none, (.op (.pick (.tmp 14) (.tmp 20) (.dat (.lit (.bool false)))))⟩,
      ⟨(some 5), none, (.op (.mov (.tmp 21)))⟩])
    (.seq (.region none [
      ⟨(some 22), none, (.op (.field 0 1 false (.tmp 3)))⟩,
      ⟨(some 23), none, (.op (.load 1 false (.tmp 22)))⟩,
      ⟨none, none, (.op (.store 1 (.tmp 1) (.tmp 23)))⟩])
    (.seq (.region none [
      ⟨(some 24), none, (.op (.mov (.tmp 5)))⟩,
      ⟨(some 25), none, (.op (.not (.tmp 24)))⟩,
      ⟨(some 4), none, (.op (.mov (.tmp 25)))⟩])
    .ret))))
  res := [.tmp 4]
theorem c73 : CmpF Tryd.prog 73 a73 := chkF_cmp (F := Tryd.f73) (by kernel_rfl) mixed (by kernel_rfl)
/-- slices.ContainsFunc(()hansard/api.Pack,hansard/api.Pack) -/
def a74 : AF where
  nt := 9
  body := (.seq (.region none [
      ⟨(some 4), none, (.op (.mov (.dat (.lit (.bool false)))))⟩])
    (.seq (.sregion [
      ⟨(some 5), none, (.op (.mov (.tmp 0)))⟩,
      ⟨(some 6), none, (.op (.mov (.tmp 1)))⟩,
      ⟨(some 7), none, (.icall (.dat (.fn (.func 104) [] [])) [(.tmp 5), (.tmp 6)])⟩,
      ⟨(some 8), none, (.op (.arith .geq (.tmp 7) (.dat (.lit (.int .i64 0)))))⟩,
      ⟨(some 4), none, (.op (.mov (.tmp 8)))⟩])
    .ret))
  res := [.tmp 4]
theorem c74 : CmpF Tryd.prog 74 a74 := chkF_cmp (F := Tryd.f74) (by kernel_rfl) mixed (by kernel_rfl)
end Go.Proofs.YteonapeaaepipaaDoor
end
