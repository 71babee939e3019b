/- Part of the proof: S1p1. -/
import Derived.Test.YteonapeaaepipaaDoorProg
import Derived.KernelRfl
import Derived.Test.YteonapeaaepipaaDoorE
set_option linter.unnecessarySimpa false
set_option linter.unusedVariables false
set_option linter.unusedSimpArgs false
section
namespace Go.Proofs.YteonapeaaepipaaDoor
open Go Go.Proofs.YteonapeaaepipaaDoor.AL
theorem mixed : Tryd.prog.follows .mixedOrders = true := by kernel_rfl
/-- hansard/hansardlaw23.SettledSpec -/
def a3 : AF where
  nt := 95
  body := (.seq (.region none [
      ⟨(some 5), none, (.op (.box true (.tmp 0)))⟩,
      ⟨(some 6), none, (.op (.box true (.tmp 1)))⟩,
      ⟨(some 10), none, (.op (.mov (.dat (.lit (.bool false)))))⟩])
    (.seq (.seq (.region none [
      ⟨(some 23), none, (.call (.dat (.fn (.func 13) [] [])) [])⟩,
      ⟨(some 24), none, (.op (.not (.tmp 23)))⟩])
    (.cond (.tmp 24)
      (.seq (.region none [
        ⟨(some 10), none, (.op (.mov (.dat (.lit (.bool false)))))⟩])
      .ret)
      .skip))
    (.seq (.seq (.region none [
      ⟨(some 25), none, (.op (.field 0 1 false (.tmp 5)))⟩,
      ⟨(some 26), none, (.op (.load 1 false (.tmp 25)))⟩,
      ⟨(some 27), none, (.op (.len (.tmp 26)))⟩,
      ⟨(some 28), none, (.op (.arith .gtr (.tmp 27) (.dat (.lit (.int .i64 30)))))⟩])
    (.cond (.tmp 28)
      (.seq (.region none [
        ⟨(some 10), none, (.op (.mov (.dat (.lit (.bool true)))))⟩])
      .ret)
      .skip))
    (.seq (.region none [
      ⟨(some 30), none, (.op (.field 0 1 false (.tmp 5)))⟩,
      ⟨(some 31), none, (.op (.load 1 false (.tmp 30)))⟩,
      ⟨(some 32), none, (.op (.mov (.tmp 3)))⟩,
      ⟨(some 33), none, (.op (.mov (.tmp 4)))⟩,
      ⟨(some 34), none, (.call (.dat (.fn (.func 14) [] [])) [(.tmp 31), (.tmp 32), (.tmp 33)])⟩,
      ⟨(some 29), none, (.op (.mov (.tmp 34)))⟩,
      ⟨(some 35), none, (.op (.extract (.tmp 29) 0))⟩,
      ⟨(some 36), none, (.op (.extract (.tmp 29) 1))⟩,
      ⟨(some 37), none, (.op (.extract (.tmp 29) 2))⟩,
      ⟨(some 11), none, (.op (.mov (.tmp 35)))⟩,
      ⟨(some 12), none, (.op (.mov (.tmp 36)))⟩,
      ⟨(some 13), none, (.op (.mov (.tmp 37)))⟩])
    (.seq (.region none [
      ⟨(some 39), none, (.op (.field 0 1 false (.tmp 5)))⟩,
      ⟨(some 40), none, (.op (.load 1 false (.tmp 39)))⟩,
      ⟨(some 41), none, (.op (.mov (.tmp 3)))⟩,
      ⟨(some 42), none, (.op (.mov (.tmp 4)))⟩,
      ⟨(some 43), none, (.call (.dat (.fn (.func 15) [] [])) [(.tmp 40), (.tmp 41), (.tmp 42)])⟩,
      ⟨(some 38), none, (.op (.mov (.tmp 43)))⟩,
      ⟨(some 44), none, (.op (.extract (.tmp 38) 0))⟩,
      ⟨(some 45), none, (.op (.extract (.tmp 38) 1))⟩,
      ⟨(some 46), none, (.op (.extract (.tmp 38) 2))⟩,
      ⟨(some 14), none, (.op (.mov (.tmp 44)))⟩,
      ⟨(some 15), none, (.op (.mov (.tmp 45)))⟩,
      ⟨(some 16), none, (.op (.mov (.tmp 46)))⟩])
    (.seq (.region none [
      ⟨(some 48), none, (.op (.load 2 true (.tmp 5)))⟩,
      ⟨(some 49), none, (.op (.load 1 true (.tmp 6)))⟩,
      ⟨(some 50), none, (.op (.mov (.tmp 2)))⟩,
      ⟨(some 51), none, (.op (.mov (.tmp 3)))⟩,
      ⟨(some 52), none, (.op (.mov (.tmp 4)))⟩,
      ⟨(some 53), none, (.call (.dat (.fn (.func 16) [] [])) [(.tmp 48), (.tmp 49), (.tmp 50), (.tmp 51), (.tmp 52)])⟩,
      ⟨(some 47), none, (.op (.mov (.tmp 53)))⟩,
      ⟨(some 54), none, (.op (.extract (.tmp 47) 0))⟩,
      ⟨(some 55), none, (.op (.extract (.tmp 47) 1))⟩,
      ⟨(some 56), none, (.op (.extract (.tmp 47) 2))⟩,
      ⟨(some 17), none, (.op (.mov (.tmp 54)))⟩,
      ⟨(some 18), none, (.op (.mov (.tmp 55)))⟩,
      ⟨(some 19), none, (.op (.mov (.tmp 56)))⟩])
    (.seq (.region none [
      ⟨(some 58), none, (.op (.load 2 true (.tmp 5)))⟩,
      ⟨(some 59), none, (.op (.load 1 true (.tmp 6)))⟩,
      ⟨(some 60), none, (.op (.mov (.tmp 2)))⟩,
      ⟨(some 61), none, (.op (.mov (.tmp 3)))⟩,
      ⟨(some 62), none, (.op (.mov (.tmp 4)))⟩,
      ⟨(some 63), none, (.call (.dat (.fn (.func 17) [] [])) [(.tmp 58), (.tmp 59), (.tmp 60), (.tmp 61), (.tmp 62)])⟩,
      ⟨(some 57), none, (.op (.mov (.tmp 63)))⟩,
      ⟨(some 64), none, (.op (.extract (.tmp 57) 0))⟩,
      ⟨(some 65), none, (.op (.extract (.tmp 57) 1))⟩,
      ⟨(some 66), none, (.op (.extract (.tmp 57) 2))⟩,
      ⟨(some 20), none, (.op (.mov (.tmp 64)))⟩,
      ⟨(some 21), none, (.op (.mov (.tmp 65)))⟩,
      ⟨(some 22), none, (.op (.mov (.tmp 66)))⟩])
    (.seq (.region none [
      ⟨(some 67), none, (.op (.mov (.tmp 11)))⟩,
      ⟨(some 68), none, (.op (.mov (.tmp 14)))⟩,
      ⟨(some 69), none, (.call (.dat (.fn (.func 18) [] [])) [(.tmp 67), (.tmp 68)])⟩,
      ⟨(some 70), none, (.op (.mov (.tmp 69)))⟩,
      ⟨(some 71), (some (70, true)), (.op (.mov (.tmp 12)))⟩,
      ⟨(some 72), (some (70, true)), (.op (.mov (.tmp 15)))⟩,
      ⟨(some 73), (some (70, true)), (.op (.arith .eql (.tmp 71) (.tmp 72)))⟩,
      ⟨(some 74), none, (.op (.pick (.tmp 70) (.tmp 73) (.dat (.lit (.bool false)))))⟩,
      ⟨(some 75), none, (.op (.mov (.tmp 74)))⟩,
      ⟨(some 76), (some (75, true)), (.op (.mov (.tmp 13)))⟩,
      ⟨(some 77), (some (75, true)), (.op (.mov (.tmp 16)))⟩,
      ⟨(some 78), (some (75, true)), (.op (.arith .eql (.tmp 76) (.tmp 77)))⟩,
      ⟨(some 79), none, (.op (.pick (.tmp 75) (.tmp 78) (.dat (.lit (.bool false)))))⟩,
      ⟨(some 80), none, (.op (.mov (.tmp 79)))⟩,
      ⟨(some 81), (some (80, true)), (.op (.mov (.tmp 17)))⟩,
      ⟨(some 82), (some (80, true)), (.op (.mov (.tmp 20)))⟩,
      ⟨(some 83), (some (80, true)), (.op (.arith .eql (.tmp 81) (.tmp 82)))⟩,
      ⟨(some 84), none, (.op (.pick (.tmp 80) (.tmp 83) (.dat (.lit (.bool false)))))⟩,
      ⟨(some 85), none, (.op (.mov (.tmp 84)))⟩,
      ⟨(some 86), (some (85, true)), (.op (.mov (.tmp 18)))⟩,
      ⟨(some 87), (some (85, true)), (.op (.mov (.tmp 21)))⟩,
      ⟨(some 88), (some (85, true)), (.op (.ext (.eqBool false) [(.tmp 86), (.tmp 87)]))⟩,
      ⟨(some 89), none, (.op (.pick (.tmp 85) (.tmp 88) (.dat (.lit (.bool false)))))⟩,
      ⟨(some 90), none, (.op (.mov (.tmp 89)))⟩,
      ⟨(some 91), (some (90, true)), (.op (.mov (.tmp 19)))⟩,
      ⟨(some 92), (some (90, true)), (.op (.mov (.tmp 22)))⟩,
      ⟨(some 93), (some (90, true)), (.op (.arith .eql (.tmp 91) (.tmp 92)))⟩,
      ⟨(some 94), none, (.op (.pick (.tmp 90) (.tmp 93) (.dat (.lit (.bool false)))))⟩,
      ⟨(some 10), none, (.op (.mov (.tmp 94)))⟩])
    .ret))))))))
  res := [.tmp 10]
theorem c3 : CmpF Tryd.prog 3 a3 := chkF_cmp (F := Tryd.f3) (by kernel_rfl) mixed (by kernel_rfl)
/-- hansard/hansardlaw23.SettledStateSpec -/
def a4 : AF where
  nt := 64
  body := (.seq (.region none [
      ⟨(some 9), none, (.op (.box true (.tmp 2)))⟩,
      ⟨(some 14), none, (.op (.mov (.dat (.lit (.bool false)))))⟩])
    (.seq (.seq (.region none [
      ⟨(some 21), none, (.call (.dat (.fn (.func 13) [] [])) [])⟩,
      ⟨(some 22), none, (.op (.not (.tmp 21)))⟩])
    (.cond (.tmp 22)
      (.seq (.region none [
        ⟨(some 14), none, (.op (.mov (.dat (.lit (.bool false)))))⟩])
      .ret)
      .skip))
    (.seq (.seq (.region none [
      ⟨(some 23), none, (.op (.mov (.tmp 0)))⟩,
      ⟨(some 24), none, (.op (.mov (.tmp 1)))⟩,
      ⟨(some 25), none, (.call (.dat (.fn (.func 19) [] [])) [(.tmp 23), (.tmp 24)])⟩,
      ⟨(some 26), none, (.op (.not (.tmp 25)))⟩])
    (.cond (.tmp 26)
      (.seq (.region none [
        ⟨(some 14), none, (.op (.mov (.dat (.lit (.bool true)))))⟩])
      .ret)
      .skip))
    (.seq (.region none [
      ⟨(some 28), none, (.op (.mov (.tmp 0)))⟩,
      ⟨(some 29), none, (.op (.mov (.tmp 1)))⟩,
      ⟨(some 30), none, (.op (.load 1 true (.tmp 9)))⟩,
      ⟨(some 31), none, (.op (.mov (.tmp 3)))⟩,
      ⟨(some 32), none, (.op (.mov (.tmp 4)))⟩,
      ⟨(some 33), none, (.op (.mov (.tmp 5)))⟩,
      ⟨(some 34), none, (.op (.mov (.tmp 6)))⟩,
      ⟨(some 35), none, (.call (.dat (.fn (.func 20) [] [])) [(.tmp 28), (.tmp 29), (.tmp 30), (.tmp 31), (.tmp 32), (.tmp 33), (.tmp 34)])⟩,
      ⟨(some 27), none, (.op (.mov (.tmp 35)))⟩,
      ⟨(some 36), none, (.op (.extract (.tmp 27) 0))⟩,
      ⟨(some 37), none, (.op (.extract (.tmp 27) 1))⟩,
      ⟨(some 38), none, (.op (.extract (.tmp 27) 2))⟩,
      ⟨(some 15), none, (.op (.mov (.tmp 36)))⟩,
      ⟨(some 16), none, (.op (.mov (.tmp 37)))⟩,
      ⟨(some 17), none, (.op (.mov (.tmp 38)))⟩])
    (.seq (.region none [
      ⟨(some 40), none, (.op (.mov (.tmp 0)))⟩,
      ⟨(some 41), none, (.op (.mov (.tmp 1)))⟩,
      ⟨(some 42), none, (.op (.load 1 true (.tmp 9)))⟩,
      ⟨(some 43), none, (.op (.mov (.tmp 3)))⟩,
      ⟨(some 44), none, (.op (.mov (.tmp 4)))⟩,
      ⟨(some 45), none, (.op (.mov (.tmp 5)))⟩,
      ⟨(some 46), none, (.op (.mov (.tmp 6)))⟩,
      ⟨(some 47), none, (.call (.dat (.fn (.func 21) [] [])) [(.tmp 40), (.tmp 41), (.tmp 42), (.tmp 43), (.tmp 44), (.tmp 45), (.tmp 46)])⟩,
      ⟨(some 39), none, (.op (.mov (.tmp 47)))⟩,
      ⟨(some 48), none, (.op (.extract (.tmp 39) 0))⟩,
      ⟨(some 49), none, (.op (.extract (.tmp 39) 1))⟩,
      ⟨(some 50), none, (.op (.extract (.tmp 39) 2))⟩,
      ⟨(some 18), none, (.op (.mov (.tmp 48)))⟩,
      ⟨(some 19), none, (.op (.mov (.tmp 49)))⟩,
      ⟨(some 20), none, (.op (.mov (.tmp 50)))⟩])
    (.seq (.region none [
      ⟨(some 51), none, (.op (.mov (.tmp 15)))⟩,
      ⟨(some 52), none, (.op (.mov (.tmp 18)))⟩,
      ⟨(some 53), none, (.op (.arith .eql (.tmp 51) (.tmp 52)))⟩,
      ⟨(some 54), none, (.op (.mov (.tmp 53)))⟩,
      ⟨(some 55), (some (54, true)), (.op (.mov (.tmp 16)))⟩,
      ⟨(some 56), (some (54, true)), (.op (.mov (.tmp 19)))⟩,
      ⟨(some 57), (some (54, true)), (.call (.dat (.fn (.func 22) [] [])) [(.tmp 55), (.tmp 56)])⟩,
      ⟨(some 58), none, (.op (.pick (.tmp 54) (.tmp 57) (.dat (.lit (.bool false)))))⟩,
      ⟨(some 59), none, (.op (.mov (.tmp 58)))⟩,
      ⟨(some 60), (some (59, true)), (.op (.mov (.tmp 17)))⟩,
      ⟨(some 61), (some (59, true)), (.op (.mov (.tmp 20)))⟩,
      ⟨(some 62), (some (59, true)), (.op (.arith .eql (.tmp 60) (.tmp 61)))⟩,
      ⟨(some 63), none, (.op (.pick (.tmp 59) (.tmp 62) (.dat (.lit (.bool false)))))⟩,
      ⟨(some 14), none, (.op (.mov (.tmp 63)))⟩])
    .ret))))))
  res := [.tmp 14]
theorem c4 : CmpF Tryd.prog 4 a4 := chkF_cmp (F := Tryd.f4) (by kernel_rfl) mixed (by kernel_rfl)
/-- hansard/hansardlaw23.SettledEarlier -/
def a6 : AF where
  nt := 141
  body := (.seq (.region none [
      ⟨(some 12), none, (.op (.box true (.tmp 2)))⟩,
      ⟨(some 19), none, (.op (.box true (.tmp 9)))⟩,
      ⟨(some 20), none, (.op (.mov (.dat (.lit (.bool false)))))⟩])
    (.seq (.seq (.region none [
      ⟨(some 32), none, (.call (.dat (.fn (.func 13) [] [])) [])⟩,
      ⟨(some 33), none, (.op (.not (.tmp 32)))⟩])
    (.cond (.tmp 33)
      (.seq (.region none [
        ⟨(some 20), none, (.op (.mov (.dat (.lit (.bool false)))))⟩])
      .ret)
      .skip))
    (.seq (.seq (.region none [
      ⟨(some 34), none, (.op (.mov (.tmp 0)))⟩,
      ⟨(some 35), none, (.op (.mov (.tmp 1)))⟩,
      ⟨(some 36), none, (.call (.dat (.fn (.func 19) [] [])) [(.tmp 34), (.tmp 35)])⟩,
      ⟨(some 37), none, (.op (.not (.tmp 36)))⟩,
      ⟨(some 38), none, (.op (.mov (.tmp 37)))⟩,
      ⟨(some 39), (some (38, false)), (.op (.load 2 true (.tmp 19)))⟩,
      ⟨(some 40), (some (38, false)), (.op (.mkslice 2 [(.tmp 39)]))⟩,
      ⟨(some 41), (some (38, false)), (.call (.dat (.fn (.func 19) [] [])) [(.tmp 40), (.dat (.nil 0))])⟩,
      ⟨(some 42), (some (38, false)), (.op (.not (.tmp 41)))⟩,
      ⟨(some 43), none, (.op (.pick (.tmp 38) (.dat (.lit (.bool true))) (.tmp 42)))⟩])
    (.cond (.tmp 43)
      (.seq (.region none [
        ⟨(some 20), none, (.op (.mov (.dat (.lit (.bool true)))))⟩])
      .ret)
      .skip))
    (.seq (.region none [
      ⟨(some 45), none, (.op (.mov (.tmp 0)))⟩,
      ⟨(some 46), none, (.op (.mov (.tmp 1)))⟩,
      ⟨(some 47), none, (.op (.load 1 true (.tmp 12)))⟩,
      ⟨(some 48), none, (.op (.mov (.tmp 3)))⟩,
      ⟨(some 49), none, (.op (.mov (.tmp 4)))⟩,
      ⟨(some 50), none, (.op (.mov (.tmp 5)))⟩,
      ⟨(some 51), none, (.op (.mov (.tmp 6)))⟩,
      ⟨(some 52), none, (.call (.dat (.fn (.func 20) [] [])) [(.tmp 45), (.tmp 46), (.tmp 47), (.tmp 48), (.tmp 49), (.tmp 50), (.tmp 51)])⟩,
      ⟨(some 44), none, (.op (.mov (.tmp 52)))⟩,
      ⟨(some 53), none, (.op (.extract (.tmp 44) 0))⟩,
      ⟨(some 54), none, (.op (.extract (.tmp 44) 1))⟩,
      ⟨(some 55), none, (.op (.extract (.tmp 44) 2))⟩,
      ⟨(some 21), none, (.op (.mov (.tmp 53)))⟩,
      ⟨(some 22), none, (.op (.mov (.tmp 54)))⟩,
      ⟨(some 23), none, (.op (.mov (.tmp 55)))⟩])
    (.seq (.seq (.region none [
      ⟨(some 56), none, (.op (.mov (.tmp 23)))⟩,
      ⟨(some 57), none, (.op (.arith .neq (.tmp 56) (.dat (.lit (.int .i64 0)))))⟩])
    (.cond (.tmp 57)
      (.seq (.region none [
        ⟨(some 20), none, (.op (.mov (.dat (.lit (.bool true)))))⟩])
      .ret)
      .skip))
    (.seq (.seq (.region none [
      ⟨(some 58), none, (.op (.mov (.tmp 5)))⟩,
      ⟨(some 59), none, (.op (.arith .lss (.tmp 58) (.dat (.lit (.int .i64 0)))))⟩,
      ⟨(some 60), none, (.op (.mov (.tmp 59)))⟩,
      ⟨(some 61), (some (60, false)), (.op (.mov (.tmp 1)))⟩,
      ⟨(some 62), (some (60, false)), (.op (.len (.tmp 61)))⟩,
      ⟨(some 63), (some (60, false)), (.op (.mov (.tmp 0)))⟩,
      ⟨(some 64), (some (60, false)), (.op (.len (.tmp 63)))⟩,
      ⟨(some 65), (some (60, false)), (.op (.arith .neq (.tmp 62) (.tmp 64)))⟩,
      ⟨(some 66), none, (.op (.pick (.tmp 60) (.dat (.lit (.bool true))) (.tmp 65)))⟩])
    (.cond (.tmp 66)
      (.seq (.region none [
        ⟨(some 20), none, (.op (.mov (.dat (.lit (.bool false)))))⟩])
      .ret)
      .skip))
    (.seq (.region (some [[], [], [], [], [], [], [5], [], [7], [5, 6, 7, 8], [], [0, 1, 2, 3, 4, 5, 6, 7, 8, 9, 10], [0, 1, 2, 3, 4, 5, 6, 7, 8, 9, 10, 11], [0, 1, 2, 3, 4, 5, 6, 7, 8, 9, 10, 11, 12], [0, 1, 2, 3, 4, 5, 6, 7, 8, 9, 10, 11, 12], [0, 1, 2, 3, 4, 5, 6, 7, 8, 9, 10, 11, 12], [0, 1, 2, 3, 4, 5, 6, 7, 8, 9, 10, 11, 12, 13], [0, 1, 2, 3, 4, 5, 6, 7, 8, 9, 10, 11, 12, 13, 14, 16], [0, 1, 2, 3, 4, 5, 6, 7, 8, 9, 10, 11, 12, 13, 14, 15, 16, 17]]) [
      ⟨(some 68), none, (.op (.mov (.tmp 0)))⟩,
      ⟨(some 69), none, (.op (.mov (.tmp 1)))⟩,
      ⟨(some 70), none, (.op (.load 1 true (.tmp 12)))⟩,
      ⟨(some 71), none, (.op (.mov (.tmp 3)))⟩,
      ⟨(some 72), none, (.op (.mov (.tmp 4)))⟩,
      ⟨(some 73), none, (.op (.mov (.tmp 7)))⟩,
      ⟨(some 74), none, (.op (.conv .i64 (.tmp 73)))⟩,
      ⟨(some 75), none, (.op (.mov (.tmp 5)))⟩,
      ⟨(some 76), none, (.op (.arith .add (.tmp 75) (.dat (.lit (.int .i64 1)))))⟩,
      ⟨(some 77), none, (.op (.arith .rem (.tmp 74) (.tmp 76)))⟩,
      ⟨(some 78), none, (.op (.mov (.tmp 6)))⟩,
      ⟨(some 79), none, (.call (.dat (.fn (.func 20) [] [])) [(.tmp 68), (.tmp 69), (.tmp 70), (.tmp 71), (.tmp 72), (.tmp 77), (.tmp 78)])⟩,
      ⟨(some 67), none, (.op (.mov (.tmp 79)))⟩,
      ⟨(some 80), none, (.op (.extract (.tmp 67) 0))⟩,
      ⟨(some 81), none, (.op (.extract (.tmp 67) 1))⟩,
      ⟨(some 82), none, (.op (.extract (.tmp 67) 2))⟩,
      ⟨(some 24), none, (.op (.mov (.tmp 80)))⟩,
      ⟨(some 25), none, (.op (.mov (.tmp 81)))⟩,
      ⟨(some 26), none, (.op (.mov (.tmp 82)))⟩])
    (.seq (.seq (.region none [
      ⟨(some 83), none, (.op (.mov (.tmp 26)))⟩,
      ⟨(some 84), none, (.op (.arith .neq (.tmp 83) (.dat (.lit (.int .i64 0)))))⟩,
      ⟨(some 85), none, (.op (.mov (.tmp 84)))⟩,
      ⟨(some 86), (some (85, false)), (.op (.mov (.tmp 21)))⟩,
      ⟨(some 87), (some (85, false)), (.op (.arith .eql (.tmp 86) (.dat (.lit (.int .i64 2)))))⟩,
      ⟨(some 88), (some (85, false)), (.op (.mov (.tmp 87)))⟩,
      ⟨(some 89), (some (88, true)), (.op (.mov (.tmp 24)))⟩,
      ⟨(some 90), (some (88, true)), (.op (.arith .neq (.tmp 89) (.dat (.lit (.int .i64 2)))))⟩,
      ⟨(some 91), (some (85, false)), (.op (.pick (.tmp 88) (.tmp 90) (.dat (.lit (.bool false)))))⟩,
      ⟨(some 92), none, (.op (.pick (.tmp 85) (.dat (.lit (.bool true))) (.tmp 91)))⟩])
    (.cond (.tmp 92)
      (.seq (.region none [
        ⟨(some 20), none, (.op (.mov (.dat (.lit (.bool false)))))⟩])
      .ret)
      .skip))
    (.seq (.seq (.region none [
      ⟨(some 93), none, (.op (.mov (.tmp 0)))⟩,
      ⟨(some 94), none, (.op (.len (.tmp 93)))⟩,
      ⟨(some 95), none, (.op (.arith .eql (.tmp 94) (.dat (.lit (.int .i64 0)))))⟩,
      ⟨(some 96), none, (.op (.mov (.tmp 95)))⟩,
      ⟨(some 97), (some (96, false)), (.op (.load 2 true (.tmp 19)))⟩,
      ⟨(some 98), (some (96, false)), (.call (.dat (.fn (.func 23) [] [])) [(.tmp 97)])⟩,
      ⟨(some 99), (some (96, false)), (.op (.arith .neq (.tmp 98) (.dat (.lit (.int .i64 0)))))⟩,
      ⟨(some 100), none, (.op (.pick (.tmp 96) (.dat (.lit (.bool true))) (.tmp 99)))⟩])
    (.cond (.tmp 100)
      (.seq (.region none [
        ⟨(some 20), none, (.op (.mov (.dat (.lit (.bool true)))))⟩])
      .ret)
      .skip))
    (.seq (.region none [
      ⟨(some 101), none, (.op (.mov (.tmp 8)))⟩,
      ⟨(some 102), none, (.op (.conv .i64 (.tmp 101)))⟩,
      ⟨(some 103), none, (.op (.mov (.tmp 0)))⟩,
      ⟨(some 104), none, (.op (.len (.tmp 103)))⟩,
      ⟨(some 105), none, (.op (.arith .rem (.tmp 102) (.tmp 104)))⟩,
      ⟨(some 27), none, (.op (.mov (.tmp 105)))⟩])
    (.seq (.seq (.region none [
      ⟨(some 106), none, (.op (.mov (.tmp 1)))⟩,
      ⟨(some 107), none, (.op (.mov (.tmp 27)))⟩,
      ⟨(some 108), none, (.op (.index 1 (.tmp 106) (.tmp 107)))⟩,
      ⟨(some 109), none, (.op (.load 1 false (.tmp 108)))⟩])
    (.cond (.tmp 109)
      (.seq (.region none [
        ⟨(some 20), none, (.op (.mov (.dat (.lit (.bool true)))))⟩])
      .ret)
      .skip))
    (.seq (.region none [
      ⟨(some 110), none, (.op (.ext (.mksl0 2) []))⟩,
      ⟨(some 111), none, (.op (.mov (.tmp 0)))⟩,
      ⟨(some 112), none, (.op (.ext (.appendW 2 32) [(.tmp 110), (.tmp 111)]))⟩,
      ⟨(some 28), none, (.op (.mov (.tmp 112)))⟩])
    (.seq (.region none [
      ⟨(some 113), none, (.op (.mov (.tmp 28)))⟩,
      ⟨(some 114), none, (.op (.mov (.tmp 27)))⟩,
      ⟨(some 115), none, (.op (.load 2 true (.tmp 19)))⟩,
      ⟨(some 116), none, (.op (.ext (.idxB 2) [(.tmp 113), (.tmp 114)]))⟩,
      ⟨none, none, (.op (.store 2 (.tmp 116) (.tmp 115)))⟩])
    (.seq (.region none [
      ⟨(some 118), none, (.op (.ext .iceM [(.tmp 28)]))⟩,
      ⟨(some 119), none, (.op (.mov (.tmp 1)))⟩,
      ⟨(some 120), none, (.op (.load 1 true (.tmp 12)))⟩,
      ⟨(some 121), none, (.op (.mov (.tmp 3)))⟩,
      ⟨(some 122), none, (.op (.mov (.tmp 4)))⟩,
      ⟨(some 123), none, (.op (.mov (.tmp 5)))⟩,
      ⟨(some 124), none, (.op (.mov (.tmp 6)))⟩,
      ⟨(some 125), none, (.call (.dat (.fn (.func 20) [] [])) [(.tmp 118), (.tmp 119), (.tmp 120), (.tmp 121), (.tmp 122), (.tmp 123), (.tmp 124)])⟩,
      ⟨(some 117), none, (.op (.mov (.tmp 125)))⟩,
      ⟨(some 126), none, (.op (.extract (.tmp 117) 0))⟩,
      ⟨(some 127), none, (.op (.extract (.tmp 117) 1))⟩,
      ⟨(some 128), none, (.op (.extract (.tmp 117) 2))⟩,
      ⟨(some 29), none, (.op (.mov (.tmp 126)))⟩,
      ⟨(some 30), none, (.op (.mov (.tmp 127)))⟩,
      ⟨(some 31), none, (.op (.mov (.tmp 128)))⟩])
    (.seq (.region none [
      ⟨(some 129), none, (.op (.mov (.tmp 31)))⟩,
      ⟨(some 130), none, (.op (.arith .eql (.tmp 129) (.dat (.lit (.int .i64 0)))))⟩,
      ⟨(some 131), none, (.op (.mov (.tmp 130)))⟩,
      ⟨(some 132), (some (131, true)), (.op (.mov (.tmp 29)))⟩,
      ⟨(some 133), (some (131, true)), (.op (.mov (.tmp 21)))⟩,
      ⟨(some 134), (some (131, true)), (.op (.arith .eql (.tmp 132) (.tmp 133)))⟩,
      ⟨(some 135), none, (.op (.pick (.tmp 131) (.tmp 134) (.dat (.lit (.bool false)))))⟩,
      ⟨(some 136), none, (.op (.mov (.tmp 135)))⟩,
      ⟨(some 137), (some (136, true)), (.op (.mov (.tmp 30)))⟩,
      ⟨(some 138), (some (136, true)), (.op (.mov (.tmp 22)))⟩,
      ⟨(some 139), (some (136, true)), (.call (.dat (.fn (.func 22) [] [])) [(.tmp 137), (.tmp 138)])⟩,
      ⟨(some 140), none, (.op (.pick (.tmp 136) (.tmp 139) (.dat (.lit (.bool false)))))⟩,
      ⟨(some 20), none, (.op (.mov (.tmp 140)))⟩])
    .ret)))))))))))))))
  res := [.tmp 20]
theorem c6 : CmpF Tryd.prog 6 a6 := chkF_cmp (F := Tryd.f6) (by kernel_rfl) mixed (by kernel_rfl)
/-- hansard/hansardlaw23.SettledRemains -/
def a7 : AF where
  nt := 197
  body := (.seq (.region none [
      ⟨(some 10), none, (.op (.box true (.tmp 2)))⟩,
      ⟨(some 16), none, (.op (.mov (.dat (.lit (.bool false)))))⟩])
    (.seq (.seq (.region none [
      ⟨(some 32), none, (.call (.dat (.fn (.func 13) [] [])) [])⟩,
      ⟨(some 33), none, (.op (.not (.tmp 32)))⟩])
    (.cond (.tmp 33)
      (.seq (.region none [
        ⟨(some 16), none, (.op (.mov (.dat (.lit (.bool false)))))⟩])
      .ret)
      .skip))
    (.seq (.seq (.region none [
      ⟨(some 34), none, (.op (.mov (.tmp 0)))⟩,
      ⟨(some 35), none, (.op (.mov (.tmp 1)))⟩,
      ⟨(some 36), none, (.call (.dat (.fn (.func 19) [] [])) [(.tmp 34), (.tmp 35)])⟩,
      ⟨(some 37), none, (.op (.not (.tmp 36)))⟩,
      ⟨(some 38), none, (.op (.mov (.tmp 37)))⟩,
      ⟨(some 39), (some (38, false)), (.op (.mov (.tmp 7)))⟩,
      ⟨(some 40), (some (38, false)), (.op (.len (.tmp 39)))⟩,
      ⟨(some 41), (some (38, false)), (.op (.arith .gtr (.tmp 40) (.dat (.lit (.int .i64 6)))))⟩,
      ⟨(some 42), none, (.op (.pick (.tmp 38) (.dat (.lit (.bool true))) (.tmp 41)))⟩,
      ⟨(some 43), none, (.op (.mov (.tmp 42)))⟩,
      ⟨(some 44), (some (43, false)), (.op (.mov (.tmp 5)))⟩,
      ⟨(some 45), (some (43, false)), (.op (.arith .gtr (.tmp 44) (.dat (.lit (.int .i64 8)))))⟩,
      ⟨(some 46), none, (.op (.pick (.tmp 43) (.dat (.lit (.bool true))) (.tmp 45)))⟩])
    (.cond (.tmp 46)
      (.seq (.region none [
        ⟨(some 16), none, (.op (.mov (.dat (.lit (.bool true)))))⟩])
      .ret)
      .skip))
    (.seq (.region none [
      ⟨(some 48), none, (.op (.mov (.tmp 0)))⟩,
      ⟨(some 49), none, (.op (.mov (.tmp 1)))⟩,
      ⟨(some 50), none, (.op (.load 1 true (.tmp 10)))⟩,
      ⟨(some 51), none, (.op (.mov (.tmp 3)))⟩,
      ⟨(some 52), none, (.op (.mov (.tmp 4)))⟩,
      ⟨(some 53), none, (.op (.mov (.tmp 5)))⟩,
      ⟨(some 54), none, (.op (.mov (.tmp 6)))⟩,
      ⟨(some 55), none, (.call (.dat (.fn (.func 20) [] [])) [(.tmp 48), (.tmp 49), (.tmp 50), (.tmp 51), (.tmp 52), (.tmp 53), (.tmp 54)])⟩,
      ⟨(some 47), none, (.op (.mov (.tmp 55)))⟩,
      ⟨(some 56), none, (.op (.extract (.tmp 47) 0))⟩,
      ⟨(some 57), none, (.op (.extract (.tmp 47) 1))⟩,
      ⟨(some 58), none, (.op (.extract (.tmp 47) 2))⟩,
      ⟨(some 17), none, (.op (.mov (.tmp 56)))⟩,
      ⟨(some 18), none, (.op (.mov (.tmp 57)))⟩,
      ⟨(some 19), none, (.op (.mov (.tmp 58)))⟩])
    (.seq (.seq (.region none [
      ⟨(some 59), none, (.op (.mov (.tmp 19)))⟩,
      ⟨(some 60), none, (.op (.arith .neq (.tmp 59) (.dat (.lit (.int .i64 0)))))⟩])
    (.cond (.tmp 60)
      (.seq (.region none [
        ⟨(some 61), none, (.op (.mov (.tmp 17)))⟩,
        ⟨(some 62), none, (.op (.arith .eql (.tmp 61) (.dat (.lit (.int .i64 0)))))⟩,
        ⟨(some 63), none, (.op (.mov (.tmp 62)))⟩,
        ⟨(some 64), (some (63, true)), (.op (.mov (.tmp 18)))⟩,
        ⟨(some 65), (some (63, true)), (.op (.len (.tmp 64)))⟩,
        ⟨(some 66), (some (63, true)), (.op (.arith .eql (.tmp 65) (.dat (.lit (.int .i64 0)))))⟩,
        ⟨(some 67), none, (.op (.pick (.tmp 63) (.tmp 66) (.dat (.lit (.bool false)))))⟩,
        ⟨(some 16), none, (.op (.mov (.tmp 67)))⟩])
      .ret)
      .skip))
    (.seq (.seq (.region none [
      ⟨(some 68), none, (.op (.mov (.tmp 17)))⟩,
      ⟨(some 69), none, (.op (.arith .neq (.tmp 68) (.dat (.lit (.int .i64 2)))))⟩])
    (.cond (.tmp 69)
      (.seq (.region none [
        ⟨(some 16), none, (.op (.mov (.dat (.lit (.bool true)))))⟩])
      .ret)
      .skip))
    (.seq (.seq (.region none [
      ⟨(some 70), none, (.op (.mov (.tmp 1)))⟩,
      ⟨(some 71), none, (.op (.len (.tmp 70)))⟩,
      ⟨(some 72), none, (.op (.mov (.tmp 0)))⟩,
      ⟨(some 73), none, (.op (.len (.tmp 72)))⟩,
      ⟨(some 74), none, (.op (.arith .neq (.tmp 71) (.tmp 73)))⟩,
      ⟨(some 75), none, (.op (.mov (.tmp 74)))⟩,
      ⟨(some 76), (some (75, false)), (.op (.mov (.tmp 0)))⟩,
      ⟨(some 77), (some (75, false)), (.op (.len (.tmp 76)))⟩,
      ⟨(some 78), (some (75, false)), (.op (.arith .eql (.tmp 77) (.dat (.lit (.int .i64 0)))))⟩,
      ⟨(some 79), none, (.op (.pick (.tmp 75) (.dat (.lit (.bool true))) (.tmp 78)))⟩])
    (.cond (.tmp 79)
      (.seq (.region none [
        ⟨(some 16), none, (.op (.mov (.dat (.lit (.bool false)))))⟩])
      .ret)
      .skip))
    (.seq (.region none [
      ⟨(some 80), none, (.op (.ext (.mksl0 2) []))⟩,
      ⟨(some 81), none, (.op (.mov (.tmp 0)))⟩,
      ⟨(some 82), none, (.op (.ext (.appendW 2 32) [(.tmp 80), (.tmp 81)]))⟩,
      ⟨(some 20), none, (.op (.mov (.tmp 82)))⟩])
    (.seq (.region none [
      ⟨(some 83), none, (.op (.mov (.tmp 3)))⟩,
      ⟨(some 21), none, (.op (.mov (.tmp 83)))⟩])
    (.seq (.seq (.region none [
      ⟨(some 22), none, (.op (.mov (.dat (.lit (.int .i64 0)))))⟩])
    (.block 0
      (.loop
        (.seq (.seq (.region none [
          ⟨(some 84), none, (.op (.mov (.tmp 22)))⟩,
          ⟨(some 85), none, (.op (.mov (.tmp 7)))⟩,
          ⟨(some 86), none, (.op (.len (.tmp 85)))⟩,
          ⟨(some 87), none, (.op (.arith .lss (.tmp 84) (.tmp 86)))⟩])
        (.cond (.tmp 87)
          .skip
          (.exit 0)))
        (.seq (.block 1
          (.seq (.seq (.region none [
            ⟨(some 90), none, (.op (.mov (.tmp 7)))⟩,
            ⟨(some 91), none, (.op (.mov (.tmp 22)))⟩,
            ⟨(some 92), none, (.op (.index 6 (.tmp 90) (.tmp 91)))⟩,
            ⟨(some 93), none, (.op (.field 2 4 true (.tmp 92)))⟩,
            ⟨(some 94), none, (.op (.field 3 1 false (.tmp 93)))⟩,
            ⟨(some 95), none, (.op (.load 1 false (.tmp 94)))⟩,
            ⟨(some 96), none, (.op (.len (.tmp 95)))⟩,
            ⟨(some 97), none, (.op (.arith .gtr (.tmp 96) (.dat (.lit (.int .i64 5)))))⟩])
          (.cond (.tmp 97)
            (.seq (.region none [
              ⟨(some 16), none, (.op (.mov (.dat (.lit (.bool true)))))⟩])
            .ret)
            .skip))
          (.seq (.region none [
            ⟨(some 98), none, (.op (.mov (.tmp 21)))⟩,
            ⟨(some 99), none, (.op (.mov (.tmp 7)))⟩,
            ⟨(some 100), none, (.op (.mov (.tmp 22)))⟩,
            ⟨(some 101), none, (.op (.index 6 (.tmp 99) (.tmp 100)))⟩,
            ⟨(some 102), none, (.op (.field 1 1 false (.tmp 101)))⟩,
            ⟨(some 103), none, (.op (.load 1 false (.tmp 102)))⟩,
            ⟨(some 104), none, (.op (.conv .i64 (.tmp 103)))⟩,
            ⟨(some 105), none, (.op (.arith .add (.tmp 98) (.tmp 104)))⟩,
            ⟨(some 106), none, (.op (.minmax false (.tmp 105) (.dat (.lit (.int .i64 1099511627775)))))⟩,
            ⟨(some 21), none, (.op (.mov (.tmp 106)))⟩])
          (.seq (.region none [
            ⟨(some 107), none, (.op (.mov (.tmp 7)))⟩,
            ⟨(some 108), none, (.op (.mov (.tmp 22)))⟩,
            ⟨(some 109), none, (.op (.index 6 (.tmp 107) (.tmp 108)))⟩,
            ⟨(some 110), none, (.op (.field 0 1 false (.tmp 109)))⟩,
            ⟨(some 111), none, (.op (.load 1 false (.tmp 110)))⟩,
            ⟨(some 112), none, (.op (.conv .i64 (.tmp 111)))⟩,
            ⟨(some 113), none, (.op (.mov (.tmp 0)))⟩,
            ⟨(some 114), none, (.op (.len (.tmp 113)))⟩,
            ⟨(some 115), none, (.op (.arith .rem (.tmp 112) (.tmp 114)))⟩,
            ⟨(some 23), none, (.op (.mov (.tmp 115)))⟩])
          (.seq (.region (some [[], [], [0, 1], [0, 1, 2], [], [], [], [], [6, 7], [6, 7, 8], [6, 7, 8, 9], [0, 1, 2, 3, 4, 5, 6, 7, 8, 9, 10], [0, 1, 2, 3, 4, 5, 6, 7, 8, 9, 10, 11], [0, 1, 2, 3, 4, 5, 6, 7, 8, 9, 10, 11, 12], [0, 1, 2, 3, 4, 5, 6, 7, 8, 9, 10, 11, 12], [0, 1, 2, 3, 4, 5, 6, 7, 8, 9, 10, 11, 12, 13], [0, 1, 2, 3, 4, 5, 6, 7, 8, 9, 10, 11, 12, 13, 14, 15]]) [
            ⟨(some 117), none, (.op (.mov (.tmp 20)))⟩,
            ⟨(some 118), none, (.op (.mov (.tmp 23)))⟩,
            ⟨(some 119), none, (.op (.ext (.idxB 2) [(.tmp 117), (.tmp 118)]))⟩,
            ⟨(some 120), none, (.op (.load 2 true (.tmp 119)))⟩,
            ⟨(some 121), none, (.op (.load 1 true (.tmp 10)))⟩,
            ⟨(some 122), none, (.op (.mov (.tmp 21)))⟩,
            ⟨(some 123), none, (.op (.mov (.tmp 7)))⟩,
            ⟨(some 124), none, (.op (.mov (.tmp 22)))⟩,
            ⟨(some 125), none, (.op (.index 6 (.tmp 123) (.tmp 124)))⟩,
            ⟨(some 126), none, (.op (.field 2 4 true (.tmp 125)))⟩,
            ⟨(some 127), none, (.op (.load 4 true (.tmp 126)))⟩,
            ⟨(some 128), none, (.call (.dat (.fn (.func 24) [] [])) [(.tmp 120), (.tmp 121), (.tmp 122), (.tmp 127)])⟩,
            ⟨(some 116), none, (.op (.mov (.tmp 128)))⟩,
            ⟨(some 129), none, (.op (.extract (.tmp 116) 0))⟩,
            ⟨(some 130), none, (.op (.extract (.tmp 116) 1))⟩,
            ⟨(some 24), none, (.op (.mov (.tmp 129)))⟩,
            ⟨(some 25), none, (.op (.mov (.tmp 130)))⟩])
          (.seq (.seq (.region none [
            ⟨(some 131), none, (.op (.mov (.tmp 25)))⟩,
            ⟨(some 132), none, (.op (.arith .neq (.tmp 131) (.dat (.lit (.int .i64 0)))))⟩])
          (.cond (.tmp 132)
            (.seq (.region none [
              ⟨(some 16), none, (.op (.mov (.dat (.lit (.bool false)))))⟩])
            .ret)
            .skip))
          (.seq (.seq (.region none [
            ⟨(some 133), none, (.op (.mov (.tmp 24)))⟩])
          (.cond (.tmp 133)
            (.seq (.region (some [[], [], [0, 1], [0, 1, 2], [], [], [4, 5], [4, 5, 6], [4, 5, 6, 7], [0, 1, 2, 3, 4, 5, 6, 7, 8], [0, 1, 2, 3, 4, 5, 6, 7, 8, 9], [0, 1, 2, 3, 4, 5, 6, 7, 8, 9, 10], [0, 1, 2, 3, 4, 5, 6, 7, 8, 9, 10], [], [0, 1, 2, 3, 4, 5, 6, 7, 8, 9, 10, 11, 13], [0, 1, 2, 3, 4, 5, 6, 7, 8, 9, 10, 11, 12, 13, 14]]) [
              ⟨(some 135), none, (.op (.mov (.tmp 20)))⟩,
              ⟨(some 136), none, (.op (.mov (.tmp 23)))⟩,
              ⟨(some 137), none, (.op (.ext (.idxB 2) [(.tmp 135), (.tmp 136)]))⟩,
              ⟨(some 138), none, (.op (.load 2 true (.tmp 137)))⟩,
              ⟨(some 139), none, (.op (.mov (.tmp 7)))⟩,
              ⟨(some 140), none, (.op (.mov (.tmp 22)))⟩,
              ⟨(some 141), none, (.op (.index 6 (.tmp 139) (.tmp 140)))⟩,
              ⟨(some 142), none, (.op (.field 2 4 true (.tmp 141)))⟩,
              ⟨(some 143), none, (.op (.load 4 true (.tmp 142)))⟩,
              ⟨(some 144), none, (.call (.dat (.fn (.func 25) [] [])) [(.tmp 138), (.tmp 143)])⟩,
              ⟨(some 134), none, (.op (.mov (.tmp 144)))⟩,
              ⟨(some 145), none, (.op (.extract (.tmp 134) 0))⟩,
              ⟨(some 146), none, (.op (.extract (.tmp 134) 1))⟩,
              ⟨(some 26), none, (.op (.alloc true [.nil 5, .lit (.int .i64 0)]))⟩,
              ⟨none, none, (.op (.store 2 (.tmp 26) (.tmp 145)))⟩,
              ⟨(some 27), none, (.op (.mov (.tmp 146)))⟩])
            (.seq (.seq (.region none [
              ⟨(some 147), none, (.op (.mov (.tmp 27)))⟩,
              ⟨(some 148), none, (.op (.arith .neq (.tmp 147) (.dat (.lit (.int .i64 0)))))⟩])
            (.cond (.tmp 148)
              (.seq (.region none [
                ⟨(some 16), none, (.op (.mov (.dat (.lit (.bool false)))))⟩])
              .ret)
              .skip))
            (.region none [
              ⟨(some 149), none, (.op (.mov (.tmp 20)))⟩,
              ⟨(some 150), none, (.op (.mov (.tmp 23)))⟩,
              ⟨(some 151), none, (.op (.load 2 true (.tmp 26)))⟩,
              ⟨(some 152), none, (.op (.ext (.idxB 2) [(.tmp 149), (.tmp 150)]))⟩,
              ⟨none, none, (.op (.store 2 (.tmp 152) (.tmp 151)))⟩])))
            .skip))
          (.seq (.seq (.region none [
            ⟨(some 28), none, (.op (.mov (.dat (.lit (.int .i64 0)))))⟩])
          (.block 2
            (.loop
              (.seq (.seq (.region none [
                ⟨(some 153), none, (.op (.mov (.tmp 28)))⟩,
                ⟨(some 154), none, (.op (.mov (.tmp 0)))⟩,
                ⟨(some 155), none, (.op (.len (.tmp 154)))⟩,
                ⟨(some 156), none, (.op (.arith .lss (.tmp 153) (.tmp 155)))⟩])
              (.cond (.tmp 156)
                .skip
                (.exit 2)))
              (.seq (.block 3
                (.seq (.region (some [[], [], [0, 1], [0, 1, 2], [0, 1, 2, 3], [0, 1, 2, 3, 4], [0, 1, 2, 3, 4], [0, 1, 2, 3, 4, 5, 6], [0, 1, 2, 3, 4, 5, 6, 7], [0, 1, 2, 3, 4, 5, 6, 7, 8], [0, 1, 2, 3, 4], [0, 1, 2, 3, 4], [0, 1, 2, 3, 4, 10, 11], [0, 1, 2, 3, 4, 10, 11, 12], [0, 1, 2, 3, 4, 10, 11, 12, 13], [0, 1, 2, 3, 4], [0, 1, 2, 3, 4], [0, 1, 2, 3, 4, 5, 6, 7, 8, 9, 10, 11, 12, 13, 14, 15, 16], [0, 1, 2, 3, 4, 5, 6, 7, 8, 9, 10, 11, 12, 13, 14, 15, 16, 17], [0, 1, 2, 3, 4, 5, 6, 7, 8, 9, 10, 11, 12, 13, 14, 15, 16, 17, 18]]) [
                  ⟨(some 159), none, (.op (.mov (.tmp 1)))⟩,
                  ⟨(some 160), none, (.op (.mov (.tmp 28)))⟩,
                  ⟨(some 161), none, (.op (.index 1 (.tmp 159) (.tmp 160)))⟩,
                  ⟨(some 162), none, (.op (.load 1 false (.tmp 161)))⟩,
                  ⟨(some 163), none, (.op (.mov (.tmp 162)))⟩,
                  ⟨(some 164), (some (163, true)), (.op (.mov (.tmp 0)))⟩,
                  ⟨(some 165), (some (163, true)), (.op (.mov (.tmp 28)))⟩,
                  ⟨(some 166), (some (163, true)), (.op (.index 2 (.tmp 164) (.tmp 165)))⟩,
                  ⟨(some 167), (some (163, true)), (.op (.field 0 1 false (.tmp 166)))⟩,
                  ⟨(some 168), (some (163, true)), (.op (.load 1 false (.tmp 167)))⟩,
                  ⟨(some 169), (some (163, true)), (.op (.mov (.tmp 20)))⟩,
                  ⟨(some 170), (some (163, true)), (.op (.mov (.tmp 28)))⟩,
                  ⟨(some 171), (some (163, true)), (.op (.ext (.idxB 2) [(.tmp 169), (.tmp 170)]))⟩,
                  ⟨(some 172), (some (163, true)), (.op (.field 0 1 false (.tmp 171)))⟩,
                  ⟨(some 173), (some (163, true)), (.op (.load 1 false (.tmp 172)))⟩,
                  ⟨(some 174), (some (163, true)), (.op (.mov (.tmp 4)))⟩,
                  ⟨(some 175), (some (163, true)), (.op (.mov (.tmp 5)))⟩,
                  ⟨(some 176), (some (163, true)), (.call (.dat (.fn (.func 26) [] [])) [(.tmp 168), (.tmp 173), (.tmp 174), (.tmp 175)])⟩,
                  ⟨(some 177), (some (163, true)), (.op (.not (.tmp 176)))⟩,
                  ⟨(some 178), none, (.op (.pick (.tmp 163) (.tmp 177) (.dat (.lit (.bool false)))))⟩])
                (.cond (.tmp 178)
                  (.seq (.region none [
                    ⟨(some 16), none, (.op (.mov (.dat (.lit (.bool false)))))⟩])
                  .ret)
                  .skip)))
              (.region none [
                ⟨(some 157), none, (.op (.mov (.tmp 28)))⟩,
                ⟨(some 158), none, (.op (.arith .add (.tmp 157) (.dat (.lit (.int .i64 1)))))⟩,
                ⟨(some 28), none, (.op (.mov (.tmp 158)))⟩]))))))
          (.seq (.region none [
            ⟨(some 180), none, (.op (.mov (.tmp 20)))⟩,
            ⟨(some 181), none, (.op (.mov (.tmp 1)))⟩,
            ⟨(some 182), none, (.op (.load 1 true (.tmp 10)))⟩,
            ⟨(some 183), none, (.op (.mov (.tmp 21)))⟩,
            ⟨(some 184), none, (.op (.mov (.tmp 4)))⟩,
            ⟨(some 185), none, (.op (.mov (.tmp 5)))⟩,
            ⟨(some 186), none, (.op (.mov (.tmp 6)))⟩,
            ⟨(some 187), none, (.call (.dat (.fn (.func 20) [] [])) [(.tmp 180), (.tmp 181), (.tmp 182), (.tmp 183), (.tmp 184), (.tmp 185), (.tmp 186)])⟩,
            ⟨(some 179), none, (.op (.mov (.tmp 187)))⟩,
            ⟨(some 188), none, (.op (.extract (.tmp 179) 0))⟩,
            ⟨(some 189), none, (.op (.extract (.tmp 179) 1))⟩,
            ⟨(some 190), none, (.op (.extract (.tmp 179) 2))⟩,
            ⟨(some 29), none, (.op (.mov (.tmp 188)))⟩,
            ⟨(some 30), none, (.op (.mov (.tmp 189)))⟩,
            ⟨(some 31), none, (.op (.mov (.tmp 190)))⟩])
          (.seq (.region none [
            ⟨(some 191), none, (.op (.mov (.tmp 31)))⟩,
            ⟨(some 192), none, (.op (.arith .neq (.tmp 191) (.dat (.lit (.int .i64 0)))))⟩,
            ⟨(some 193), none, (.op (.mov (.tmp 192)))⟩,
            ⟨(some 194), (some (193, false)), (.op (.mov (.tmp 29)))⟩,
            ⟨(some 195), (some (193, false)), (.op (.arith .neq (.tmp 194) (.dat (.lit (.int .i64 2)))))⟩,
            ⟨(some 196), none, (.op (.pick (.tmp 193) (.dat (.lit (.bool true))) (.tmp 195)))⟩])
          (.cond (.tmp 196)
            (.seq (.region none [
              ⟨(some 16), none, (.op (.mov (.dat (.lit (.bool false)))))⟩])
            .ret)
            .skip)))))))))))
        (.region none [
          ⟨(some 88), none, (.op (.mov (.tmp 22)))⟩,
          ⟨(some 89), none, (.op (.arith .add (.tmp 88) (.dat (.lit (.int .i64 1)))))⟩,
          ⟨(some 22), none, (.op (.mov (.tmp 89)))⟩]))))))
    (.seq (.region none [
      ⟨(some 16), none, (.op (.mov (.dat (.lit (.bool true)))))⟩])
    .ret)))))))))))
  res := [.tmp 16]
theorem c7 : CmpF Tryd.prog 7 a7 := chkF_cmp (F := Tryd.f7) (by kernel_rfl) mixed (by kernel_rfl)
/-- hansard/hansardlaw23.sane -/
def a13 : AF where
  nt := 239
  body := (.seq (.region none [
      ⟨(some 0), none, (.op (.mov (.dat (.lit (.bool false)))))⟩])
    (.seq (.region none [
      ⟨(some 40), none, (.call (.dat (.fn (.func 42) [] [])) [(.dat (.lit (.int .i64 900)))])⟩,
      ⟨(some 41), none, (.call (.dat (.fn (.func 42) [] [])) [(.dat (.lit (.int .i64 1000)))])⟩,
      ⟨(some 42), none, (.call (.dat (.fn (.func 42) [] [])) [(.dat (.lit (.int .i64 1999)))])⟩,
      ⟨(some 43), none, (.call (.dat (.fn (.func 42) [] [])) [(.dat (.lit (.int .i64 2000)))])⟩,
      ⟨(some 44), none, (.op (.mkslice 5 [(.tmp 40), (.tmp 41), (.tmp 42), (.tmp 43)]))⟩,
      ⟨(some 1), none, (.op (.mov (.tmp 44)))⟩])
    (.seq (.region none [
      ⟨(some 46), none, (.op (.mov (.tmp 1)))⟩,
      ⟨(some 47), none, (.call (.dat (.fn (.func 14) [] [])) [(.tmp 46), (.dat (.lit (.int .i64 1000))), (.dat (.lit (.int .i64 1)))])⟩,
      ⟨(some 45), none, (.op (.mov (.tmp 47)))⟩,
      ⟨(some 48), none, (.op (.extract (.tmp 45) 0))⟩,
      ⟨(some 49), none, (.op (.extract (.tmp 45) 1))⟩,
      ⟨(some 50), none, (.op (.extract (.tmp 45) 2))⟩,
      ⟨(some 2), none, (.op (.mov (.tmp 48)))⟩,
      ⟨(some 3), none, (.op (.mov (.tmp 49)))⟩,
      ⟨(some 4), none, (.op (.mov (.tmp 50)))⟩])
    (.seq (.region none [
      ⟨(some 52), none, (.call (.dat (.fn (.func 14) [] [])) [(.dat (.nil 0)), (.dat (.lit (.int .i64 1000))), (.dat (.lit (.int .i64 0)))])⟩,
      ⟨(some 51), none, (.op (.mov (.tmp 52)))⟩,
      ⟨(some 53), none, (.op (.extract (.tmp 51) 0))⟩,
      ⟨(some 54), none, (.op (.extract (.tmp 51) 1))⟩,
      ⟨(some 55), none, (.op (.extract (.tmp 51) 2))⟩,
      ⟨(some 5), none, (.op (.mov (.tmp 53)))⟩,
      ⟨(some 6), none, (.op (.mov (.tmp 54)))⟩,
      ⟨(some 7), none, (.op (.mov (.tmp 55)))⟩])
    (.seq (.region none [
      ⟨(some 57), none, (.call (.dat (.fn (.func 14) [] [])) [(.dat (.nil 0)), (.dat (.lit (.int .i64 0))), (.dat (.lit (.int .i64 0)))])⟩,
      ⟨(some 56), none, (.op (.mov (.tmp 57)))⟩,
      ⟨(some 58), none, (.op (.extract (.tmp 56) 0))⟩,
      ⟨(some 59), none, (.op (.extract (.tmp 56) 1))⟩,
      ⟨(some 60), none, (.op (.extract (.tmp 56) 2))⟩,
      ⟨(some 8), none, (.op (.mov (.tmp 58)))⟩,
      ⟨(some 9), none, (.op (.mov (.tmp 59)))⟩,
      ⟨(some 10), none, (.op (.mov (.tmp 60)))⟩])
    (.seq (.region none [
      ⟨(some 61), none, (.op (.mov (.tmp 1)))⟩,
      ⟨(some 62), none, (.op (.build [.nil 5, .lit (.int .i64 0)] [(0, 1, (.tmp 61)), (1, 1, (.dat (.lit (.int .i64 4))))]))⟩,
      ⟨(some 63), none, (.op (.mov (.tmp 1)))⟩,
      ⟨(some 64), none, (.op (.build [.nil 5, .lit (.int .i64 0)] [(0, 1, (.tmp 63))]))⟩,
      ⟨(some 11), none, (.op (.alloc true [.nil 5, .lit (.int .i64 0)]))⟩,
      ⟨(some 12), none, (.op (.alloc true [.nil 5, .lit (.int .i64 0)]))⟩,
      ⟨none, none, (.op (.store 2 (.tmp 11) (.tmp 62)))⟩,
      ⟨none, none, (.op (.store 2 (.tmp 12) (.tmp 64)))⟩])
    (.seq (.region none [
      ⟨(some 66), none, (.op (.load 2 true (.tmp 11)))⟩,
      ⟨(some 67), none, (.op (.build [.lit (.int .i64 0)] [(0, 1, (.dat (.lit (.int .i64 500))))]))⟩,
      ⟨(some 68), none, (.call (.dat (.fn (.func 16) [] [])) [(.tmp 66), (.tmp 67), (.dat (.lit (.int .i64 2100))), (.dat (.lit (.int .i64 1000))), (.dat (.lit (.int .i64 1)))])⟩,
      ⟨(some 65), none, (.op (.mov (.tmp 68)))⟩,
      ⟨(some 69), none, (.op (.extract (.tmp 65) 0))⟩,
      ⟨(some 70), none, (.op (.extract (.tmp 65) 1))⟩,
      ⟨(some 71), none, (.op (.extract (.tmp 65) 2))⟩,
      ⟨(some 13), none, (.op (.mov (.tmp 69)))⟩,
      ⟨(some 14), none, (.op (.mov (.tmp 70)))⟩,
      ⟨(some 15), none, (.op (.mov (.tmp 71)))⟩])
    (.seq (.region none [
      ⟨(some 73), none, (.op (.load 2 true (.tmp 12)))⟩,
      ⟨(some 74), none, (.op (.build [.lit (.int .i64 0)] [(0, 1, (.dat (.lit (.int .i64 500))))]))⟩,
      ⟨(some 75), none, (.call (.dat (.fn (.func 16) [] [])) [(.tmp 73), (.tmp 74), (.dat (.lit (.int .i64 2100))), (.dat (.lit (.int .i64 1000))), (.dat (.lit (.int .i64 1)))])⟩,
      ⟨(some 72), none, (.op (.mov (.tmp 75)))⟩,
      ⟨(some 76), none, (.op (.extract (.tmp 72) 0))⟩,
      ⟨(some 77), none, (.op (.extract (.tmp 72) 1))⟩,
      ⟨(some 78), none, (.op (.extract (.tmp 72) 2))⟩,
      ⟨(some 16), none, (.op (.mov (.tmp 76)))⟩,
      ⟨(some 17), none, (.op (.mov (.tmp 77)))⟩,
      ⟨(some 18), none, (.op (.mov (.tmp 78)))⟩])
    (.seq (.region none [
      ⟨(some 80), none, (.op (.load 2 true (.tmp 11)))⟩,
      ⟨(some 81), none, (.op (.load 2 true (.tmp 12)))⟩,
      ⟨(some 82), none, (.op (.mkslice 2 [(.tmp 80), (.tmp 81)]))⟩,
      ⟨(some 83), none, (.op (.mkslice 1 [(.dat (.lit (.bool true))), (.dat (.lit (.bool false)))]))⟩,
      ⟨(some 84), none, (.op (.build [.lit (.int .i64 0)] [(0, 1, (.dat (.lit (.int .i64 500))))]))⟩,
      ⟨(some 85), none, (.call (.dat (.fn (.func 20) [] [])) [(.tmp 82), (.tmp 83), (.tmp 84), (.dat (.lit (.int .i64 2100))), (.dat (.lit (.int .i64 1000))), (.dat (.lit (.int .i64 1))), (.dat (.lit (.int .i64 5000)))])⟩,
      ⟨(some 79), none, (.op (.mov (.tmp 85)))⟩,
      ⟨(some 86), none, (.op (.extract (.tmp 79) 0))⟩,
      ⟨(some 87), none, (.op (.extract (.tmp 79) 1))⟩,
      ⟨(some 88), none, (.op (.extract (.tmp 79) 2))⟩,
      ⟨(some 19), none, (.op (.mov (.tmp 86)))⟩,
      ⟨(some 20), none, (.op (.mov (.tmp 87)))⟩,
      ⟨(some 21), none, (.op (.mov (.tmp 88)))⟩])
    (.seq (.region none [
      ⟨(some 90), none, (.op (.load 2 true (.tmp 11)))⟩,
      ⟨(some 91), none, (.op (.load 2 true (.tmp 12)))⟩,
      ⟨(some 92), none, (.op (.mkslice 2 [(.tmp 90), (.tmp 91)]))⟩,
      ⟨(some 93), none, (.op (.mkslice 1 [(.dat (.lit (.bool true))), (.dat (.lit (.bool true)))]))⟩,
      ⟨(some 94), none, (.op (.build [.lit (.int .i64 0)] [(0, 1, (.dat (.lit (.int .i64 500))))]))⟩,
      ⟨(some 95), none, (.call (.dat (.fn (.func 20) [] [])) [(.tmp 92), (.tmp 93), (.tmp 94), (.dat (.lit (.int .i64 2100))), (.dat (.lit (.int .i64 1000))), (.dat (.lit (.int .i64 1))), (.dat (.lit (.int .i64 5000)))])⟩,
      ⟨(some 89), none, (.op (.mov (.tmp 95)))⟩,
      ⟨(some 96), none, (.op (.extract (.tmp 89) 0))⟩,
      ⟨(some 97), none, (.op (.extract (.tmp 89) 1))⟩,
      ⟨(some 98), none, (.op (.extract (.tmp 89) 2))⟩,
      ⟨(some 22), none, (.op (.mov (.tmp 96)))⟩,
      ⟨(some 23), none, (.op (.mov (.tmp 97)))⟩,
      ⟨(some 24), none, (.op (.mov (.tmp 98)))⟩])
    (.seq (.region none [
      ⟨(some 100), none, (.op (.load 2 true (.tmp 11)))⟩,
      ⟨(some 101), none, (.op (.load 2 true (.tmp 12)))⟩,
      ⟨(some 102), none, (.op (.mkslice 2 [(.tmp 100), (.tmp 101)]))⟩,
      ⟨(some 103), none, (.op (.mkslice 1 [(.dat (.lit (.bool true))), (.dat (.lit (.bool true)))]))⟩,
      ⟨(some 104), none, (.op (.build [.lit (.int .i64 0)] [(0, 1, (.dat (.lit (.int .i64 500))))]))⟩,
      ⟨(some 105), none, (.call (.dat (.fn (.func 20) [] [])) [(.tmp 102), (.tmp 103), (.tmp 104), (.dat (.lit (.int .i64 2100))), (.dat (.lit (.int .i64 1000))), (.dat (.lit (.int .i64 1))), (.dat (.lit (.int .i64 2100)))])⟩,
      ⟨(some 99), none, (.op (.mov (.tmp 105)))⟩,
      ⟨(some 106), none, (.op (.extract (.tmp 99) 0))⟩,
      ⟨(some 107), none, (.op (.extract (.tmp 99) 1))⟩,
      ⟨(some 108), none, (.op (.extract (.tmp 99) 2))⟩,
      ⟨(some 25), none, (.op (.mov (.tmp 106)))⟩,
      ⟨(some 26), none, (.op (.mov (.tmp 107)))⟩,
      ⟨(some 27), none, (.op (.mov (.tmp 108)))⟩])
    (.seq (.region none [
      ⟨(some 110), none, (.op (.build [.lit (.int .i64 0)] []))⟩,
      ⟨(some 111), none, (.call (.dat (.fn (.func 20) [] [])) [(.dat (.nil 0)), (.dat (.nil 0)), (.tmp 110), (.dat (.lit (.int .i64 5))), (.dat (.lit (.int .i64 1000))), (.dat (.lit (.int .i64 0))), (.dat (.lit (.int .i64 9)))])⟩,
      ⟨(some 109), none, (.op (.mov (.tmp 111)))⟩,
      ⟨(some 112), none, (.op (.extract (.tmp 109) 0))⟩,
      ⟨(some 113), none, (.op (.extract (.tmp 109) 1))⟩,
      ⟨(some 114), none, (.op (.extract (.tmp 109) 2))⟩,
      ⟨(some 28), none, (.op (.mov (.tmp 112)))⟩,
      ⟨(some 29), none, (.op (.mov (.tmp 113)))⟩,
      ⟨(some 30), none, (.op (.mov (.tmp 114)))⟩])
    (.seq (.region none [
      ⟨(some 116), none, (.op (.build [.lit (.int .i64 0)] []))⟩,
      ⟨(some 117), none, (.call (.dat (.fn (.func 20) [] [])) [(.dat (.nil 0)), (.dat (.nil 0)), (.tmp 116), (.dat (.lit (.int .i64 9))), (.dat (.lit (.int .i64 1000))), (.dat (.lit (.int .i64 0))), (.dat (.lit (.int .i64 9)))])⟩,
      ⟨(some 115), none, (.op (.mov (.tmp 117)))⟩,
      ⟨(some 118), none, (.op (.extract (.tmp 115) 0))⟩,
      ⟨(some 119), none, (.op (.extract (.tmp 115) 1))⟩,
      ⟨(some 120), none, (.op (.extract (.tmp 115) 2))⟩,
      ⟨(some 31), none, (.op (.mov (.tmp 118)))⟩,
      ⟨(some 32), none, (.op (.mov (.tmp 119)))⟩,
      ⟨(some 33), none, (.op (.mov (.tmp 120)))⟩])
    (.seq (.region none [
      ⟨(some 122), none, (.op (.mkslice 1 [(.dat (.lit (.bool true)))]))⟩,
      ⟨(some 123), none, (.op (.build [.lit (.int .i64 0)] []))⟩,
      ⟨(some 124), none, (.call (.dat (.fn (.func 20) [] [])) [(.dat (.nil 0)), (.tmp 122), (.tmp 123), (.dat (.lit (.int .i64 9))), (.dat (.lit (.int .i64 1000))), (.dat (.lit (.int .i64 0))), (.dat (.lit (.int .i64 9)))])⟩,
      ⟨(some 121), none, (.op (.mov (.tmp 124)))⟩,
      ⟨(some 125), none, (.op (.extract (.tmp 121) 0))⟩,
      ⟨(some 126), none, (.op (.extract (.tmp 121) 1))⟩,
      ⟨(some 127), none, (.op (.extract (.tmp 121) 2))⟩,
      ⟨(some 34), none, (.op (.mov (.tmp 125)))⟩,
      ⟨(some 35), none, (.op (.mov (.tmp 126)))⟩,
      ⟨(some 36), none, (.op (.mov (.tmp 127)))⟩])
    (.seq (.region none [
      ⟨(some 129), none, (.op (.build [.lit (.int .i64 0)] []))⟩,
      ⟨(some 130), none, (.call (.dat (.fn (.func 20) [] [])) [(.dat (.nil 0)), (.dat (.nil 0)), (.tmp 129), (.dat (.lit (.int .i64 9))), (.dat (.lit (.int .i64 1000))), (.dat (.lit (.int .i64 0))), (.dat (.lit (.int .i64 (-1))))])⟩,
      ⟨(some 128), none, (.op (.mov (.tmp 130)))⟩,
      ⟨(some 131), none, (.op (.extract (.tmp 128) 0))⟩,
      ⟨(some 132), none, (.op (.extract (.tmp 128) 1))⟩,
      ⟨(some 133), none, (.op (.extract (.tmp 128) 2))⟩,
      ⟨(some 37), none, (.op (.mov (.tmp 131)))⟩,
      ⟨(some 38), none, (.op (.mov (.tmp 132)))⟩,
      ⟨(some 39), none, (.op (.mov (.tmp 133)))⟩])
    (.seq (.seq (.region none [
      ⟨(some 134), none, (.op (.mov (.tmp 4)))⟩,
      ⟨(some 135), none, (.op (.arith .neq (.tmp 134) (.dat (.lit (.int .i64 0)))))⟩,
      ⟨(some 136), none, (.op (.mov (.tmp 135)))⟩,
      ⟨(some 137), (some (136, false)), (.op (.mov (.tmp 7)))⟩,
      ⟨(some 138), (some (136, false)), (.op (.arith .neq (.tmp 137) (.dat (.lit (.int .i64 0)))))⟩,
      ⟨(some 139), none, (.op (.pick (.tmp 136) (.dat (.lit (.bool true))) (.tmp 138)))⟩,
      ⟨(some 140), none, (.op (.mov (.tmp 139)))⟩,
      ⟨(some 141), (some (140, false)), (.op (.mov (.tmp 10)))⟩,
      ⟨(some 142), (some (140, false)), (.op (.arith .neq (.tmp 141) (.dat (.lit (.int .i64 230)))))⟩,
      ⟨(some 143), none, (.op (.pick (.tmp 140) (.dat (.lit (.bool true))) (.tmp 142)))⟩,
      ⟨(some 144), none, (.op (.mov (.tmp 143)))⟩,
      ⟨(some 145), (some (144, false)), (.op (.mov (.tmp 15)))⟩,
      ⟨(some 146), (some (144, false)), (.op (.arith .neq (.tmp 145) (.dat (.lit (.int .i64 0)))))⟩,
      ⟨(some 147), none, (.op (.pick (.tmp 144) (.dat (.lit (.bool true))) (.tmp 146)))⟩,
      ⟨(some 148), none, (.op (.mov (.tmp 147)))⟩,
      ⟨(some 149), (some (148, false)), (.op (.mov (.tmp 18)))⟩,
      ⟨(some 150), (some (148, false)), (.op (.arith .neq (.tmp 149) (.dat (.lit (.int .i64 0)))))⟩,
      ⟨(some 151), none, (.op (.pick (.tmp 148) (.dat (.lit (.bool true))) (.tmp 150)))⟩,
      ⟨(some 152), none, (.op (.mov (.tmp 151)))⟩,
      ⟨(some 153), (some (152, false)), (.op (.mov (.tmp 21)))⟩,
      ⟨(some 154), (some (152, false)), (.op (.arith .neq (.tmp 153) (.dat (.lit (.int .i64 0)))))⟩,
      ⟨(some 155), none, (.op (.pick (.tmp 152) (.dat (.lit (.bool true))) (.tmp 154)))⟩,
      ⟨(some 156), none, (.op (.mov (.tmp 155)))⟩,
      ⟨(some 157), (some (156, false)), (.op (.mov (.tmp 24)))⟩,
      ⟨(some 158), (some (156, false)), (.op (.arith .neq (.tmp 157) (.dat (.lit (.int .i64 0)))))⟩,
      ⟨(some 159), none, (.op (.pick (.tmp 156) (.dat (.lit (.bool true))) (.tmp 158)))⟩,
      ⟨(some 160), none, (.op (.mov (.tmp 159)))⟩,
      ⟨(some 161), (some (160, false)), (.op (.mov (.tmp 27)))⟩,
      ⟨(some 162), (some (160, false)), (.op (.arith .neq (.tmp 161) (.dat (.lit (.int .i64 0)))))⟩,
      ⟨(some 163), none, (.op (.pick (.tmp 160) (.dat (.lit (.bool true))) (.tmp 162)))⟩,
      ⟨(some 164), none, (.op (.mov (.tmp 163)))⟩,
      ⟨(some 165), (some (164, false)), (.op (.mov (.tmp 30)))⟩,
      ⟨(some 166), (some (164, false)), (.op (.arith .neq (.tmp 165) (.dat (.lit (.int .i64 0)))))⟩,
      ⟨(some 167), none, (.op (.pick (.tmp 164) (.dat (.lit (.bool true))) (.tmp 166)))⟩,
      ⟨(some 168), none, (.op (.mov (.tmp 167)))⟩,
      ⟨(some 169), (some (168, false)), (.op (.mov (.tmp 33)))⟩,
      ⟨(some 170), (some (168, false)), (.op (.arith .neq (.tmp 169) (.dat (.lit (.int .i64 0)))))⟩,
      ⟨(some 171), none, (.op (.pick (.tmp 168) (.dat (.lit (.bool true))) (.tmp 170)))⟩,
      ⟨(some 172), none, (.op (.mov (.tmp 171)))⟩,
      ⟨(some 173), (some (172, false)), (.op (.mov (.tmp 36)))⟩,
      ⟨(some 174), (some (172, false)), (.op (.arith .neq (.tmp 173) (.dat (.lit (.int .i64 1)))))⟩,
      ⟨(some 175), none, (.op (.pick (.tmp 172) (.dat (.lit (.bool true))) (.tmp 174)))⟩,
      ⟨(some 176), none, (.op (.mov (.tmp 175)))⟩,
      ⟨(some 177), (some (176, false)), (.op (.mov (.tmp 39)))⟩,
      ⟨(some 178), (some (176, false)), (.op (.arith .neq (.tmp 177) (.dat (.lit (.int .i64 1)))))⟩,
      ⟨(some 179), none, (.op (.pick (.tmp 176) (.dat (.lit (.bool true))) (.tmp 178)))⟩])
    (.cond (.tmp 179)
      (.seq (.region none [
        ⟨(some 0), none, (.op (.mov (.dat (.lit (.bool false)))))⟩])
      .ret)
      .skip))
    (.seq (.seq (.region none [
      ⟨(some 180), none, (.op (.mov (.tmp 2)))⟩,
      ⟨(some 181), none, (.op (.mov (.tmp 1)))⟩,
      ⟨(some 182), none, (.op (.slice 5 (.tmp 181) (some (.dat (.lit (.int .i64 1)))) (some (.dat (.lit (.int .i64 3))))))⟩,
      ⟨(some 183), none, (.call (.dat (.fn (.func 18) [] [])) [(.tmp 180), (.tmp 182)])⟩,
      ⟨(some 184), none, (.op (.not (.tmp 183)))⟩,
      ⟨(some 185), none, (.op (.mov (.tmp 184)))⟩,
      ⟨(some 186), (some (185, false)), (.op (.mov (.tmp 3)))⟩,
      ⟨(some 187), (some (185, false)), (.op (.arith .neq (.tmp 186) (.dat (.lit (.int .i64 1)))))⟩,
      ⟨(some 188), none, (.op (.pick (.tmp 185) (.dat (.lit (.bool true))) (.tmp 187)))⟩,
      ⟨(some 189), none, (.op (.mov (.tmp 188)))⟩,
      ⟨(some 190), (some (189, false)), (.op (.mov (.tmp 5)))⟩,
      ⟨(some 191), (some (189, false)), (.op (.len (.tmp 190)))⟩,
      ⟨(some 192), (some (189, false)), (.op (.arith .neq (.tmp 191) (.dat (.lit (.int .i64 0)))))⟩,
      ⟨(some 193), none, (.op (.pick (.tmp 189) (.dat (.lit (.bool true))) (.tmp 192)))⟩,
      ⟨(some 194), none, (.op (.mov (.tmp 193)))⟩,
      ⟨(some 195), (some (194, false)), (.op (.mov (.tmp 6)))⟩,
      ⟨(some 196), (some (194, false)), (.op (.arith .neq (.tmp 195) (.dat (.lit (.int .i64 0)))))⟩,
      ⟨(some 197), none, (.op (.pick (.tmp 194) (.dat (.lit (.bool true))) (.tmp 196)))⟩,
      ⟨(some 198), none, (.op (.mov (.tmp 197)))⟩,
      ⟨(some 199), (some (198, false)), (.op (.mov (.tmp 13)))⟩,
      ⟨(some 200), (some (198, false)), (.op (.arith .neq (.tmp 199) (.dat (.lit (.int .i64 3)))))⟩,
      ⟨(some 201), none, (.op (.pick (.tmp 198) (.dat (.lit (.bool true))) (.tmp 200)))⟩,
      ⟨(some 202), none, (.op (.mov (.tmp 201)))⟩,
      ⟨(some 203), (some (202, false)), (.op (.mov (.tmp 14)))⟩,
      ⟨(some 204), (some (202, false)), (.op (.not (.tmp 203)))⟩,
      ⟨(some 205), none, (.op (.pick (.tmp 202) (.dat (.lit (.bool true))) (.tmp 204)))⟩,
      ⟨(some 206), none, (.op (.mov (.tmp 205)))⟩,
      ⟨(some 207), (some (206, false)), (.op (.mov (.tmp 17)))⟩,
      ⟨(some 208), none, (.op (.pick (.tmp 206) (.dat (.lit (.bool true))) (.tmp 207)))⟩,
      ⟨(some 209), none, (.op (.mov (.tmp 208)))⟩,
      ⟨(some 210), (some (209, false)), (.op (.mov (.tmp 20)))⟩,
      ⟨(some 211), (some (209, false)), (.op (.mkslice 1 [(.dat (.lit (.int .i64 3))), (.dat (.lit (.int .i64 (-1))))]))⟩,
      ⟨(some 212), (some (209, false)), (.call (.dat (.fn (.func 22) [] [])) [(.tmp 210), (.tmp 211)])⟩,
      ⟨(some 213), (some (209, false)), (.op (.not (.tmp 212)))⟩,
      ⟨(some 214), none, (.op (.pick (.tmp 209) (.dat (.lit (.bool true))) (.tmp 213)))⟩,
      ⟨(some 215), none, (.op (.mov (.tmp 214)))⟩,
      ⟨(some 216), (some (215, false)), (.op (.mov (.tmp 23)))⟩,
      ⟨(some 217), (some (215, false)), (.op (.mkslice 1 [(.dat (.lit (.int .i64 3))), (.dat (.lit (.int .i64 (-1))))]))⟩,
      ⟨(some 218), (some (215, false)), (.call (.dat (.fn (.func 22) [] [])) [(.tmp 216), (.tmp 217)])⟩,
      ⟨(some 219), (some (215, false)), (.op (.not (.tmp 218)))⟩,
      ⟨(some 220), none, (.op (.pick (.tmp 215) (.dat (.lit (.bool true))) (.tmp 219)))⟩])
    (.cond (.tmp 220)
      (.seq (.region none [
        ⟨(some 0), none, (.op (.mov (.dat (.lit (.bool false)))))⟩])
      .ret)
      .skip))
    (.seq (.region none [
      ⟨(some 221), none, (.op (.mov (.tmp 19)))⟩,
      ⟨(some 222), none, (.op (.arith .eql (.tmp 221) (.dat (.lit (.int .i64 2)))))⟩,
      ⟨(some 223), none, (.op (.mov (.tmp 222)))⟩,
      ⟨(some 224), (some (223, true)), (.op (.mov (.tmp 22)))⟩,
      ⟨(some 225), (some (223, true)), (.op (.arith .eql (.tmp 224) (.dat (.lit (.int .i64 0)))))⟩,
      ⟨(some 226), none, (.op (.pick (.tmp 223) (.tmp 225) (.dat (.lit (.bool false)))))⟩,
      ⟨(some 227), none, (.op (.mov (.tmp 226)))⟩,
      ⟨(some 228), (some (227, true)), (.op (.mov (.tmp 25)))⟩,
      ⟨(some 229), (some (227, true)), (.op (.arith .eql (.tmp 228) (.dat (.lit (.int .i64 1)))))⟩,
      ⟨(some 230), none, (.op (.pick (.tmp 227) (.tmp 229) (.dat (.lit (.bool false)))))⟩,
      ⟨(some 231), none, (.op (.mov (.tmp 230)))⟩,
      ⟨(some 232), (some (231, true)), (.op (.mov (.tmp 28)))⟩,
      ⟨(some 233), (some (231, true)), (.op (.arith .eql (.tmp 232) (.dat (.lit (.int .i64 0)))))⟩,
      ⟨(some 234), none, (.op (.pick (.tmp 231) (.tmp 233) (.dat (.lit (.bool false)))))⟩,
      ⟨(some 235), none, (.op (.mov (.tmp 234)))⟩,
      ⟨(some 236), (some (235, true)), (.op (.mov (.tmp 31)))⟩,
      ⟨(some 237), (some (235, true)), (.op (.arith .eql (.tmp 236) (.dat (.lit (.int .i64 1)))))⟩,
      ⟨(some 238), none, (.op (.pick (.tmp 235) (.tmp 237) (.dat (.lit (.bool false)))))⟩,
      ⟨(some 0), none, (.op (.mov (.tmp 238)))⟩])
    .ret))))))))))))))))))
  res := [.tmp 0]
theorem c13 : CmpF Tryd.prog 13 a13 := chkF_cmp (F := Tryd.f13) (by kernel_rfl) mixed (by kernel_rfl)
/-- hansard/settled.Chunk -/
def a14 : AF where
  nt := 34
  body := (.seq (.region none [
      ⟨(some 6), none, (.op (.mov (.dat (.nil 5))))⟩,
      ⟨(some 7), none, (.op (.mov (.dat (.lit (.int .i64 0)))))⟩,
      ⟨(some 8), none, (.op (.mov (.dat (.lit (.int .i64 0)))))⟩])
    (.seq (.seq (.region none [
      ⟨(some 9), none, (.op (.mov (.tmp 0)))⟩,
      ⟨(some 10), none, (.op (.build [.nil 5, .lit (.int .i64 0)] [(0, 1, (.tmp 9))]))⟩,
      ⟨(some 11), none, (.call (.dat (.fn (.func 23) [] [])) [(.tmp 10)])⟩,
      ⟨(some 8), none, (.op (.mov (.tmp 11)))⟩])
    (.seq (.region none [
      ⟨(some 12), none, (.op (.mov (.tmp 8)))⟩,
      ⟨(some 13), none, (.op (.arith .neq (.tmp 12) (.dat (.lit (.int .i64 0)))))⟩])
    (.cond (.tmp 13)
      (.seq (.region none [
        ⟨(some 14), none, (.op (.mov (.tmp 8)))⟩,
        ⟨(some 6), none, (.op (.mov (.dat (.nil 5))))⟩,
        ⟨(some 7), none, (.op (.mov (.dat (.lit (.int .i64 0)))))⟩,
        ⟨(some 8), none, (.op (.mov (.tmp 14)))⟩])
      .ret)
      .skip)))
    (.seq (.seq (.region none [
      ⟨(some 15), none, (.op (.mov (.tmp 1)))⟩,
      ⟨(some 16), none, (.op (.mov (.tmp 2)))⟩,
      ⟨(some 17), none, (.call (.dat (.fn (.func 43) [] [])) [(.tmp 15), (.tmp 16)])⟩,
      ⟨(some 18), none, (.op (.not (.tmp 17)))⟩])
    (.cond (.tmp 18)
      (.seq (.region none [
        ⟨(some 6), none, (.op (.mov (.dat (.nil 5))))⟩,
        ⟨(some 7), none, (.op (.mov (.dat (.lit (.int .i64 0)))))⟩,
        ⟨(some 8), none, (.op (.mov (.dat (.lit (.int .i64 230)))))⟩])
      .ret)
      .skip))
    (.seq (.region none [
      ⟨(some 19), none, (.op (.mov (.tmp 0)))⟩,
      ⟨(some 20), none, (.op (.mov (.tmp 2)))⟩,
      ⟨(some 21), none, (.op (.mov (.tmp 1)))⟩,
      ⟨(some 22), none, (.op (.arith .mul (.tmp 20) (.tmp 21)))⟩,
      ⟨(some 23), none, (.call (.dat (.fn (.func 44) [] [])) [(.tmp 19), (.tmp 22)])⟩,
      ⟨(some 7), none, (.op (.mov (.tmp 23)))⟩])
    (.seq (.region none [
      ⟨(some 24), none, (.op (.mov (.tmp 0)))⟩,
      ⟨(some 25), none, (.op (.mov (.tmp 7)))⟩,
      ⟨(some 26), none, (.op (.mov (.tmp 0)))⟩,
      ⟨(some 27), none, (.op (.mov (.tmp 2)))⟩,
      ⟨(some 28), none, (.op (.arith .add (.tmp 27) (.dat (.lit (.int .i64 1)))))⟩,
      ⟨(some 29), none, (.op (.mov (.tmp 1)))⟩,
      ⟨(some 30), none, (.op (.arith .mul (.tmp 28) (.tmp 29)))⟩,
      ⟨(some 31), none, (.call (.dat (.fn (.func 44) [] [])) [(.tmp 26), (.tmp 30)])⟩,
      ⟨(some 32), none, (.op (.slice 5 (.tmp 24) (some (.tmp 25)) (some (.tmp 31))))⟩,
      ⟨(some 33), none, (.op (.mov (.tmp 7)))⟩,
      ⟨(some 6), none, (.op (.mov (.tmp 32)))⟩,
      ⟨(some 7), none, (.op (.mov (.tmp 33)))⟩,
      ⟨(some 8), none, (.op (.mov (.dat (.lit (.int .i64 0)))))⟩])
    .ret)))))
  res := [.tmp 6, .tmp 7, .tmp 8]
theorem c14 : CmpF Tryd.prog 14 a14 := chkF_cmp (F := Tryd.f14) (by kernel_rfl) mixed (by kernel_rfl)
/-- hansard/hansardref23.Chunk -/
def a15 : AF where
  nt := 59
  body := (.seq (.region none [
      ⟨(some 6), none, (.op (.mov (.dat (.nil 5))))⟩,
      ⟨(some 7), none, (.op (.mov (.dat (.lit (.int .i64 0)))))⟩,
      ⟨(some 8), none, (.op (.mov (.dat (.lit (.int .i64 0)))))⟩])
    (.seq (.region none [
      ⟨(some 13), none, (.op (.mov (.tmp 0)))⟩,
      ⟨(some 14), none, (.op (.build [.nil 5, .lit (.int .i64 0)] [(0, 1, (.tmp 13))]))⟩,
      ⟨(some 15), none, (.call (.dat (.fn (.func 45) [] [])) [(.tmp 14)])⟩,
      ⟨(some 9), none, (.op (.mov (.tmp 15)))⟩])
    (.seq (.seq (.region none [
      ⟨(some 16), none, (.op (.mov (.tmp 9)))⟩,
      ⟨(some 17), none, (.op (.arith .neq (.tmp 16) (.dat (.lit (.int .i64 0)))))⟩])
    (.cond (.tmp 17)
      (.seq (.region none [
        ⟨(some 18), none, (.op (.mov (.tmp 9)))⟩,
        ⟨(some 6), none, (.op (.mov (.dat (.nil 5))))⟩,
        ⟨(some 7), none, (.op (.mov (.dat (.lit (.int .i64 0)))))⟩,
        ⟨(some 8), none, (.op (.mov (.tmp 18)))⟩])
      .ret)
      .skip))
    (.seq (.seq (.region none [
      ⟨(some 19), none, (.op (.mov (.tmp 1)))⟩,
      ⟨(some 20), none, (.op (.mov (.tmp 2)))⟩,
      ⟨(some 21), none, (.call (.dat (.fn (.func 46) [] [])) [(.tmp 19), (.tmp 20)])⟩,
      ⟨(some 22), none, (.op (.not (.tmp 21)))⟩])
    (.cond (.tmp 22)
      (.seq (.region none [
        ⟨(some 6), none, (.op (.mov (.dat (.nil 5))))⟩,
        ⟨(some 7), none, (.op (.mov (.dat (.lit (.int .i64 0)))))⟩,
        ⟨(some 8), none, (.op (.mov (.dat (.lit (.int .i64 230)))))⟩])
      .ret)
      .skip))
    (.seq (.region none [
      ⟨(some 10), none, (.op (.mov (.dat (.nil 5))))⟩])
    (.seq (.region none [
      ⟨(some 11), none, (.op (.mov (.dat (.lit (.int .i64 0)))))⟩])
    (.seq (.seq (.region none [
      ⟨(some 12), none, (.op (.mov (.dat (.lit (.int .i64 0)))))⟩])
    (.block 0
      (.loop
        (.seq (.seq (.region none [
          ⟨(some 23), none, (.op (.mov (.tmp 12)))⟩,
          ⟨(some 24), none, (.op (.mov (.tmp 0)))⟩,
          ⟨(some 25), none, (.op (.len (.tmp 24)))⟩,
          ⟨(some 26), none, (.op (.arith .lss (.tmp 23) (.tmp 25)))⟩])
        (.cond (.tmp 26)
          .skip
          (.exit 0)))
        (.seq (.block 1
          (.seq (.region none [
            ⟨(some 29), none, (.op (.mov (.tmp 0)))⟩,
            ⟨(some 30), none, (.op (.mov (.tmp 12)))⟩,
            ⟨(some 31), none, (.op (.index 5 (.tmp 29) (.tmp 30)))⟩,
            ⟨(some 32), none, (.op (.field 1 1 false (.tmp 31)))⟩,
            ⟨(some 33), none, (.op (.load 1 false (.tmp 32)))⟩,
            ⟨(some 34), none, (.op (.mov (.tmp 2)))⟩,
            ⟨(some 35), none, (.op (.mov (.tmp 1)))⟩,
            ⟨(some 36), none, (.op (.arith .mul (.tmp 34) (.tmp 35)))⟩,
            ⟨(some 37), none, (.op (.arith .lss (.tmp 33) (.tmp 36)))⟩])
          (.cond (.tmp 37)
            (.region none [
              ⟨(some 38), none, (.op (.mov (.tmp 11)))⟩,
              ⟨(some 39), none, (.op (.arith .add (.tmp 38) (.dat (.lit (.int .i64 1)))))⟩,
              ⟨(some 11), none, (.op (.mov (.tmp 39)))⟩])
            (.seq (.region none [
              ⟨(some 40), none, (.op (.mov (.tmp 0)))⟩,
              ⟨(some 41), none, (.op (.mov (.tmp 12)))⟩,
              ⟨(some 42), none, (.op (.index 5 (.tmp 40) (.tmp 41)))⟩,
              ⟨(some 43), none, (.op (.field 1 1 false (.tmp 42)))⟩,
              ⟨(some 44), none, (.op (.load 1 false (.tmp 43)))⟩,
              ⟨(some 45), none, (.op (.mov (.tmp 2)))⟩,
              ⟨(some 46), none, (.op (.arith .add (.tmp 45) (.dat (.lit (.int .i64 1)))))⟩,
              ⟨(some 47), none, (.op (.mov (.tmp 1)))⟩,
              ⟨(some 48), none, (.op (.arith .mul (.tmp 46) (.tmp 47)))⟩,
              ⟨(some 49), none, (.op (.arith .lss (.tmp 44) (.tmp 48)))⟩])
            (.cond (.tmp 49)
              (.region none [
                ⟨(some 50), none, (.op (.mov (.tmp 10)))⟩,
                ⟨(some 51), none, (.op (.mov (.tmp 0)))⟩,
                ⟨(some 52), none, (.op (.mov (.tmp 12)))⟩,
                ⟨(some 53), none, (.op (.index 5 (.tmp 51) (.tmp 52)))⟩,
                ⟨(some 54), none, (.op (.load 5 true (.tmp 53)))⟩,
                ⟨(some 55), none, (.op (.mkslice 5 [(.tmp 54)]))⟩,
                ⟨(some 56), none, (.op (.append 5 64 (.tmp 50) (.tmp 55)))⟩,
                ⟨(some 10), none, (.op (.mov (.tmp 56)))⟩])
              .skip)))))
        (.region none [
          ⟨(some 27), none, (.op (.mov (.tmp 12)))⟩,
          ⟨(some 28), none, (.op (.arith .add (.tmp 27) (.dat (.lit (.int .i64 1)))))⟩,
          ⟨(some 12), none, (.op (.mov (.tmp 28)))⟩]))))))
    (.seq (.region none [
      ⟨(some 57), none, (.op (.mov (.tmp 10)))⟩,
      ⟨(some 58), none, (.op (.mov (.tmp 11)))⟩,
      ⟨(some 6), none, (.op (.mov (.tmp 57)))⟩,
      ⟨(some 7), none, (.op (.mov (.tmp 58)))⟩,
      ⟨(some 8), none, (.op (.mov (.dat (.lit (.int .i64 0)))))⟩])
    .ret))))))))
  res := [.tmp 6, .tmp 7, .tmp 8]
theorem c15 : CmpF Tryd.prog 15 a15 := chkF_cmp (F := Tryd.f15) (by kernel_rfl) mixed (by kernel_rfl)
/-- hansard/settled.Past -/
def a16 : AF where
  nt := 39
  body := (.seq (.region none [
      ⟨(some 5), none, (.op (.box true (.tmp 0)))⟩,
      ⟨(some 6), none, (.op (.box true (.tmp 1)))⟩,
      ⟨(some 10), none, (.op (.mov (.dat (.lit (.int .i64 0)))))⟩,
      ⟨(some 11), none, (.op (.mov (.dat (.lit (.bool false)))))⟩,
      ⟨(some 12), none, (.op (.mov (.dat (.lit (.int .i64 0)))))⟩])
    (.seq (.region none [
      ⟨(some 15), none, (.op (.load 2 true (.tmp 5)))⟩,
      ⟨(some 16), none, (.op (.load 1 true (.tmp 6)))⟩,
      ⟨(some 17), none, (.op (.mov (.tmp 2)))⟩,
      ⟨(some 18), none, (.call (.dat (.fn (.func 47) [] [])) [(.tmp 15), (.tmp 16), (.tmp 17)])⟩,
      ⟨(some 14), none, (.op (.mov (.tmp 18)))⟩,
      ⟨(some 19), none, (.op (.extract (.tmp 14) 0))⟩,
      ⟨(some 20), none, (.op (.extract (.tmp 14) 1))⟩,
      ⟨(some 13), none, (.op (.mov (.tmp 19)))⟩,
      ⟨(some 12), none, (.op (.mov (.tmp 20)))⟩])
    (.seq (.seq (.region none [
      ⟨(some 21), none, (.op (.mov (.tmp 12)))⟩,
      ⟨(some 22), none, (.op (.arith .neq (.tmp 21) (.dat (.lit (.int .i64 0)))))⟩])
    (.cond (.tmp 22)
      (.seq (.region none [
        ⟨(some 23), none, (.op (.mov (.tmp 12)))⟩,
        ⟨(some 10), none, (.op (.mov (.dat (.lit (.int .i64 0)))))⟩,
        ⟨(some 11), none, (.op (.mov (.dat (.lit (.bool false)))))⟩,
        ⟨(some 12), none, (.op (.mov (.tmp 23)))⟩])
      .ret)
      .skip))
    (.seq (.seq (.region none [
      ⟨(some 24), none, (.op (.mov (.tmp 3)))⟩,
      ⟨(some 25), none, (.op (.mov (.tmp 4)))⟩,
      ⟨(some 26), none, (.call (.dat (.fn (.func 43) [] [])) [(.tmp 24), (.tmp 25)])⟩,
      ⟨(some 27), none, (.op (.not (.tmp 26)))⟩])
    (.cond (.tmp 27)
      (.seq (.region none [
        ⟨(some 10), none, (.op (.mov (.dat (.lit (.int .i64 0)))))⟩,
        ⟨(some 11), none, (.op (.mov (.dat (.lit (.bool false)))))⟩,
        ⟨(some 12), none, (.op (.mov (.dat (.lit (.int .i64 230)))))⟩])
      .ret)
      .skip))
    (.seq (.seq (.region none [
      ⟨(some 28), none, (.op (.field 0 1 false (.tmp 5)))⟩,
      ⟨(some 29), none, (.op (.load 1 false (.tmp 28)))⟩,
      ⟨(some 30), none, (.op (.mov (.tmp 4)))⟩,
      ⟨(some 31), none, (.op (.arith .add (.tmp 30) (.dat (.lit (.int .i64 1)))))⟩,
      ⟨(some 32), none, (.op (.mov (.tmp 3)))⟩,
      ⟨(some 33), none, (.op (.arith .mul (.tmp 31) (.tmp 32)))⟩,
      ⟨(some 34), none, (.call (.dat (.fn (.func 44) [] [])) [(.tmp 29), (.tmp 33)])⟩,
      ⟨(some 10), none, (.op (.mov (.tmp 34)))⟩])
    (.seq (.region none [
      ⟨(some 35), none, (.op (.mov (.tmp 10)))⟩,
      ⟨(some 36), none, (.op (.mov (.tmp 13)))⟩,
      ⟨(some 37), none, (.op (.arith .geq (.tmp 35) (.tmp 36)))⟩])
    (.cond (.tmp 37)
      (.seq (.region none [
        ⟨(some 10), none, (.op (.mov (.dat (.lit (.int .i64 0)))))⟩,
        ⟨(some 11), none, (.op (.mov (.dat (.lit (.bool false)))))⟩,
        ⟨(some 12), none, (.op (.mov (.dat (.lit (.int .i64 0)))))⟩])
      .ret)
      .skip)))
    (.seq (.region none [
      ⟨(some 38), none, (.op (.mov (.tmp 10)))⟩,
      ⟨(some 10), none, (.op (.mov (.tmp 38)))⟩,
      ⟨(some 11), none, (.op (.mov (.dat (.lit (.bool true)))))⟩,
      ⟨(some 12), none, (.op (.mov (.dat (.lit (.int .i64 0)))))⟩])
    .ret))))))
  res := [.tmp 10, .tmp 11, .tmp 12]
theorem c16 : CmpF Tryd.prog 16 a16 := chkF_cmp (F := Tryd.f16) (by kernel_rfl) mixed (by kernel_rfl)
/-- hansard/hansardref23.Past -/
def a17 : AF where
  nt := 47
  body := (.seq (.region none [
      ⟨(some 5), none, (.op (.box true (.tmp 0)))⟩,
      ⟨(some 6), none, (.op (.box true (.tmp 1)))⟩,
      ⟨(some 10), none, (.op (.mov (.dat (.lit (.int .i64 0)))))⟩,
      ⟨(some 11), none, (.op (.mov (.dat (.lit (.bool false)))))⟩,
      ⟨(some 12), none, (.op (.mov (.dat (.lit (.int .i64 0)))))⟩])
    (.seq (.region none [
      ⟨(some 17), none, (.op (.load 2 true (.tmp 5)))⟩,
      ⟨(some 18), none, (.op (.load 1 true (.tmp 6)))⟩,
      ⟨(some 19), none, (.op (.mov (.tmp 2)))⟩,
      ⟨(some 20), none, (.call (.dat (.fn (.func 48) [] [])) [(.tmp 17), (.tmp 18), (.tmp 19)])⟩,
      ⟨(some 16), none, (.op (.mov (.tmp 20)))⟩,
      ⟨(some 21), none, (.op (.extract (.tmp 16) 0))⟩,
      ⟨(some 22), none, (.op (.extract (.tmp 16) 1))⟩,
      ⟨(some 13), none, (.op (.mov (.tmp 21)))⟩,
      ⟨(some 14), none, (.op (.mov (.tmp 22)))⟩])
    (.seq (.seq (.region none [
      ⟨(some 23), none, (.op (.mov (.tmp 14)))⟩,
      ⟨(some 24), none, (.op (.arith .neq (.tmp 23) (.dat (.lit (.int .i64 0)))))⟩])
    (.cond (.tmp 24)
      (.seq (.region none [
        ⟨(some 25), none, (.op (.mov (.tmp 14)))⟩,
        ⟨(some 10), none, (.op (.mov (.dat (.lit (.int .i64 0)))))⟩,
        ⟨(some 11), none, (.op (.mov (.dat (.lit (.bool false)))))⟩,
        ⟨(some 12), none, (.op (.mov (.tmp 25)))⟩])
      .ret)
      .skip))
    (.seq (.seq (.region none [
      ⟨(some 26), none, (.op (.mov (.tmp 3)))⟩,
      ⟨(some 27), none, (.op (.mov (.tmp 4)))⟩,
      ⟨(some 28), none, (.call (.dat (.fn (.func 46) [] [])) [(.tmp 26), (.tmp 27)])⟩,
      ⟨(some 29), none, (.op (.not (.tmp 28)))⟩])
    (.cond (.tmp 29)
      (.seq (.region none [
        ⟨(some 10), none, (.op (.mov (.dat (.lit (.int .i64 0)))))⟩,
        ⟨(some 11), none, (.op (.mov (.dat (.lit (.bool false)))))⟩,
        ⟨(some 12), none, (.op (.mov (.dat (.lit (.int .i64 230)))))⟩])
      .ret)
      .skip))
    (.seq (.seq (.region none [
      ⟨(some 15), none, (.op (.mov (.dat (.lit (.int .i64 0)))))⟩])
    (.block 0
      (.loop
        (.seq (.seq (.region none [
          ⟨(some 30), none, (.op (.mov (.tmp 15)))⟩,
          ⟨(some 31), none, (.op (.mov (.tmp 13)))⟩,
          ⟨(some 32), none, (.op (.arith .lss (.tmp 30) (.tmp 31)))⟩])
        (.cond (.tmp 32)
          .skip
          (.exit 0)))
        (.seq (.block 1
          (.seq (.region none [
            ⟨(some 35), none, (.op (.field 0 1 false (.tmp 5)))⟩,
            ⟨(some 36), none, (.op (.load 1 false (.tmp 35)))⟩,
            ⟨(some 37), none, (.op (.mov (.tmp 15)))⟩,
            ⟨(some 38), none, (.op (.index 5 (.tmp 36) (.tmp 37)))⟩,
            ⟨(some 39), none, (.op (.field 1 1 false (.tmp 38)))⟩,
            ⟨(some 40), none, (.op (.load 1 false (.tmp 39)))⟩,
            ⟨(some 41), none, (.op (.mov (.tmp 4)))⟩,
            ⟨(some 42), none, (.op (.arith .add (.tmp 41) (.dat (.lit (.int .i64 1)))))⟩,
            ⟨(some 43), none, (.op (.mov (.tmp 3)))⟩,
            ⟨(some 44), none, (.op (.arith .mul (.tmp 42) (.tmp 43)))⟩,
            ⟨(some 45), none, (.op (.arith .geq (.tmp 40) (.tmp 44)))⟩])
          (.cond (.tmp 45)
            (.seq (.region none [
              ⟨(some 46), none, (.op (.mov (.tmp 15)))⟩,
              ⟨(some 10), none, (.op (.mov (.tmp 46)))⟩,
              ⟨(some 11), none, (.op (.mov (.dat (.lit (.bool true)))))⟩,
              ⟨(some 12), none, (.op (.mov (.dat (.lit (.int .i64 0)))))⟩])
            .ret)
            .skip)))
        (.region none [
          ⟨(some 33), none, (.op (.mov (.tmp 15)))⟩,
          ⟨(some 34), none, (.op (.arith .add (.tmp 33) (.dat (.lit (.int .i64 1)))))⟩,
          ⟨(some 15), none, (.op (.mov (.tmp 34)))⟩]))))))
    (.seq (.region none [
      ⟨(some 10), none, (.op (.mov (.dat (.lit (.int .i64 0)))))⟩,
      ⟨(some 11), none, (.op (.mov (.dat (.lit (.bool false)))))⟩,
      ⟨(some 12), none, (.op (.mov (.dat (.lit (.int .i64 0)))))⟩])
    .ret))))))
  res := [.tmp 10, .tmp 11, .tmp 12]
theorem c17 : CmpF Tryd.prog 17 a17 := chkF_cmp (F := Tryd.f17) (by kernel_rfl) mixed (by kernel_rfl)
/-- hansard/hansardref19.SameWords -/
def a18 : AF where
  nt := 81
  body := (.seq (.region none [
      ⟨(some 4), none, (.op (.mov (.dat (.lit (.bool false)))))⟩])
    (.seq (.seq (.region none [
      ⟨(some 6), none, (.op (.mov (.tmp 0)))⟩,
      ⟨(some 7), none, (.op (.len (.tmp 6)))⟩,
      ⟨(some 8), none, (.op (.mov (.tmp 1)))⟩,
      ⟨(some 9), none, (.op (.len (.tmp 8)))⟩,
      ⟨(some 10), none, (.op (.arith .neq (.tmp 7) (.tmp 9)))⟩])
    (.cond (.tmp 10)
      (.seq (.region none [
        ⟨(some 4), none, (.op (.mov (.dat (.lit (.bool false)))))⟩])
      .ret)
      .skip))
    (.seq (.seq (.region none [
      ⟨(some 5), none, (.op (.mov (.dat (.lit (.int .i64 0)))))⟩])
    (.block 0
      (.loop
        (.seq (.seq (.region none [
          ⟨(some 11), none, (.op (.mov (.tmp 5)))⟩,
          ⟨(some 12), none, (.op (.mov (.tmp 0)))⟩,
          ⟨(some 13), none, (.op (.len (.tmp 12)))⟩,
          ⟨(some 14), none, (.op (.arith .lss (.tmp 11) (.tmp 13)))⟩])
        (.cond (.tmp 14)
          .skip
          (.exit 0)))
        (.seq (.block 1
          (.seq (.region (some [[], [], [0, 1], [0, 1, 2], [0, 1, 2, 3], [], [], [5, 6], [5, 6, 7], [5, 6, 7, 8], [0, 1, 2, 3, 4, 5, 6, 7, 8, 9], [0, 1, 2, 3, 4, 5, 6, 7, 8, 9, 10], [0, 1, 2, 3, 4, 5, 6, 7, 8, 9, 10, 11], [0, 1, 2, 3, 4, 5, 6, 7, 8, 9, 10, 11], [0, 1, 2, 3, 4, 5, 6, 7, 8, 9, 10, 11, 12, 13], [0, 1, 2, 3, 4, 5, 6, 7, 8, 9, 10, 11, 12, 13, 14], [0, 1, 2, 3, 4, 5, 6, 7, 8, 9, 10, 11, 12, 13, 14, 15], [0, 1, 2, 3, 4, 5, 6, 7, 8, 9, 10, 11], [0, 1, 2, 3, 4, 5, 6, 7, 8, 9, 10, 11], [0, 1, 2, 3, 4, 5, 6, 7, 8, 9, 10, 11, 17, 18], [0, 1, 2, 3, 4, 5, 6, 7, 8, 9, 10, 11, 17, 18, 19], [0, 1, 2, 3, 4, 5, 6, 7, 8, 9, 10, 11, 17, 18, 19, 20], [0, 1, 2, 3, 4, 5, 6, 7, 8, 9, 10, 11, 12, 13, 14, 15, 16, 17, 18, 19, 20, 21], [0, 1, 2, 3, 4, 5, 6, 7, 8, 9, 10, 11, 12, 13, 14, 15, 16, 17, 18, 19, 20, 21, 22], [0, 1, 2, 3, 4, 5, 6, 7, 8, 9, 10, 11, 12, 13, 14, 15, 16, 17, 18, 19, 20, 21, 22, 23], [0, 1, 2, 3, 4, 5, 6, 7, 8, 9, 10, 11, 12, 13, 14, 15, 16, 17, 18, 19, 20, 21, 22, 23, 24], [0, 1, 2, 3, 4, 5, 6, 7, 8, 9, 10, 11, 12, 13, 14, 15, 16, 17, 18, 19, 20, 21, 22, 23, 24], [0, 1, 2, 3, 4, 5, 6, 7, 8, 9, 10, 11, 12, 13, 14, 15, 16, 17, 18, 19, 20, 21, 22, 23, 24, 25, 26], [0, 1, 2, 3, 4, 5, 6, 7, 8, 9, 10, 11, 12, 13, 14, 15, 16, 17, 18, 19, 20, 21, 22, 23, 24, 25, 26, 27], [0, 1, 2, 3, 4, 5, 6, 7, 8, 9, 10, 11, 12, 13, 14, 15, 16, 17, 18, 19, 20, 21, 22, 23, 24, 25, 26, 27, 28], [0, 1, 2, 3, 4, 5, 6, 7, 8, 9, 10, 11, 12, 13, 14, 15, 16, 17, 18, 19, 20, 21, 22, 23, 24], [0, 1, 2, 3, 4, 5, 6, 7, 8, 9, 10, 11, 12, 13, 14, 15, 16, 17, 18, 19, 20, 21, 22, 23, 24], [0, 1, 2, 3, 4, 5, 6, 7, 8, 9, 10, 11, 12, 13, 14, 15, 16, 17, 18, 19, 20, 21, 22, 23, 24, 30, 31], [0, 1, 2, 3, 4, 5, 6, 7, 8, 9, 10, 11, 12, 13, 14, 15, 16, 17, 18, 19, 20, 21, 22, 23, 24, 30, 31, 32], [0, 1, 2, 3, 4, 5, 6, 7, 8, 9, 10, 11, 12, 13, 14, 15, 16, 17, 18, 19, 20, 21, 22, 23, 24, 30, 31, 32, 33], [0, 1, 2, 3, 4, 5, 6, 7, 8, 9, 10, 11, 12, 13, 14, 15, 16, 17, 18, 19, 20, 21, 22, 23, 24, 25, 26, 27, 28, 29, 30, 31, 32, 33, 34], [0, 1, 2, 3, 4, 5, 6, 7, 8, 9, 10, 11, 12, 13, 14, 15, 16, 17, 18, 19, 20, 21, 22, 23, 24, 25, 26, 27, 28, 29, 30, 31, 32, 33, 34, 35], [0, 1, 2, 3, 4, 5, 6, 7, 8, 9, 10, 11, 12, 13, 14, 15, 16, 17, 18, 19, 20, 21, 22, 23, 24, 25, 26, 27, 28, 29, 30, 31, 32, 33, 34, 35, 36], [0, 1, 2, 3, 4, 5, 6, 7, 8, 9, 10, 11, 12, 13, 14, 15, 16, 17, 18, 19, 20, 21, 22, 23, 24, 25, 26, 27, 28, 29, 30, 31, 32, 33, 34, 35, 36, 37], [0, 1, 2, 3, 4, 5, 6, 7, 8, 9, 10, 11, 12, 13, 14, 15, 16, 17, 18, 19, 20, 21, 22, 23, 24, 25, 26, 27, 28, 29, 30, 31, 32, 33, 34, 35, 36, 37], [0, 1, 2, 3, 4, 5, 6, 7, 8, 9, 10, 11, 12, 13, 14, 15, 16, 17, 18, 19, 20, 21, 22, 23, 24, 25, 26, 27, 28, 29, 30, 31, 32, 33, 34, 35, 36, 37, 38, 39], [0, 1, 2, 3, 4, 5, 6, 7, 8, 9, 10, 11, 12, 13, 14, 15, 16, 17, 18, 19, 20, 21, 22, 23, 24, 25, 26, 27, 28, 29, 30, 31, 32, 33, 34, 35, 36, 37, 38, 39, 40], [0, 1, 2, 3, 4, 5, 6, 7, 8, 9, 10, 11, 12, 13, 14, 15, 16, 17, 18, 19, 20, 21, 22, 23, 24, 25, 26, 27, 28, 29, 30, 31, 32, 33, 34, 35, 36, 37, 38, 39, 40, 41], [0, 1, 2, 3, 4, 5, 6, 7, 8, 9, 10, 11, 12, 13, 14, 15, 16, 17, 18, 19, 20, 21, 22, 23, 24, 25, 26, 27, 28, 29, 30, 31, 32, 33, 34, 35, 36, 37], [0, 1, 2, 3, 4, 5, 6, 7, 8, 9, 10, 11, 12, 13, 14, 15, 16, 17, 18, 19, 20, 21, 22, 23, 24, 25, 26, 27, 28, 29, 30, 31, 32, 33, 34, 35, 36, 37], [0, 1, 2, 3, 4, 5, 6, 7, 8, 9, 10, 11, 12, 13, 14, 15, 16, 17, 18, 19, 20, 21, 22, 23, 24, 25, 26, 27, 28, 29, 30, 31, 32, 33, 34, 35, 36, 37, 43, 44], [0, 1, 2, 3, 4, 5, 6, 7, 8, 9, 10, 11, 12, 13, 14, 15, 16, 17, 18, 19, 20, 21, 22, 23, 24, 25, 26, 27, 28, 29, 30, 31, 32, 33, 34, 35, 36, 37, 43, 44, 45], [0, 1, 2, 3, 4, 5, 6, 7, 8, 9, 10, 11, 12, 13, 14, 15, 16, 17, 18, 19, 20, 21, 22, 23, 24, 25, 26, 27, 28, 29, 30, 31, 32, 33, 34, 35, 36, 37, 43, 44, 45, 46], [0, 1, 2, 3, 4, 5, 6, 7, 8, 9, 10, 11, 12, 13, 14, 15, 16, 17, 18, 19, 20, 21, 22, 23, 24, 25, 26, 27, 28, 29, 30, 31, 32, 33, 34, 35, 36, 37, 38, 39, 40, 41, 42, 43, 44, 45, 46, 47], [0, 1, 2, 3, 4, 5, 6, 7, 8, 9, 10, 11, 12, 13, 14, 15, 16, 17, 18, 19, 20, 21, 22, 23, 24, 25, 26, 27, 28, 29, 30, 31, 32, 33, 34, 35, 36, 37, 38, 39, 40, 41, 42, 43, 44, 45, 46, 47, 48], [0, 1, 2, 3, 4, 5, 6, 7, 8, 9, 10, 11, 12, 13, 14, 15, 16, 17, 18, 19, 20, 21, 22, 23, 24, 25, 26, 27, 28, 29, 30, 31, 32, 33, 34, 35, 36, 37, 38, 39, 40, 41, 42, 43, 44, 45, 46, 47, 48, 49], [0, 1, 2, 3, 4, 5, 6, 7, 8, 9, 10, 11, 12, 13, 14, 15, 16, 17, 18, 19, 20, 21, 22, 23, 24, 25, 26, 27, 28, 29, 30, 31, 32, 33, 34, 35, 36, 37, 38, 39, 40, 41, 42, 43, 44, 45, 46, 47, 48, 49, 50], [0, 1, 2, 3, 4, 5, 6, 7, 8, 9, 10, 11, 12, 13, 14, 15, 16, 17, 18, 19, 20, 21, 22, 23, 24, 25, 26, 27, 28, 29, 30, 31, 32, 33, 34, 35, 36, 37, 38, 39, 40, 41, 42, 43, 44, 45, 46, 47, 48, 49, 50], [0, 1, 2, 3, 4, 5, 6, 7, 8, 9, 10, 11, 12, 13, 14, 15, 16, 17, 18, 19, 20, 21, 22, 23, 24, 25, 26, 27, 28, 29, 30, 31, 32, 33, 34, 35, 36, 37, 38, 39, 40, 41, 42, 43, 44, 45, 46, 47, 48, 49, 50, 51, 52], [0, 1, 2, 3, 4, 5, 6, 7, 8, 9, 10, 11, 12, 13, 14, 15, 16, 17, 18, 19, 20, 21, 22, 23, 24, 25, 26, 27, 28, 29, 30, 31, 32, 33, 34, 35, 36, 37, 38, 39, 40, 41, 42, 43, 44, 45, 46, 47, 48, 49, 50, 51, 52, 53], [0, 1, 2, 3, 4, 5, 6, 7, 8, 9, 10, 11, 12, 13, 14, 15, 16, 17, 18, 19, 20, 21, 22, 23, 24, 25, 26, 27, 28, 29, 30, 31, 32, 33, 34, 35, 36, 37, 38, 39, 40, 41, 42, 43, 44, 45, 46, 47, 48, 49, 50, 51, 52, 53, 54], [0, 1, 2, 3, 4, 5, 6, 7, 8, 9, 10, 11, 12, 13, 14, 15, 16, 17, 18, 19, 20, 21, 22, 23, 24, 25, 26, 27, 28, 29, 30, 31, 32, 33, 34, 35, 36, 37, 38, 39, 40, 41, 42, 43, 44, 45, 46, 47, 48, 49, 50], [0, 1, 2, 3, 4, 5, 6, 7, 8, 9, 10, 11, 12, 13, 14, 15, 16, 17, 18, 19, 20, 21, 22, 23, 24, 25, 26, 27, 28, 29, 30, 31, 32, 33, 34, 35, 36, 37, 38, 39, 40, 41, 42, 43, 44, 45, 46, 47, 48, 49, 50], [0, 1, 2, 3, 4, 5, 6, 7, 8, 9, 10, 11, 12, 13, 14, 15, 16, 17, 18, 19, 20, 21, 22, 23, 24, 25, 26, 27, 28, 29, 30, 31, 32, 33, 34, 35, 36, 37, 38, 39, 40, 41, 42, 43, 44, 45, 46, 47, 48, 49, 50, 56, 57], [0, 1, 2, 3, 4, 5, 6, 7, 8, 9, 10, 11, 12, 13, 14, 15, 16, 17, 18, 19, 20, 21, 22, 23, 24, 25, 26, 27, 28, 29, 30, 31, 32, 33, 34, 35, 36, 37, 38, 39, 40, 41, 42, 43, 44, 45, 46, 47, 48, 49, 50, 56, 57, 58], [0, 1, 2, 3, 4, 5, 6, 7, 8, 9, 10, 11, 12, 13, 14, 15, 16, 17, 18, 19, 20, 21, 22, 23, 24, 25, 26, 27, 28, 29, 30, 31, 32, 33, 34, 35, 36, 37, 38, 39, 40, 41, 42, 43, 44, 45, 46, 47, 48, 49, 50, 56, 57, 58, 59], [0, 1, 2, 3, 4, 5, 6, 7, 8, 9, 10, 11, 12, 13, 14, 15, 16, 17, 18, 19, 20, 21, 22, 23, 24, 25, 26, 27, 28, 29, 30, 31, 32, 33, 34, 35, 36, 37, 38, 39, 40, 41, 42, 43, 44, 45, 46, 47, 48, 49, 50, 51, 52, 53, 54, 55, 56, 57, 58, 59, 60], [0, 1, 2, 3, 4, 5, 6, 7, 8, 9, 10, 11, 12, 13, 14, 15, 16, 17, 18, 19, 20, 21, 22, 23, 24, 25, 26, 27, 28, 29, 30, 31, 32, 33, 34, 35, 36, 37, 38, 39, 40, 41, 42, 43, 44, 45, 46, 47, 48, 49, 50, 51, 52, 53, 54, 55, 56, 57, 58, 59, 60, 61], [0, 1, 2, 3, 4, 5, 6, 7, 8, 9, 10, 11, 12, 13, 14, 15, 16, 17, 18, 19, 20, 21, 22, 23, 24, 25, 26, 27, 28, 29, 30, 31, 32, 33, 34, 35, 36, 37, 38, 39, 40, 41, 42, 43, 44, 45, 46, 47, 48, 49, 50, 51, 52, 53, 54, 55, 56, 57, 58, 59, 60, 61, 62]]) [
            ⟨(some 17), none, (.op (.mov (.tmp 0)))⟩,
            ⟨(some 18), none, (.op (.mov (.tmp 5)))⟩,
            ⟨(some 19), none, (.op (.index 5 (.tmp 17) (.tmp 18)))⟩,
            ⟨(some 20), none, (.op (.field 0 1 false (.tmp 19)))⟩,
            ⟨(some 21), none, (.op (.load 1 false (.tmp 20)))⟩,
            ⟨(some 22), none, (.op (.mov (.tmp 1)))⟩,
            ⟨(some 23), none, (.op (.mov (.tmp 5)))⟩,
            ⟨(some 24), none, (.op (.index 5 (.tmp 22) (.tmp 23)))⟩,
            ⟨(some 25), none, (.op (.field 0 1 false (.tmp 24)))⟩,
            ⟨(some 26), none, (.op (.load 1 false (.tmp 25)))⟩,
            ⟨(some 27), none, (.op (.arith .neq (.tmp 21) (.tmp 26)))⟩,
            ⟨(some 28), none, (.op (.mov (.tmp 27)))⟩,
            ⟨(some 29), (some (28, false)), (.op (.mov (.tmp 0)))⟩,
            ⟨(some 30), (some (28, false)), (.op (.mov (.tmp 5)))⟩,
            ⟨(some 31), (some (28, false)), (.op (.index 5 (.tmp 29) (.tmp 30)))⟩,
            ⟨(some 32), (some (28, false)), (.op (.field 1 1 false (.tmp 31)))⟩,
            ⟨(some 33), (some (28, false)), (.op (.load 1 false (.tmp 32)))⟩,
            ⟨(some 34), (some (28, false)), (.op (.mov (.tmp 1)))⟩,
            ⟨(some 35), (some (28, false)), (.op (.mov (.tmp 5)))⟩,
            ⟨(some 36), (some (28, false)), (.op (.index 5 (.tmp 34) (.tmp 35)))⟩,
            ⟨(some 37), (some (28, false)), (.op (.field 1 1 false (.tmp 36)))⟩,
            ⟨(some 38), (some (28, false)), (.op (.load 1 false (.tmp 37)))⟩,
            ⟨(some 39), (some (28, false)), (.op (.arith .neq (.tmp 33) (.tmp 38)))⟩,
            ⟨(some 40), none, (.op (.pick (.tmp 28) (.dat (.lit (.bool true))) (.tmp 39)))⟩,
            ⟨(some 41), none, (.op (.mov (.tmp 40)))⟩,
            ⟨(some 42), (some (41, false)), (.op (.mov (.tmp 0)))⟩,
            ⟨(some 43), (some (41, false)), (.op (.mov (.tmp 5)))⟩,
            ⟨(some 44), (some (41, false)), (.op (.index 5 (.tmp 42) (.tmp 43)))⟩,
            ⟨(some 45), (some (41, false)), (.op (.field 2 1 false (.tmp 44)))⟩,
            ⟨(some 46), (some (41, false)), (.op (.load 1 false (.tmp 45)))⟩,
            ⟨(some 47), (some (41, false)), (.op (.mov (.tmp 1)))⟩,
            ⟨(some 48), (some (41, false)), (.op (.mov (.tmp 5)))⟩,
            ⟨(some 49), (some (41, false)), (.op (.index 5 (.tmp 47) (.tmp 48)))⟩,
            ⟨(some 50), (some (41, false)), (.op (.field 2 1 false (.tmp 49)))⟩,
            ⟨(some 51), (some (41, false)), (.op (.load 1 false (.tmp 50)))⟩,
            ⟨(some 52), (some (41, false)), (.op (.arith .neq (.tmp 46) (.tmp 51)))⟩,
            ⟨(some 53), none, (.op (.pick (.tmp 41) (.dat (.lit (.bool true))) (.tmp 52)))⟩,
            ⟨(some 54), none, (.op (.mov (.tmp 53)))⟩,
            ⟨(some 55), (some (54, false)), (.op (.mov (.tmp 0)))⟩,
            ⟨(some 56), (some (54, false)), (.op (.mov (.tmp 5)))⟩,
            ⟨(some 57), (some (54, false)), (.op (.index 5 (.tmp 55) (.tmp 56)))⟩,
            ⟨(some 58), (some (54, false)), (.op (.field 3 1 false (.tmp 57)))⟩,
            ⟨(some 59), (some (54, false)), (.op (.load 1 false (.tmp 58)))⟩,
            ⟨(some 60), (some (54, false)), (.op (.mov (.tmp 1)))⟩,
            ⟨(some 61), (some (54, false)), (.op (.mov (.tmp 5)))⟩,
            ⟨(some 62), (some (54, false)), (.op (.index 5 (.tmp 60) (.tmp 61)))⟩,
            ⟨(some 63), (some (54, false)), (.op (.field 3 1 false (.tmp 62)))⟩,
            ⟨(some 64), (some (54, false)), (.op (.load 1 false (.tmp 63)))⟩,
            ⟨(some 65), (some (54, false)), (.op (.arith .neq (.tmp 59) (.tmp 64)))⟩,
            ⟨(some 66), none, (.op (.pick (.tmp 54) (.dat (.lit (.bool true))) (.tmp 65)))⟩,
            ⟨(some 67), none, (.op (.mov (.tmp 66)))⟩,
            ⟨(some 68), (some (67, false)), (.op (.mov (.tmp 0)))⟩,
            ⟨(some 69), (some (67, false)), (.op (.mov (.tmp 5)))⟩,
            ⟨(some 70), (some (67, false)), (.op (.index 5 (.tmp 68) (.tmp 69)))⟩,
            ⟨(some 71), (some (67, false)), (.op (.field 4 1 false (.tmp 70)))⟩,
            ⟨(some 72), (some (67, false)), (.op (.load 1 false (.tmp 71)))⟩,
            ⟨(some 73), (some (67, false)), (.op (.mov (.tmp 1)))⟩,
            ⟨(some 74), (some (67, false)), (.op (.mov (.tmp 5)))⟩,
            ⟨(some 75), (some (67, false)), (.op (.index 5 (.tmp 73) (.tmp 74)))⟩,
            ⟨(some 76), (some (67, false)), (.op (.field 4 1 false (.tmp 75)))⟩,
            ⟨(some 77), (some (67, false)), (.op (.load 1 false (.tmp 76)))⟩,
            ⟨(some 78), (some (67, false)), (.call (.dat (.fn (.func 49) [] [])) [(.tmp 72), (.tmp 77)])⟩,
            ⟨(some 79), (some (67, false)), (.op (.not (.tmp 78)))⟩,
            ⟨(some 80), none, (.op (.pick (.tmp 67) (.dat (.lit (.bool true))) (.tmp 79)))⟩])
          (.cond (.tmp 80)
            (.seq (.region none [
              ⟨(some 4), none, (.op (.mov (.dat (.lit (.bool false)))))⟩])
            .ret)
            .skip)))
        (.region none [
          ⟨(some 15), none, (.op (.mov (.tmp 5)))⟩,
          ⟨(some 16), none, (.op (.arith .add (.tmp 15) (.dat (.lit (.int .i64 1)))))⟩,
          ⟨(some 5), none, (.op (.mov (.tmp 16)))⟩]))))))
    (.seq (.region none [
      ⟨(some 4), none, (.op (.mov (.dat (.lit (.bool true)))))⟩])
    .ret))))
  res := [.tmp 4]
theorem c18 : CmpF Tryd.prog 18 a18 := chkF_cmp (F := Tryd.f18) (by kernel_rfl) mixed (by kernel_rfl)
/-- hansard/hansardref23.Few -/
def a19 : AF where
  nt := 41
  body := (.seq (.region none [
      ⟨(some 4), none, (.op (.mov (.dat (.lit (.bool false)))))⟩])
    (.seq (.seq (.region none [
      ⟨(some 5), none, (.op (.mov (.dat (.lit (.int .i64 0)))))⟩])
    (.block 0
      (.loop
        (.seq (.seq (.region none [
          ⟨(some 6), none, (.op (.mov (.tmp 5)))⟩,
          ⟨(some 7), none, (.op (.mov (.tmp 0)))⟩,
          ⟨(some 8), none, (.op (.len (.tmp 7)))⟩,
          ⟨(some 9), none, (.op (.arith .lss (.tmp 6) (.tmp 8)))⟩,
          ⟨(some 10), none, (.op (.mov (.tmp 9)))⟩,
          ⟨(some 11), (some (10, true)), (.op (.mov (.tmp 5)))⟩,
          ⟨(some 12), (some (10, true)), (.op (.arith .lss (.tmp 11) (.dat (.lit (.int .i64 30)))))⟩,
          ⟨(some 13), none, (.op (.pick (.tmp 10) (.tmp 12) (.dat (.lit (.bool false)))))⟩])
        (.cond (.tmp 13)
          .skip
          (.exit 0)))
        (.seq (.block 1
          (.seq (.region none [
            ⟨(some 16), none, (.op (.mov (.tmp 0)))⟩,
            ⟨(some 17), none, (.op (.mov (.tmp 5)))⟩,
            ⟨(some 18), none, (.op (.index 2 (.tmp 16) (.tmp 17)))⟩,
            ⟨(some 19), none, (.op (.field 0 1 false (.tmp 18)))⟩,
            ⟨(some 20), none, (.op (.load 1 false (.tmp 19)))⟩,
            ⟨(some 21), none, (.op (.len (.tmp 20)))⟩,
            ⟨(some 22), none, (.op (.arith .gtr (.tmp 21) (.dat (.lit (.int .i64 30)))))⟩])
          (.cond (.tmp 22)
            (.seq (.region none [
              ⟨(some 4), none, (.op (.mov (.dat (.lit (.bool false)))))⟩])
            .ret)
            .skip)))
        (.region none [
          ⟨(some 14), none, (.op (.mov (.tmp 5)))⟩,
          ⟨(some 15), none, (.op (.arith .add (.tmp 14) (.dat (.lit (.int .i64 1)))))⟩,
          ⟨(some 5), none, (.op (.mov (.tmp 15)))⟩]))))))
    (.seq (.region none [
      ⟨(some 23), none, (.op (.mov (.tmp 0)))⟩,
      ⟨(some 24), none, (.op (.len (.tmp 23)))⟩,
      ⟨(some 25), none, (.op (.arith .leq (.tmp 24) (.dat (.lit (.int .i64 6)))))⟩,
      ⟨(some 26), none, (.op (.mov (.tmp 25)))⟩,
      ⟨(some 27), (some (26, false)), (.op (.mov (.tmp 0)))⟩,
      ⟨(some 28), (some (26, false)), (.op (.len (.tmp 27)))⟩,
      ⟨(some 29), (some (26, false)), (.op (.arith .gtr (.tmp 28) (.dat (.lit (.int .i64 16)))))⟩,
      ⟨(some 30), (some (26, false)), (.op (.mov (.tmp 29)))⟩,
      ⟨(some 31), (some (30, true)), (.op (.mov (.tmp 0)))⟩,
      ⟨(some 32), (some (30, true)), (.op (.len (.tmp 31)))⟩,
      ⟨(some 33), (some (30, true)), (.op (.arith .leq (.tmp 32) (.dat (.lit (.int .i64 20)))))⟩,
      ⟨(some 34), (some (26, false)), (.op (.pick (.tmp 30) (.tmp 33) (.dat (.lit (.bool false)))))⟩,
      ⟨(some 35), none, (.op (.pick (.tmp 26) (.dat (.lit (.bool true))) (.tmp 34)))⟩,
      ⟨(some 36), none, (.op (.mov (.tmp 35)))⟩,
      ⟨(some 37), (some (36, true)), (.op (.mov (.tmp 1)))⟩,
      ⟨(some 38), (some (36, true)), (.op (.len (.tmp 37)))⟩,
      ⟨(some 39), (some (36, true)), (.op (.arith .leq (.tmp 38) (.dat (.lit (.int .i64 30)))))⟩,
      ⟨(some 40), none, (.op (.pick (.tmp 36) (.tmp 39) (.dat (.lit (.bool false)))))⟩,
      ⟨(some 4), none, (.op (.mov (.tmp 40)))⟩])
    .ret)))
  res := [.tmp 4]
theorem c19 : CmpF Tryd.prog 19 a19 := chkF_cmp (F := Tryd.f19) (by kernel_rfl) mixed (by kernel_rfl)
/-- hansard/settled.State -/
def a20 : AF where
  nt := 109
  body := (.seq (.region none [
      ⟨(some 8), none, (.op (.ext .boxI [(.tmp 1)]))⟩,
      ⟨(some 9), none, (.op (.ext .boxI [(.tmp 2)]))⟩,
      ⟨(some 10), none, (.op (.ext .boxI [(.tmp 3)]))⟩,
      ⟨(some 11), none, (.op (.ext .boxI [(.tmp 4)]))⟩,
      ⟨(some 12), none, (.op (.ext .boxI [(.tmp 5)]))⟩,
      ⟨(some 14), none, (.op (.alloc false [.lit (.int .i64 0)]))⟩,
      ⟨(some 15), none, (.op (.alloc false [.nil 1]))⟩,
      ⟨(some 16), none, (.op (.alloc false [.lit (.int .i64 0)]))⟩])
    (.seq (.seq (.region none [
      ⟨(some 24), none, (.op (.mov (.tmp 0)))⟩,
      ⟨(some 25), none, (.op (.len (.tmp 24)))⟩,
      ⟨(some 26), none, (.op (.arith .gtr (.tmp 25) (.dat (.lit (.int .i64 16)))))⟩])
    (.cond (.tmp 26)
      (.seq (.region none [
        ⟨none, none, (.op (.store 1 (.tmp 14) (.dat (.lit (.int .i64 0)))))⟩,
        ⟨none, none, (.op (.store 1 (.tmp 15) (.dat (.nil 1))))⟩,
        ⟨none, none, (.op (.store 1 (.tmp 16) (.dat (.lit (.int .i64 2)))))⟩])
      .ret)
      .skip))
    (.seq (.seq (.region none [
      ⟨(some 27), none, (.op (.load 1 false (.tmp 8)))⟩,
      ⟨(some 28), none, (.op (.len (.tmp 27)))⟩,
      ⟨(some 29), none, (.op (.mov (.tmp 0)))⟩,
      ⟨(some 30), none, (.op (.len (.tmp 29)))⟩,
      ⟨(some 31), none, (.op (.arith .neq (.tmp 28) (.tmp 30)))⟩])
    (.cond (.tmp 31)
      (.seq (.region none [
        ⟨none, none, (.op (.store 1 (.tmp 14) (.dat (.lit (.int .i64 0)))))⟩,
        ⟨none, none, (.op (.store 1 (.tmp 15) (.dat (.nil 1))))⟩,
        ⟨none, none, (.op (.store 1 (.tmp 16) (.dat (.lit (.int .i64 1)))))⟩])
      .ret)
      .skip))
    (.seq (.seq (.region none [
      ⟨(some 32), none, (.op (.mov (.tmp 0)))⟩,
      ⟨(some 33), none, (.op (.len (.tmp 32)))⟩,
      ⟨(some 34), none, (.op (.arith .eql (.tmp 33) (.dat (.lit (.int .i64 0)))))⟩])
    (.cond (.tmp 34)
      (.seq (.region none [
        ⟨(some 36), none, (.op (.build [.nil 5, .lit (.int .i64 0)] []))⟩,
        ⟨(some 37), none, (.op (.load 1 true (.tmp 9)))⟩,
        ⟨(some 38), none, (.op (.load 1 false (.tmp 10)))⟩,
        ⟨(some 39), none, (.op (.load 1 false (.tmp 11)))⟩,
        ⟨(some 40), none, (.op (.load 1 false (.tmp 12)))⟩,
        ⟨(some 41), none, (.call (.dat (.fn (.func 16) [] [])) [(.tmp 36), (.tmp 37), (.tmp 38), (.tmp 39), (.tmp 40)])⟩,
        ⟨(some 35), none, (.op (.mov (.tmp 41)))⟩,
        ⟨(some 42), none, (.op (.extract (.tmp 35) 0))⟩,
        ⟨(some 43), none, (.op (.extract (.tmp 35) 1))⟩,
        ⟨(some 44), none, (.op (.extract (.tmp 35) 2))⟩,
        ⟨none, none, (.op (.store 1 (.tmp 16) (.tmp 44)))⟩])
      (.seq (.region none [
        ⟨(some 45), none, (.op (.load 1 false (.tmp 16)))⟩,
        ⟨(some 46), none, (.op (.arith .neq (.tmp 45) (.dat (.lit (.int .i64 0)))))⟩])
      (.cond (.tmp 46)
        (.seq (.region (some [[], [], [1], [0, 1, 2]]) [
          ⟨(some 47), none, (.op (.load 1 false (.tmp 16)))⟩,
          ⟨none, none, (.op (.store 1 (.tmp 14) (.dat (.lit (.int .i64 0)))))⟩,
          ⟨none, none, (.op (.store 1 (.tmp 15) (.dat (.nil 1))))⟩,
          ⟨none, none, (.op (.store 1 (.tmp 16) (.tmp 47)))⟩])
        .ret)
        .skip)))
      .skip))
    (.seq (.region none [
      ⟨(some 17), none, (.op (.mov (.dat (.nil 2))))⟩])
    (.seq (.seq (.region none [
      ⟨(some 48), none, (.op (.mov (.tmp 0)))⟩,
      ⟨(some 49), none, (.op (.len (.tmp 48)))⟩,
      ⟨(some 50), none, (.op (.mov (.dat (.lit (.int .i64 0)))))⟩])
    (.block 0
      (.loop
        (.seq (.region none [
          ⟨(some 51), none, (.op (.arith .lss (.tmp 50) (.tmp 49)))⟩])
        (.seq (.cond (.tmp 51)
          .skip
          (.exit 0))
        (.seq (.block 1
          (.seq (.region none [
            ⟨(some 52), none, (.op (.mov (.tmp 50)))⟩,
            ⟨(some 53), none, (.op (.index 2 (.tmp 48) (.tmp 50)))⟩,
            ⟨(some 54), none, (.op (.load 2 true (.tmp 53)))⟩,
            ⟨(some 19), none, (.op (.alloc true [.nil 5, .lit (.int .i64 0)]))⟩,
            ⟨(some 18), none, (.op (.mov (.tmp 52)))⟩,
            ⟨none, none, (.op (.store 2 (.tmp 19) (.tmp 54)))⟩])
          (.region none [
            ⟨(some 55), none, (.op (.mov (.tmp 17)))⟩,
            ⟨(some 56), none, (.op (.load 1 false (.tmp 8)))⟩,
            ⟨(some 57), none, (.op (.mov (.tmp 18)))⟩,
            ⟨(some 58), none, (.op (.index 1 (.tmp 56) (.tmp 57)))⟩,
            ⟨(some 59), none, (.op (.load 1 false (.tmp 58)))⟩,
            ⟨(some 60), none, (.op (.ext (.funcZ (.func 50)) [(.tmp 19), (.tmp 9), (.tmp 10), (.tmp 11), (.tmp 12)]))⟩,
            ⟨(some 61), none, (.op (.build [.lit (.bool false), .lit (.nilFunc)] [(0, 1, (.tmp 59)), (1, 1, (.tmp 60))]))⟩,
            ⟨(some 62), none, (.op (.mkslice 2 [(.tmp 61)]))⟩,
            ⟨(some 63), none, (.op (.append 2 16 (.tmp 55) (.tmp 62)))⟩,
            ⟨(some 17), none, (.op (.mov (.tmp 63)))⟩])))
        (.region none [
          ⟨(some 64), none, (.op (.arith .add (.tmp 50) (.dat (.lit (.int .i64 1)))))⟩,
          ⟨(some 50), none, (.op (.mov (.tmp 64)))⟩])))))))
    (.seq (.region none [
      ⟨(some 20), none, (.op (.alloc false [.lit (.int .i64 0)]))⟩,
      ⟨(some 21), none, (.op (.alloc false [.lit (.int .i64 0)]))⟩,
      ⟨none, none, (.op (.store 1 (.tmp 20) (.dat (.lit (.int .i64 0)))))⟩,
      ⟨none, none, (.op (.store 1 (.tmp 21) (.dat (.lit (.int .i64 0)))))⟩])
    (.seq (.seq (.region none [
      ⟨(some 65), none, (.op (.mov (.tmp 17)))⟩,
      ⟨(some 66), none, (.call (.dat (.fn (.func 51) [] [])) [(.tmp 65)])⟩])
    (.block 2
      (.range (.tmp 66) [67, 68]
        (.seq (.region none [
          ⟨(some 22), none, (.op (.mov (.tmp 67)))⟩])
        (.region none [
          ⟨(some 23), none, (.op (.mov (.tmp 68)))⟩]))
        (.block 3
          (.seq (.seq (.region none [
            ⟨(some 69), none, (.op (.mov (.tmp 23)))⟩,
            ⟨(some 70), none, (.op (.arith .neq (.tmp 69) (.dat (.lit (.int .i64 0)))))⟩])
          (.cond (.tmp 70)
            (.seq (.region none [
              ⟨(some 71), none, (.op (.mov (.tmp 23)))⟩,
              ⟨none, none, (.op (.store 1 (.tmp 14) (.dat (.lit (.int .i64 0)))))⟩,
              ⟨none, none, (.op (.store 1 (.tmp 15) (.dat (.nil 1))))⟩,
              ⟨none, none, (.op (.store 1 (.tmp 16) (.tmp 71)))⟩])
            .ret)
            .skip))
          (.seq (.seq (.region none [
            ⟨(some 72), none, (.op (.load 1 false (.tmp 8)))⟩,
            ⟨(some 73), none, (.op (.load 1 false (.tmp 15)))⟩,
            ⟨(some 74), none, (.op (.len (.tmp 73)))⟩,
            ⟨(some 75), none, (.op (.index 1 (.tmp 72) (.tmp 74)))⟩,
            ⟨(some 76), none, (.op (.load 1 false (.tmp 75)))⟩])
          (.cond (.tmp 76)
            (.region none [
              ⟨(some 77), none, (.op (.load 1 false (.tmp 20)))⟩,
              ⟨(some 78), none, (.op (.arith .add (.tmp 77) (.dat (.lit (.int .i64 1)))))⟩,
              ⟨none, none, (.op (.store 1 (.tmp 20) (.tmp 78)))⟩])
            .skip))
          (.seq (.seq (.region none [
            ⟨(some 79), none, (.op (.mov (.tmp 22)))⟩,
            ⟨(some 80), none, (.op (.arith .geq (.tmp 79) (.dat (.lit (.int .i64 0)))))⟩])
          (.cond (.tmp 80)
            (.region none [
              ⟨(some 81), none, (.op (.load 1 false (.tmp 21)))⟩,
              ⟨(some 82), none, (.op (.arith .add (.tmp 81) (.dat (.lit (.int .i64 1)))))⟩,
              ⟨none, none, (.op (.store 1 (.tmp 21) (.tmp 82)))⟩])
            .skip))
          (.region none [
            ⟨(some 83), none, (.op (.load 1 false (.tmp 15)))⟩,
            ⟨(some 84), none, (.op (.mov (.tmp 22)))⟩,
            ⟨(some 85), none, (.op (.mkslice 1 [(.tmp 84)]))⟩,
            ⟨(some 86), none, (.op (.append 1 8 (.tmp 83) (.tmp 85)))⟩,
            ⟨none, none, (.op (.store 1 (.tmp 15) (.tmp 86)))⟩]))))))))
    (.seq (.block 4
      (.seq (.region none [
        ⟨(some 88), none, (.op (.mov (.tmp 6)))⟩,
        ⟨(some 89), none, (.op (.arith .lss (.tmp 88) (.dat (.lit (.int .i64 0)))))⟩,
        ⟨(some 90), none, (.op (.mov (.tmp 89)))⟩,
        ⟨(some 91), (some (90, false)), (.op (.mov (.tmp 6)))⟩,
        ⟨(some 92), (some (90, false)), (.op (.arith .geq (.tmp 91) (.dat (.lit (.int .i64 1099511627776)))))⟩,
        ⟨(some 93), none, (.op (.pick (.tmp 90) (.dat (.lit (.bool true))) (.tmp 92)))⟩,
        ⟨(some 87), none, (.op (.mov (.tmp 93)))⟩])
      (.cond (.tmp 87)
        (.seq (.region none [
          ⟨none, none, (.op (.store 1 (.tmp 14) (.dat (.lit (.int .i64 0)))))⟩,
          ⟨none, none, (.op (.store 1 (.tmp 15) (.dat (.nil 1))))⟩,
          ⟨none, none, (.op (.store 1 (.tmp 16) (.dat (.lit (.int .i64 1)))))⟩])
        .ret)
        (.seq (.region none [
          ⟨(some 95), none, (.op (.load 1 false (.tmp 20)))⟩,
          ⟨(some 96), none, (.op (.arith .gtr (.tmp 95) (.dat (.lit (.int .i64 0)))))⟩,
          ⟨(some 97), none, (.op (.mov (.tmp 96)))⟩,
          ⟨(some 98), (some (97, true)), (.op (.load 1 false (.tmp 20)))⟩,
          ⟨(some 99), (some (97, true)), (.op (.load 1 false (.tmp 21)))⟩,
          ⟨(some 100), (some (97, true)), (.op (.arith .eql (.tmp 98) (.tmp 99)))⟩,
          ⟨(some 101), none, (.op (.pick (.tmp 97) (.tmp 100) (.dat (.lit (.bool false)))))⟩,
          ⟨(some 94), none, (.op (.mov (.tmp 101)))⟩])
        (.cond (.tmp 94)
          (.seq (.region (some [[], [], [0, 1], [0, 1, 2]]) [
            ⟨(some 102), none, (.op (.load 1 false (.tmp 15)))⟩,
            ⟨none, none, (.op (.store 1 (.tmp 14) (.dat (.lit (.int .i64 2)))))⟩,
            ⟨none, none, (.op (.store 1 (.tmp 15) (.tmp 102)))⟩,
            ⟨none, none, (.op (.store 1 (.tmp 16) (.dat (.lit (.int .i64 0)))))⟩])
          .ret)
          (.seq (.region none [
            ⟨(some 104), none, (.op (.load 1 false (.tmp 10)))⟩,
            ⟨(some 105), none, (.op (.mov (.tmp 6)))⟩,
            ⟨(some 106), none, (.op (.arith .geq (.tmp 104) (.tmp 105)))⟩,
            ⟨(some 103), none, (.op (.mov (.tmp 106)))⟩])
          (.cond (.tmp 103)
            (.seq (.region (some [[], [], [0, 1], [0, 1, 2]]) [
              ⟨(some 107), none, (.op (.load 1 false (.tmp 15)))⟩,
              ⟨none, none, (.op (.store 1 (.tmp 14) (.dat (.lit (.int .i64 1)))))⟩,
              ⟨none, none, (.op (.store 1 (.tmp 15) (.tmp 107)))⟩,
              ⟨none, none, (.op (.store 1 (.tmp 16) (.dat (.lit (.int .i64 0)))))⟩])
            .ret)
            .skip)))))))
    (.seq (.region (some [[], [], [0, 1], [0, 1, 2]]) [
      ⟨(some 108), none, (.op (.load 1 false (.tmp 15)))⟩,
      ⟨none, none, (.op (.store 1 (.tmp 14) (.dat (.lit (.int .i64 0)))))⟩,
      ⟨none, none, (.op (.store 1 (.tmp 15) (.tmp 108)))⟩,
      ⟨none, none, (.op (.store 1 (.tmp 16) (.dat (.lit (.int .i64 0)))))⟩])
    .ret))))))))))
  res := [.cell 14 1 false, .cell 15 1 false, .cell 16 1 false]
theorem c20 : CmpF Tryd.prog 20 a20 := chkF_cmp (F := Tryd.f20) (by kernel_rfl) mixed (by kernel_rfl)
/-- hansard/hansardref23.State -/
def a21 : AF where
  nt := 123
  body := (.seq (.region none [
      ⟨(some 9), none, (.op (.box true (.tmp 2)))⟩,
      ⟨(some 14), none, (.op (.mov (.dat (.lit (.int .i64 0)))))⟩,
      ⟨(some 15), none, (.op (.mov (.dat (.nil 1))))⟩,
      ⟨(some 16), none, (.op (.mov (.dat (.lit (.int .i64 0)))))⟩])
    (.seq (.seq (.region none [
      ⟨(some 27), none, (.op (.mov (.tmp 0)))⟩,
      ⟨(some 28), none, (.op (.len (.tmp 27)))⟩,
      ⟨(some 29), none, (.op (.arith .gtr (.tmp 28) (.dat (.lit (.int .i64 16)))))⟩])
    (.cond (.tmp 29)
      (.seq (.region none [
        ⟨(some 14), none, (.op (.mov (.dat (.lit (.int .i64 0)))))⟩,
        ⟨(some 15), none, (.op (.mov (.dat (.nil 1))))⟩,
        ⟨(some 16), none, (.op (.mov (.dat (.lit (.int .i64 2)))))⟩])
      .ret)
      .skip))
    (.seq (.seq (.region none [
      ⟨(some 30), none, (.op (.mov (.tmp 1)))⟩,
      ⟨(some 31), none, (.op (.len (.tmp 30)))⟩,
      ⟨(some 32), none, (.op (.mov (.tmp 0)))⟩,
      ⟨(some 33), none, (.op (.len (.tmp 32)))⟩,
      ⟨(some 34), none, (.op (.arith .neq (.tmp 31) (.tmp 33)))⟩])
    (.cond (.tmp 34)
      (.seq (.region none [
        ⟨(some 14), none, (.op (.mov (.dat (.lit (.int .i64 0)))))⟩,
        ⟨(some 15), none, (.op (.mov (.dat (.nil 1))))⟩,
        ⟨(some 16), none, (.op (.mov (.dat (.lit (.int .i64 1)))))⟩])
      .ret)
      .skip))
    (.seq (.region none [
      ⟨(some 36), none, (.op (.build [.nil 5, .lit (.int .i64 0)] []))⟩,
      ⟨(some 37), none, (.op (.load 1 true (.tmp 9)))⟩,
      ⟨(some 38), none, (.op (.mov (.tmp 3)))⟩,
      ⟨(some 39), none, (.op (.mov (.tmp 4)))⟩,
      ⟨(some 40), none, (.op (.mov (.tmp 5)))⟩,
      ⟨(some 41), none, (.call (.dat (.fn (.func 17) [] [])) [(.tmp 36), (.tmp 37), (.tmp 38), (.tmp 39), (.tmp 40)])⟩,
      ⟨(some 35), none, (.op (.mov (.tmp 41)))⟩,
      ⟨(some 42), none, (.op (.extract (.tmp 35) 0))⟩,
      ⟨(some 43), none, (.op (.extract (.tmp 35) 1))⟩,
      ⟨(some 44), none, (.op (.extract (.tmp 35) 2))⟩,
      ⟨(some 17), none, (.op (.mov (.tmp 42)))⟩,
      ⟨(some 18), none, (.op (.mov (.tmp 43)))⟩,
      ⟨(some 19), none, (.op (.mov (.tmp 44)))⟩])
    (.seq (.seq (.region none [
      ⟨(some 45), none, (.op (.mov (.tmp 0)))⟩,
      ⟨(some 46), none, (.op (.len (.tmp 45)))⟩,
      ⟨(some 47), none, (.op (.arith .eql (.tmp 46) (.dat (.lit (.int .i64 0)))))⟩,
      ⟨(some 48), none, (.op (.mov (.tmp 47)))⟩,
      ⟨(some 49), (some (48, true)), (.op (.mov (.tmp 19)))⟩,
      ⟨(some 50), (some (48, true)), (.op (.arith .neq (.tmp 49) (.dat (.lit (.int .i64 0)))))⟩,
      ⟨(some 51), none, (.op (.pick (.tmp 48) (.tmp 50) (.dat (.lit (.bool false)))))⟩])
    (.cond (.tmp 51)
      (.seq (.region none [
        ⟨(some 52), none, (.op (.mov (.tmp 19)))⟩,
        ⟨(some 14), none, (.op (.mov (.dat (.lit (.int .i64 0)))))⟩,
        ⟨(some 15), none, (.op (.mov (.dat (.nil 1))))⟩,
        ⟨(some 16), none, (.op (.mov (.tmp 52)))⟩])
      .ret)
      .skip))
    (.seq (.region none [
      ⟨(some 20), none, (.op (.mov (.dat (.nil 1))))⟩])
    (.seq (.region none [
      ⟨(some 21), none, (.op (.mov (.dat (.lit (.bool false)))))⟩])
    (.seq (.region none [
      ⟨(some 22), none, (.op (.mov (.dat (.lit (.bool true)))))⟩])
    (.seq (.seq (.region none [
      ⟨(some 23), none, (.op (.mov (.dat (.lit (.int .i64 0)))))⟩])
    (.block 0
      (.loop
        (.seq (.seq (.region none [
          ⟨(some 53), none, (.op (.mov (.tmp 23)))⟩,
          ⟨(some 54), none, (.op (.mov (.tmp 0)))⟩,
          ⟨(some 55), none, (.op (.len (.tmp 54)))⟩,
          ⟨(some 56), none, (.op (.arith .lss (.tmp 53) (.tmp 55)))⟩])
        (.cond (.tmp 56)
          .skip
          (.exit 0)))
        (.seq (.block 1
          (.seq (.region (some [[], [], [0, 1], [0, 1, 2], [], [], [], [], [0, 1, 2, 3, 4, 5, 6, 7], [0, 1, 2, 3, 4, 5, 6, 7, 8], [0, 1, 2, 3, 4, 5, 6, 7, 8, 9], [0, 1, 2, 3, 4, 5, 6, 7, 8, 9], [0, 1, 2, 3, 4, 5, 6, 7, 8, 9], [0, 1, 2, 3, 4, 5, 6, 7, 8, 9, 10], [0, 1, 2, 3, 4, 5, 6, 7, 8, 9, 10, 11, 13], [0, 1, 2, 3, 4, 5, 6, 7, 8, 9, 10, 11, 12, 13, 14]]) [
            ⟨(some 60), none, (.op (.mov (.tmp 0)))⟩,
            ⟨(some 61), none, (.op (.mov (.tmp 23)))⟩,
            ⟨(some 62), none, (.op (.index 2 (.tmp 60) (.tmp 61)))⟩,
            ⟨(some 63), none, (.op (.load 2 true (.tmp 62)))⟩,
            ⟨(some 64), none, (.op (.load 1 true (.tmp 9)))⟩,
            ⟨(some 65), none, (.op (.mov (.tmp 3)))⟩,
            ⟨(some 66), none, (.op (.mov (.tmp 4)))⟩,
            ⟨(some 67), none, (.op (.mov (.tmp 5)))⟩,
            ⟨(some 68), none, (.call (.dat (.fn (.func 17) [] [])) [(.tmp 63), (.tmp 64), (.tmp 65), (.tmp 66), (.tmp 67)])⟩,
            ⟨(some 59), none, (.op (.mov (.tmp 68)))⟩,
            ⟨(some 69), none, (.op (.extract (.tmp 59) 0))⟩,
            ⟨(some 70), none, (.op (.extract (.tmp 59) 1))⟩,
            ⟨(some 71), none, (.op (.extract (.tmp 59) 2))⟩,
            ⟨(some 24), none, (.op (.mov (.tmp 69)))⟩,
            ⟨(some 25), none, (.op (.mov (.tmp 70)))⟩,
            ⟨(some 26), none, (.op (.mov (.tmp 71)))⟩])
          (.seq (.seq (.region none [
            ⟨(some 72), none, (.op (.mov (.tmp 26)))⟩,
            ⟨(some 73), none, (.op (.arith .neq (.tmp 72) (.dat (.lit (.int .i64 0)))))⟩])
          (.cond (.tmp 73)
            (.seq (.region none [
              ⟨(some 74), none, (.op (.mov (.tmp 26)))⟩,
              ⟨(some 14), none, (.op (.mov (.dat (.lit (.int .i64 0)))))⟩,
              ⟨(some 15), none, (.op (.mov (.dat (.nil 1))))⟩,
              ⟨(some 16), none, (.op (.mov (.tmp 74)))⟩])
            .ret)
            .skip))
          (.seq (.seq (.region none [
            ⟨(some 75), none, (.op (.mov (.tmp 1)))⟩,
            ⟨(some 76), none, (.op (.mov (.tmp 23)))⟩,
            ⟨(some 77), none, (.op (.index 1 (.tmp 75) (.tmp 76)))⟩,
            ⟨(some 78), none, (.op (.load 1 false (.tmp 77)))⟩,
            ⟨(some 79), none, (.op (.mov (.tmp 78)))⟩,
            ⟨(some 80), (some (79, true)), (.op (.mov (.tmp 25)))⟩,
            ⟨(some 81), none, (.op (.pick (.tmp 79) (.tmp 80) (.dat (.lit (.bool false)))))⟩])
          (.cond (.tmp 81)
            (.region none [
              ⟨(some 82), none, (.op (.mov (.tmp 20)))⟩,
              ⟨(some 83), none, (.op (.mov (.tmp 24)))⟩,
              ⟨(some 84), none, (.op (.mkslice 1 [(.tmp 83)]))⟩,
              ⟨(some 85), none, (.op (.append 1 8 (.tmp 82) (.tmp 84)))⟩,
              ⟨(some 20), none, (.op (.mov (.tmp 85)))⟩])
            (.region none [
              ⟨(some 86), none, (.op (.mov (.tmp 20)))⟩,
              ⟨(some 87), none, (.op (.mkslice 1 [(.dat (.lit (.int .i64 (-1))))]))⟩,
              ⟨(some 88), none, (.op (.append 1 8 (.tmp 86) (.tmp 87)))⟩,
              ⟨(some 20), none, (.op (.mov (.tmp 88)))⟩])))
          (.seq (.region none [
            ⟨(some 89), none, (.op (.mov (.tmp 21)))⟩,
            ⟨(some 90), none, (.op (.mov (.tmp 89)))⟩,
            ⟨(some 91), (some (90, false)), (.op (.mov (.tmp 1)))⟩,
            ⟨(some 92), (some (90, false)), (.op (.mov (.tmp 23)))⟩,
            ⟨(some 93), (some (90, false)), (.op (.index 1 (.tmp 91) (.tmp 92)))⟩,
            ⟨(some 94), (some (90, false)), (.op (.load 1 false (.tmp 93)))⟩,
            ⟨(some 95), none, (.op (.pick (.tmp 90) (.dat (.lit (.bool true))) (.tmp 94)))⟩,
            ⟨(some 21), none, (.op (.mov (.tmp 95)))⟩])
          (.region none [
            ⟨(some 96), none, (.op (.mov (.tmp 22)))⟩,
            ⟨(some 97), none, (.op (.mov (.tmp 96)))⟩,
            ⟨(some 98), (some (97, true)), (.op (.mov (.tmp 25)))⟩,
            ⟨(some 99), (some (97, true)), (.op (.mov (.tmp 98)))⟩,
            ⟨(some 100), (some (99, false)), (.op (.mov (.tmp 1)))⟩,
            ⟨(some 101), (some (99, false)), (.op (.mov (.tmp 23)))⟩,
            ⟨(some 102), (some (99, false)), (.op (.index 1 (.tmp 100) (.tmp 101)))⟩,
            ⟨(some 103), (some (99, false)), (.op (.load 1 false (.tmp 102)))⟩,
            ⟨(some 104), (some (99, false)), (.op (.not (.tmp 103)))⟩,
            ⟨(some 105), (some (97, true)), (.op (.pick (.tmp 99) (.dat (.lit (.bool true))) (.tmp 104)))⟩,
            ⟨(some 106), none, (.op (.pick (.tmp 97) (.tmp 105) (.dat (.lit (.bool false)))))⟩,
            ⟨(some 22), none, (.op (.mov (.tmp 106)))⟩]))))))
        (.region none [
          ⟨(some 57), none, (.op (.mov (.tmp 23)))⟩,
          ⟨(some 58), none, (.op (.arith .add (.tmp 57) (.dat (.lit (.int .i64 1)))))⟩,
          ⟨(some 23), none, (.op (.mov (.tmp 58)))⟩]))))))
    (.seq (.seq (.region none [
      ⟨(some 107), none, (.op (.mov (.tmp 6)))⟩,
      ⟨(some 108), none, (.op (.arith .lss (.tmp 107) (.dat (.lit (.int .i64 0)))))⟩,
      ⟨(some 109), none, (.op (.mov (.tmp 108)))⟩,
      ⟨(some 110), (some (109, false)), (.op (.mov (.tmp 6)))⟩,
      ⟨(some 111), (some (109, false)), (.op (.arith .geq (.tmp 110) (.dat (.lit (.int .i64 1099511627776)))))⟩,
      ⟨(some 112), none, (.op (.pick (.tmp 109) (.dat (.lit (.bool true))) (.tmp 111)))⟩])
    (.cond (.tmp 112)
      (.seq (.region none [
        ⟨(some 14), none, (.op (.mov (.dat (.lit (.int .i64 0)))))⟩,
        ⟨(some 15), none, (.op (.mov (.dat (.nil 1))))⟩,
        ⟨(some 16), none, (.op (.mov (.dat (.lit (.int .i64 1)))))⟩])
      .ret)
      .skip))
    (.seq (.seq (.region none [
      ⟨(some 113), none, (.op (.mov (.tmp 21)))⟩,
      ⟨(some 114), none, (.op (.mov (.tmp 113)))⟩,
      ⟨(some 115), (some (114, true)), (.op (.mov (.tmp 22)))⟩,
      ⟨(some 116), none, (.op (.pick (.tmp 114) (.tmp 115) (.dat (.lit (.bool false)))))⟩])
    (.cond (.tmp 116)
      (.seq (.region none [
        ⟨(some 117), none, (.op (.mov (.tmp 20)))⟩,
        ⟨(some 14), none, (.op (.mov (.dat (.lit (.int .i64 2)))))⟩,
        ⟨(some 15), none, (.op (.mov (.tmp 117)))⟩,
        ⟨(some 16), none, (.op (.mov (.dat (.lit (.int .i64 0)))))⟩])
      .ret)
      .skip))
    (.seq (.seq (.region none [
      ⟨(some 118), none, (.op (.mov (.tmp 3)))⟩,
      ⟨(some 119), none, (.op (.mov (.tmp 6)))⟩,
      ⟨(some 120), none, (.op (.arith .geq (.tmp 118) (.tmp 119)))⟩])
    (.cond (.tmp 120)
      (.seq (.region none [
        ⟨(some 121), none, (.op (.mov (.tmp 20)))⟩,
        ⟨(some 14), none, (.op (.mov (.dat (.lit (.int .i64 1)))))⟩,
        ⟨(some 15), none, (.op (.mov (.tmp 121)))⟩,
        ⟨(some 16), none, (.op (.mov (.dat (.lit (.int .i64 0)))))⟩])
      .ret)
      .skip))
    (.seq (.region none [
      ⟨(some 122), none, (.op (.mov (.tmp 20)))⟩,
      ⟨(some 14), none, (.op (.mov (.dat (.lit (.int .i64 0)))))⟩,
      ⟨(some 15), none, (.op (.mov (.tmp 122)))⟩,
      ⟨(some 16), none, (.op (.mov (.dat (.lit (.int .i64 0)))))⟩])
    .ret)))))))))))))
  res := [.tmp 14, .tmp 15, .tmp 16]
theorem c21 : CmpF Tryd.prog 21 a21 := chkF_cmp (F := Tryd.f21) (by kernel_rfl) mixed (by kernel_rfl)
/-- hansard/hansardlaw23.same -/
def a22 : AF where
  nt := 26
  body := (.seq (.region none [
      ⟨(some 4), none, (.op (.mov (.dat (.lit (.bool false)))))⟩])
    (.seq (.seq (.region none [
      ⟨(some 6), none, (.op (.mov (.tmp 0)))⟩,
      ⟨(some 7), none, (.op (.len (.tmp 6)))⟩,
      ⟨(some 8), none, (.op (.mov (.tmp 1)))⟩,
      ⟨(some 9), none, (.op (.len (.tmp 8)))⟩,
      ⟨(some 10), none, (.op (.arith .neq (.tmp 7) (.tmp 9)))⟩])
    (.cond (.tmp 10)
      (.seq (.region none [
        ⟨(some 4), none, (.op (.mov (.dat (.lit (.bool false)))))⟩])
      .ret)
      .skip))
    (.seq (.seq (.region none [
      ⟨(some 5), none, (.op (.mov (.dat (.lit (.int .i64 0)))))⟩])
    (.block 0
      (.loop
        (.seq (.seq (.region none [
          ⟨(some 11), none, (.op (.mov (.tmp 5)))⟩,
          ⟨(some 12), none, (.op (.mov (.tmp 0)))⟩,
          ⟨(some 13), none, (.op (.len (.tmp 12)))⟩,
          ⟨(some 14), none, (.op (.arith .lss (.tmp 11) (.tmp 13)))⟩])
        (.cond (.tmp 14)
          .skip
          (.exit 0)))
        (.seq (.block 1
          (.seq (.region (some [[], [], [0, 1], [0, 1, 2], [], [], [4, 5], [4, 5, 6], [0, 1, 2, 3, 4, 5, 6, 7]]) [
            ⟨(some 17), none, (.op (.mov (.tmp 0)))⟩,
            ⟨(some 18), none, (.op (.mov (.tmp 5)))⟩,
            ⟨(some 19), none, (.op (.index 1 (.tmp 17) (.tmp 18)))⟩,
            ⟨(some 20), none, (.op (.load 1 false (.tmp 19)))⟩,
            ⟨(some 21), none, (.op (.mov (.tmp 1)))⟩,
            ⟨(some 22), none, (.op (.mov (.tmp 5)))⟩,
            ⟨(some 23), none, (.op (.index 1 (.tmp 21) (.tmp 22)))⟩,
            ⟨(some 24), none, (.op (.load 1 false (.tmp 23)))⟩,
            ⟨(some 25), none, (.op (.arith .neq (.tmp 20) (.tmp 24)))⟩])
          (.cond (.tmp 25)
            (.seq (.region none [
              ⟨(some 4), none, (.op (.mov (.dat (.lit (.bool false)))))⟩])
            .ret)
            .skip)))
        (.region none [
          ⟨(some 15), none, (.op (.mov (.tmp 5)))⟩,
          ⟨(some 16), none, (.op (.arith .add (.tmp 15) (.dat (.lit (.int .i64 1)))))⟩,
          ⟨(some 5), none, (.op (.mov (.tmp 16)))⟩]))))))
    (.seq (.region none [
      ⟨(some 4), none, (.op (.mov (.dat (.lit (.bool true)))))⟩])
    .ret))))
  res := [.tmp 4]
theorem c22 : CmpF Tryd.prog 22 a22 := chkF_cmp (F := Tryd.f22) (by kernel_rfl) mixed (by kernel_rfl)
/-- hansard/stream.Check -/
def a23 : AF where
  nt := 5
  body := (.seq (.region none [
      ⟨(some 1), none, (.op (.box true (.tmp 0)))⟩,
      ⟨(some 2), none, (.op (.alloc false [.lit (.int .i64 0)]))⟩])
    (.seq (.sregion [
      ⟨none, none, (.defer (.dat (.fn (.func 52) [] [])) [(.tmp 2)])⟩])
    (.seq (.region none [
      ⟨(some 3), none, (.op (.load 2 true (.tmp 1)))⟩,
      ⟨(some 4), none, (.call (.dat (.fn (.func 53) [] [])) [(.tmp 3)])⟩])
    (.seq (.region none [
      ⟨none, none, (.op (.store 1 (.tmp 2) (.dat (.lit (.int .i64 0)))))⟩])
    .ret))))
  res := [.cell 2 1 false]
theorem c23 : CmpF Tryd.prog 23 a23 := chkF_cmp (F := Tryd.f23) (by kernel_rfl) mixed (by kernel_rfl)
/-- hansard/permits.Allowed -/
def a24 : AF where
  nt := 38
  body := (.seq (.region none [
      ⟨(some 4), none, (.op (.box true (.tmp 0)))⟩,
      ⟨(some 5), none, (.op (.box true (.tmp 1)))⟩,
      ⟨(some 7), none, (.op (.box true (.tmp 3)))⟩,
      ⟨(some 8), none, (.op (.mov (.dat (.lit (.bool false)))))⟩,
      ⟨(some 9), none, (.op (.mov (.dat (.lit (.int .i64 0)))))⟩])
    (.seq (.seq (.region none [
      ⟨(some 12), none, (.op (.load 2 true (.tmp 4)))⟩,
      ⟨(some 13), none, (.op (.load 1 true (.tmp 5)))⟩,
      ⟨(some 14), none, (.op (.mov (.tmp 2)))⟩,
      ⟨(some 15), none, (.call (.dat (.fn (.func 54) [] [])) [(.tmp 12), (.tmp 13), (.tmp 14)])⟩,
      ⟨(some 9), none, (.op (.mov (.tmp 15)))⟩])
    (.seq (.region none [
      ⟨(some 16), none, (.op (.mov (.tmp 9)))⟩,
      ⟨(some 17), none, (.op (.arith .neq (.tmp 16) (.dat (.lit (.int .i64 0)))))⟩])
    (.cond (.tmp 17)
      (.seq (.region none [
        ⟨(some 18), none, (.op (.mov (.tmp 9)))⟩,
        ⟨(some 8), none, (.op (.mov (.dat (.lit (.bool false)))))⟩,
        ⟨(some 9), none, (.op (.mov (.tmp 18)))⟩])
      .ret)
      .skip)))
    (.seq (.seq (.region none [
      ⟨(some 20), none, (.op (.load 2 true (.tmp 4)))⟩,
      ⟨(some 21), none, (.op (.load 4 true (.tmp 7)))⟩,
      ⟨(some 22), none, (.call (.dat (.fn (.func 25) [] [])) [(.tmp 20), (.tmp 21)])⟩,
      ⟨(some 19), none, (.op (.mov (.tmp 22)))⟩,
      ⟨(some 23), none, (.op (.extract (.tmp 19) 0))⟩,
      ⟨(some 24), none, (.op (.extract (.tmp 19) 1))⟩,
      ⟨(some 10), none, (.op (.alloc true [.nil 5, .lit (.int .i64 0)]))⟩,
      ⟨none, none, (.op (.store 2 (.tmp 10) (.tmp 23)))⟩,
      ⟨(some 11), none, (.op (.mov (.tmp 24)))⟩])
    (.seq (.region none [
      ⟨(some 25), none, (.op (.mov (.tmp 11)))⟩,
      ⟨(some 26), none, (.op (.arith .neq (.tmp 25) (.dat (.lit (.int .i64 0)))))⟩])
    (.cond (.tmp 26)
      (.seq (.region none [
        ⟨(some 8), none, (.op (.mov (.dat (.lit (.bool false)))))⟩,
        ⟨(some 9), none, (.op (.mov (.dat (.lit (.int .i64 0)))))⟩])
      .ret)
      .skip)))
    (.seq (.region (some [[], [], [1], [0, 1, 2], [0, 1, 2, 3], [], [], [], [], [0, 7, 8], [0, 1, 2, 3, 4, 5, 6, 7, 8, 9], [0, 1, 2, 3, 4, 5, 6, 7, 8, 9, 10], [0, 1, 2, 3, 4, 5, 6, 7, 8, 9, 10, 11]]) [
      ⟨(some 27), none, (.call (.dat (.fn (.func 55) [] [])) [])⟩,
      ⟨(some 28), none, (.op (.field 0 1 false (.tmp 7)))⟩,
      ⟨(some 29), none, (.op (.load 1 false (.tmp 28)))⟩,
      ⟨(some 30), none, (.op (.ext (.idxV 1 true 4) [(.tmp 27), (.tmp 29)]))⟩,
      ⟨(some 31), none, (.op (.fieldv 0 1 false (.tmp 30)))⟩,
      ⟨(some 32), none, (.op (.load 2 true (.tmp 4)))⟩,
      ⟨(some 33), none, (.op (.load 4 true (.tmp 7)))⟩,
      ⟨(some 34), none, (.op (.load 1 true (.tmp 5)))⟩,
      ⟨(some 35), none, (.op (.mov (.tmp 2)))⟩,
      ⟨(some 36), none, (.call (.dat (.fn (.func 56) [] [])) [(.tmp 34), (.tmp 35)])⟩,
      ⟨(some 37), none, (.call (.tmp 31) [(.tmp 32), (.tmp 33), (.tmp 36)])⟩,
      ⟨(some 8), none, (.op (.mov (.tmp 37)))⟩,
      ⟨(some 9), none, (.op (.mov (.dat (.lit (.int .i64 0)))))⟩])
    .ret))))
  res := [.tmp 8, .tmp 9]
theorem c24 : CmpF Tryd.prog 24 a24 := chkF_cmp (F := Tryd.f24) (by kernel_rfl) mixed (by kernel_rfl)
/-- hansard/stream.Do -/
def a25 : AF where
  nt := 35
  body := (.seq (.region none [
      ⟨(some 2), none, (.op (.box true (.tmp 0)))⟩,
      ⟨(some 3), none, (.op (.box true (.tmp 1)))⟩,
      ⟨(some 4), none, (.op (.alloc true [.nil 5, .lit (.int .i64 0)]))⟩,
      ⟨(some 5), none, (.op (.alloc false [.lit (.int .i64 0)]))⟩])
    (.seq (.sregion [
      ⟨(some 8), none, (.op (.func (.func 57) [] [(.tmp 5), (.tmp 4)]))⟩,
      ⟨none, none, (.defer (.tmp 8) [])⟩])
    (.seq (.sregion [
      ⟨none, none, (.defer (.dat (.fn (.func 52) [] [])) [(.tmp 5)])⟩])
    (.seq (.region none [
      ⟨(some 9), none, (.op (.load 2 true (.tmp 2)))⟩,
      ⟨(some 10), none, (.call (.dat (.fn (.func 53) [] [])) [(.tmp 9)])⟩])
    (.seq (.region (some [[], [], [1], [0, 1, 2], [0, 1, 2, 3], [0, 1, 2, 3, 4], [0, 1, 2, 3, 4], [], [0, 1, 2, 3, 4, 5, 7], [0, 1, 2, 3, 4, 5, 6, 7, 8]]) [
      ⟨(some 12), none, (.call (.dat (.fn (.func 58) [] [])) [])⟩,
      ⟨(some 13), none, (.op (.field 0 1 false (.tmp 3)))⟩,
      ⟨(some 14), none, (.op (.load 1 false (.tmp 13)))⟩,
      ⟨(some 15), none, (.op (.ext (.lookup (.int .i64) true (.agg [.lit (.nilFunc), .lit (.nilFunc)])) [(.tmp 12), (.tmp 14)]))⟩,
      ⟨(some 11), none, (.op (.mov (.tmp 15)))⟩,
      ⟨(some 16), none, (.op (.extract (.tmp 11) 0))⟩,
      ⟨(some 17), none, (.op (.extract (.tmp 11) 1))⟩,
      ⟨(some 6), none, (.op (.alloc true [.lit (.nilFunc), .lit (.nilFunc)]))⟩,
      ⟨none, none, (.op (.store 2 (.tmp 6) (.tmp 16)))⟩,
      ⟨(some 7), none, (.op (.mov (.tmp 17)))⟩])
    (.seq (.region none [
      ⟨(some 18), none, (.op (.mov (.tmp 7)))⟩,
      ⟨(some 19), none, (.op (.mov (.tmp 18)))⟩,
      ⟨(some 20), (some (19, true)), (.op (.field 0 1 false (.tmp 6)))⟩,
      ⟨(some 21), (some (19, true)), (.op (.load 1 false (.tmp 20)))⟩,
      ⟨(some 22), (some (19, true)), (.op (.load 2 true (.tmp 2)))⟩,
      ⟨(some 23), (some (19, true)), (.op (.load 4 true (.tmp 3)))⟩,
      ⟨(some 24), (some (19, true)), (.call (.tmp 21) [(.tmp 22), (.tmp 23)])⟩,
      ⟨(some 25), none, (.op (.pick (.tmp 19) (.tmp 24) (.dat (.lit (.bool false)))))⟩,
      ⟨(some 26), none, (.call (.dat (.fn (.func 59) [] [])) [(.tmp 25), (.dat (.lit (.int .i64 170)))])⟩])
    (.seq (.region none [
      ⟨(some 27), none, (.op (.field 1 1 false (.tmp 6)))⟩,
      ⟨(some 28), none, (.op (.load 1 false (.tmp 27)))⟩,
      ⟨(some 29), none, (.op (.load 2 true (.tmp 2)))⟩,
      ⟨(some 30), none, (.op (.load 4 true (.tmp 3)))⟩,
      ⟨(some 31), none, (.call (.tmp 28) [(.tmp 29), (.tmp 30)])⟩,
      ⟨none, none, (.op (.store 2 (.tmp 4) (.tmp 31)))⟩])
    (.seq (.region none [
      ⟨(some 32), none, (.op (.load 2 true (.tmp 4)))⟩,
      ⟨(some 33), none, (.call (.dat (.fn (.func 53) [] [])) [(.tmp 32)])⟩])
    (.seq (.region none [
      ⟨(some 34), none, (.op (.load 2 true (.tmp 4)))⟩,
      ⟨none, none, (.op (.store 2 (.tmp 4) (.tmp 34)))⟩,
      ⟨none, none, (.op (.store 1 (.tmp 5) (.dat (.lit (.int .i64 0)))))⟩])
    .ret)))))))))
  res := [.cell 4 2 true, .cell 5 1 false]
theorem c25 : CmpF Tryd.prog 25 a25 := chkF_cmp (F := Tryd.f25) (by kernel_rfl) mixed (by kernel_rfl)
/-- hansard/hansardlaw23.kept -/
def a26 : AF where
  nt := 54
  body := (.seq (.region none [
      ⟨(some 8), none, (.op (.mov (.dat (.lit (.bool false)))))⟩])
    (.seq (.seq (.region none [
      ⟨(some 9), none, (.op (.mov (.dat (.lit (.int .i64 0)))))⟩])
    (.block 0
      (.loop
        (.seq (.seq (.region none [
          ⟨(some 16), none, (.op (.mov (.tmp 9)))⟩,
          ⟨(some 17), none, (.op (.mov (.tmp 3)))⟩,
          ⟨(some 18), none, (.op (.arith .leq (.tmp 16) (.tmp 17)))⟩])
        (.cond (.tmp 18)
          .skip
          (.exit 0)))
        (.seq (.block 1
          (.seq (.region none [
            ⟨(some 22), none, (.op (.mov (.tmp 0)))⟩,
            ⟨(some 23), none, (.op (.mov (.tmp 2)))⟩,
            ⟨(some 24), none, (.op (.mov (.tmp 9)))⟩,
            ⟨(some 25), none, (.call (.dat (.fn (.func 14) [] [])) [(.tmp 22), (.tmp 23), (.tmp 24)])⟩,
            ⟨(some 21), none, (.op (.mov (.tmp 25)))⟩,
            ⟨(some 26), none, (.op (.extract (.tmp 21) 0))⟩,
            ⟨(some 27), none, (.op (.extract (.tmp 21) 1))⟩,
            ⟨(some 28), none, (.op (.extract (.tmp 21) 2))⟩,
            ⟨(some 10), none, (.op (.mov (.tmp 26)))⟩,
            ⟨(some 11), none, (.op (.mov (.tmp 27)))⟩,
            ⟨(some 12), none, (.op (.mov (.tmp 28)))⟩])
          (.seq (.region none [
            ⟨(some 30), none, (.op (.mov (.tmp 1)))⟩,
            ⟨(some 31), none, (.op (.mov (.tmp 2)))⟩,
            ⟨(some 32), none, (.op (.mov (.tmp 9)))⟩,
            ⟨(some 33), none, (.call (.dat (.fn (.func 14) [] [])) [(.tmp 30), (.tmp 31), (.tmp 32)])⟩,
            ⟨(some 29), none, (.op (.mov (.tmp 33)))⟩,
            ⟨(some 34), none, (.op (.extract (.tmp 29) 0))⟩,
            ⟨(some 35), none, (.op (.extract (.tmp 29) 1))⟩,
            ⟨(some 36), none, (.op (.extract (.tmp 29) 2))⟩,
            ⟨(some 13), none, (.op (.mov (.tmp 34)))⟩,
            ⟨(some 14), none, (.op (.mov (.tmp 35)))⟩,
            ⟨(some 15), none, (.op (.mov (.tmp 36)))⟩])
          (.seq (.region none [
            ⟨(some 37), none, (.op (.mov (.tmp 12)))⟩,
            ⟨(some 38), none, (.op (.arith .neq (.tmp 37) (.dat (.lit (.int .i64 0)))))⟩,
            ⟨(some 39), none, (.op (.mov (.tmp 38)))⟩,
            ⟨(some 40), (some (39, false)), (.op (.mov (.tmp 15)))⟩,
            ⟨(some 41), (some (39, false)), (.op (.arith .neq (.tmp 40) (.dat (.lit (.int .i64 0)))))⟩,
            ⟨(some 42), none, (.op (.pick (.tmp 39) (.dat (.lit (.bool true))) (.tmp 41)))⟩,
            ⟨(some 43), none, (.op (.mov (.tmp 42)))⟩,
            ⟨(some 44), (some (43, false)), (.op (.mov (.tmp 11)))⟩,
            ⟨(some 45), (some (43, false)), (.op (.mov (.tmp 14)))⟩,
            ⟨(some 46), (some (43, false)), (.op (.arith .neq (.tmp 44) (.tmp 45)))⟩,
            ⟨(some 47), none, (.op (.pick (.tmp 43) (.dat (.lit (.bool true))) (.tmp 46)))⟩,
            ⟨(some 48), none, (.op (.mov (.tmp 47)))⟩,
            ⟨(some 49), (some (48, false)), (.op (.mov (.tmp 10)))⟩,
            ⟨(some 50), (some (48, false)), (.op (.mov (.tmp 13)))⟩,
            ⟨(some 51), (some (48, false)), (.call (.dat (.fn (.func 18) [] [])) [(.tmp 49), (.tmp 50)])⟩,
            ⟨(some 52), (some (48, false)), (.op (.not (.tmp 51)))⟩,
            ⟨(some 53), none, (.op (.pick (.tmp 48) (.dat (.lit (.bool true))) (.tmp 52)))⟩])
          (.cond (.tmp 53)
            (.seq (.region none [
              ⟨(some 8), none, (.op (.mov (.dat (.lit (.bool false)))))⟩])
            .ret)
            .skip)))))
        (.region none [
          ⟨(some 19), none, (.op (.mov (.tmp 9)))⟩,
          ⟨(some 20), none, (.op (.arith .add (.tmp 19) (.dat (.lit (.int .i64 1)))))⟩,
          ⟨(some 9), none, (.op (.mov (.tmp 20)))⟩]))))))
    (.seq (.region none [
      ⟨(some 8), none, (.op (.mov (.dat (.lit (.bool true)))))⟩])
    .ret)))
  res := [.tmp 8]
theorem c26 : CmpF Tryd.prog 26 a26 := chkF_cmp (F := Tryd.f26) (by kernel_rfl) mixed (by kernel_rfl)
/-- hansard/hansardlaw23.word -/
def a42 : AF where
  nt := 7
  body := (.seq (.region none [
      ⟨(some 2), none, (.op (.alloc true [.lit (.string ⟨#[]⟩), .lit (.int .i64 0), .lit (.int .i64 0), .lit (.int .i64 0), .nil 1]))⟩])
    (.seq (.region none [
      ⟨(some 3), none, (.op (.mov (.tmp 0)))⟩,
      ⟨(some 4), none, (.op (.mov (.tmp 0)))⟩,
      ⟨(some 5), none, (.op (.arith .add (.tmp 4) (.dat (.lit (.int .i64 10)))))⟩,
      ⟨(some 6), none, (.op (.build [.lit (.string ⟨#[]⟩), .lit (.int .i64 0), .lit (.int .i64 0), .lit (.int .i64 0), .nil 1] [(0, 1, (.dat (.lit (.string ⟨#[119]⟩)))), (1, 1, (.tmp 3)), (2, 1, (.tmp 5))]))⟩,
      ⟨none, none, (.op (.store 5 (.tmp 2) (.tmp 6)))⟩])
    .ret))
  res := [.cell 2 5 true]
theorem c42 : CmpF Tryd.prog 42 a42 := chkF_cmp (F := Tryd.f42) (by kernel_rfl) mixed (by kernel_rfl)
/-- hansard/settled.right -/
def a43 : AF where
  nt := 22
  body := (.seq (.region none [
      ⟨(some 4), none, (.op (.mov (.dat (.lit (.bool false)))))⟩])
    (.seq (.region none [
      ⟨(some 5), none, (.op (.mov (.tmp 0)))⟩,
      ⟨(some 6), none, (.op (.arith .leq (.dat (.lit (.int .i64 1))) (.tmp 5)))⟩,
      ⟨(some 7), none, (.op (.mov (.tmp 6)))⟩,
      ⟨(some 8), (some (7, true)), (.op (.mov (.tmp 0)))⟩,
      ⟨(some 9), (some (7, true)), (.op (.arith .leq (.tmp 8) (.dat (.lit (.int .i64 1073741824)))))⟩,
      ⟨(some 10), none, (.op (.pick (.tmp 7) (.tmp 9) (.dat (.lit (.bool false)))))⟩,
      ⟨(some 11), none, (.op (.mov (.tmp 10)))⟩,
      ⟨(some 12), (some (11, true)), (.op (.mov (.tmp 1)))⟩,
      ⟨(some 13), (some (11, true)), (.op (.arith .leq (.dat (.lit (.int .i64 0))) (.tmp 12)))⟩,
      ⟨(some 14), none, (.op (.pick (.tmp 11) (.tmp 13) (.dat (.lit (.bool false)))))⟩,
      ⟨(some 15), none, (.op (.mov (.tmp 14)))⟩,
      ⟨(some 16), (some (15, true)), (.op (.mov (.tmp 1)))⟩,
      ⟨(some 17), (some (15, true)), (.op (.mov (.tmp 0)))⟩,
      ⟨(some 18), (some (15, true)), (.op (.arith .quo (.dat (.lit (.int .i64 1099511627776))) (.tmp 17)))⟩,
      ⟨(some 19), (some (15, true)), (.op (.arith .sub (.tmp 18) (.dat (.lit (.int .i64 1)))))⟩,
      ⟨(some 20), (some (15, true)), (.op (.arith .leq (.tmp 16) (.tmp 19)))⟩,
      ⟨(some 21), none, (.op (.pick (.tmp 15) (.tmp 20) (.dat (.lit (.bool false)))))⟩,
      ⟨(some 4), none, (.op (.mov (.tmp 21)))⟩])
    .ret))
  res := [.tmp 4]
theorem c43 : CmpF Tryd.prog 43 a43 := chkF_cmp (F := Tryd.f43) (by kernel_rfl) mixed (by kernel_rfl)
/-- hansard/settled.since -/
def a44 : AF where
  nt := 8
  body := (.seq (.region none [
      ⟨(some 3), none, (.op (.box false (.tmp 1)))⟩,
      ⟨(some 4), none, (.op (.mov (.dat (.lit (.int .i64 0)))))⟩])
    (.seq (.region none [
      ⟨(some 5), none, (.op (.mov (.tmp 0)))⟩,
      ⟨(some 6), none, (.op (.func (.func 77) [] [(.tmp 3)]))⟩,
      ⟨(some 7), none, (.call (.dat (.fn (.func 76) [] [])) [(.tmp 5), (.tmp 6)])⟩,
      ⟨(some 4), none, (.op (.mov (.tmp 7)))⟩])
    .ret))
  res := [.tmp 4]
theorem c44 : CmpF Tryd.prog 44 a44 := chkF_cmp (F := Tryd.f44) (by kernel_rfl) mixed (by kernel_rfl)
/-- hansard/hansardref17.Check -/
def a45 : AF where
  nt := 24
  body := (.seq (.region none [
      ⟨(some 1), none, (.op (.box true (.tmp 0)))⟩,
      ⟨(some 2), none, (.op (.mov (.dat (.lit (.int .i64 0)))))⟩])
    (.seq (.seq (.region none [
      ⟨(some 3), none, (.op (.field 0 1 false (.tmp 1)))⟩,
      ⟨(some 4), none, (.op (.load 1 false (.tmp 3)))⟩,
      ⟨(some 5), none, (.op (.len (.tmp 4)))⟩,
      ⟨(some 6), none, (.op (.arith .gtr (.tmp 5) (.dat (.lit (.int .i64 4096)))))⟩])
    (.cond (.tmp 6)
      (.seq (.region none [
        ⟨(some 2), none, (.op (.mov (.dat (.lit (.int .i64 2)))))⟩])
      .ret)
      .skip))
    (.seq (.seq (.region none [
      ⟨(some 7), none, (.op (.field 1 1 false (.tmp 1)))⟩,
      ⟨(some 8), none, (.op (.load 1 false (.tmp 7)))⟩,
      ⟨(some 9), none, (.op (.arith .lss (.tmp 8) (.dat (.lit (.int .i64 0)))))⟩,
      ⟨(some 10), none, (.op (.mov (.tmp 9)))⟩,
      ⟨(some 11), (some (10, false)), (.op (.field 1 1 false (.tmp 1)))⟩,
      ⟨(some 12), (some (10, false)), (.op (.load 1 false (.tmp 11)))⟩,
      ⟨(some 13), (some (10, false)), (.op (.field 0 1 false (.tmp 1)))⟩,
      ⟨(some 14), (some (10, false)), (.op (.load 1 false (.tmp 13)))⟩,
      ⟨(some 15), (some (10, false)), (.op (.len (.tmp 14)))⟩,
      ⟨(some 16), (some (10, false)), (.op (.arith .gtr (.tmp 12) (.tmp 15)))⟩,
      ⟨(some 17), none, (.op (.pick (.tmp 10) (.dat (.lit (.bool true))) (.tmp 16)))⟩,
      ⟨(some 18), none, (.op (.mov (.tmp 17)))⟩,
      ⟨(some 19), (some (18, false)), (.op (.field 0 1 false (.tmp 1)))⟩,
      ⟨(some 20), (some (18, false)), (.op (.load 1 false (.tmp 19)))⟩,
      ⟨(some 21), (some (18, false)), (.call (.dat (.fn (.func 78) [] [])) [(.tmp 20)])⟩,
      ⟨(some 22), (some (18, false)), (.op (.not (.tmp 21)))⟩,
      ⟨(some 23), none, (.op (.pick (.tmp 18) (.dat (.lit (.bool true))) (.tmp 22)))⟩])
    (.cond (.tmp 23)
      (.seq (.region none [
        ⟨(some 2), none, (.op (.mov (.dat (.lit (.int .i64 170)))))⟩])
      .ret)
      .skip))
    (.seq (.region none [
      ⟨(some 2), none, (.op (.mov (.dat (.lit (.int .i64 0)))))⟩])
    .ret))))
  res := [.tmp 2]
theorem c45 : CmpF Tryd.prog 45 a45 := chkF_cmp (F := Tryd.f45) (by kernel_rfl) mixed (by kernel_rfl)
/-- hansard/hansardref23.Right -/
def a46 : AF where
  nt := 21
  body := (.seq (.region none [
      ⟨(some 4), none, (.op (.mov (.dat (.lit (.bool false)))))⟩])
    (.seq (.region none [
      ⟨(some 5), none, (.op (.mov (.tmp 0)))⟩,
      ⟨(some 6), none, (.op (.arith .geq (.tmp 5) (.dat (.lit (.int .i64 1)))))⟩,
      ⟨(some 7), none, (.op (.mov (.tmp 6)))⟩,
      ⟨(some 8), (some (7, true)), (.op (.mov (.tmp 0)))⟩,
      ⟨(some 9), (some (7, true)), (.op (.arith .leq (.tmp 8) (.dat (.lit (.int .i64 1073741824)))))⟩,
      ⟨(some 10), none, (.op (.pick (.tmp 7) (.tmp 9) (.dat (.lit (.bool false)))))⟩,
      ⟨(some 11), none, (.op (.mov (.tmp 10)))⟩,
      ⟨(some 12), (some (11, true)), (.op (.mov (.tmp 1)))⟩,
      ⟨(some 13), (some (11, true)), (.op (.arith .geq (.tmp 12) (.dat (.lit (.int .i64 0)))))⟩,
      ⟨(some 14), none, (.op (.pick (.tmp 11) (.tmp 13) (.dat (.lit (.bool false)))))⟩,
      ⟨(some 15), none, (.op (.mov (.tmp 14)))⟩,
      ⟨(some 16), (some (15, true)), (.op (.mov (.tmp 1)))⟩,
      ⟨(some 17), (some (15, true)), (.op (.mov (.tmp 0)))⟩,
      ⟨(some 18), (some (15, true)), (.op (.arith .quo (.dat (.lit (.int .i64 1099511627776))) (.tmp 17)))⟩,
      ⟨(some 19), (some (15, true)), (.op (.arith .lss (.tmp 16) (.tmp 18)))⟩,
      ⟨(some 20), none, (.op (.pick (.tmp 15) (.tmp 19) (.dat (.lit (.bool false)))))⟩,
      ⟨(some 4), none, (.op (.mov (.tmp 20)))⟩])
    .ret))
  res := [.tmp 4]
theorem c46 : CmpF Tryd.prog 46 a46 := chkF_cmp (F := Tryd.f46) (by kernel_rfl) mixed (by kernel_rfl)
/-- hansard/permits.Stable -/
def a47 : AF where
  nt := 37
  body := (.seq (.region none [
      ⟨(some 3), none, (.op (.box true (.tmp 0)))⟩,
      ⟨(some 4), none, (.op (.box true (.tmp 1)))⟩,
      ⟨(some 6), none, (.op (.alloc false [.lit (.int .i64 0)]))⟩,
      ⟨(some 7), none, (.op (.alloc false [.lit (.int .i64 0)]))⟩])
    (.seq (.seq (.region none [
      ⟨(some 11), none, (.op (.load 2 true (.tmp 3)))⟩,
      ⟨(some 12), none, (.op (.load 1 true (.tmp 4)))⟩,
      ⟨(some 13), none, (.op (.mov (.tmp 2)))⟩,
      ⟨(some 14), none, (.call (.dat (.fn (.func 54) [] [])) [(.tmp 11), (.tmp 12), (.tmp 13)])⟩,
      ⟨none, none, (.op (.store 1 (.tmp 7) (.tmp 14)))⟩])
    (.seq (.region none [
      ⟨(some 15), none, (.op (.load 1 false (.tmp 7)))⟩,
      ⟨(some 16), none, (.op (.arith .neq (.tmp 15) (.dat (.lit (.int .i64 0)))))⟩])
    (.cond (.tmp 16)
      (.seq (.region (some [[], [], [0, 1]]) [
        ⟨(some 17), none, (.op (.load 1 false (.tmp 7)))⟩,
        ⟨none, none, (.op (.store 1 (.tmp 6) (.dat (.lit (.int .i64 0)))))⟩,
        ⟨none, none, (.op (.store 1 (.tmp 7) (.tmp 17)))⟩])
      .ret)
      .skip)))
    (.seq (.region none [
      ⟨(some 18), none, (.op (.load 1 true (.tmp 4)))⟩,
      ⟨(some 19), none, (.op (.mov (.tmp 2)))⟩,
      ⟨(some 20), none, (.call (.dat (.fn (.func 56) [] [])) [(.tmp 18), (.tmp 19)])⟩,
      ⟨(some 8), none, (.op (.alloc false [.lit (.nilFunc)]))⟩,
      ⟨none, none, (.op (.store 1 (.tmp 8) (.tmp 20)))⟩])
    (.seq (.seq (.region none [
      ⟨(some 21), none, (.op (.field 0 1 false (.tmp 3)))⟩,
      ⟨(some 22), none, (.op (.load 1 false (.tmp 21)))⟩,
      ⟨(some 23), none, (.call (.dat (.fn (.func 79) [] [])) [(.tmp 22)])⟩])
    (.block 0
      (.range (.tmp 23) [24, 25]
        (.seq (.region none [
          ⟨(some 9), none, (.op (.mov (.tmp 24)))⟩])
        (.region none [
          ⟨(some 10), none, (.op (.alloc true [.lit (.string ⟨#[]⟩), .lit (.int .i64 0), .lit (.int .i64 0), .lit (.int .i64 0), .nil 1]))⟩,
          ⟨none, none, (.op (.store 5 (.tmp 10) (.tmp 25)))⟩]))
        (.block 1
          (.seq (.region none [
            ⟨(some 26), none, (.op (.mov (.tmp 9)))⟩,
            ⟨(some 27), none, (.op (.field 1 1 false (.tmp 3)))⟩,
            ⟨(some 28), none, (.op (.load 1 false (.tmp 27)))⟩,
            ⟨(some 29), none, (.op (.arith .lss (.tmp 26) (.tmp 28)))⟩,
            ⟨(some 30), none, (.op (.mov (.tmp 29)))⟩,
            ⟨(some 31), (some (30, false)), (.op (.load 1 false (.tmp 8)))⟩,
            ⟨(some 32), (some (30, false)), (.op (.load 5 true (.tmp 10)))⟩,
            ⟨(some 33), (some (30, false)), (.call (.tmp 31) [(.tmp 32)])⟩,
            ⟨(some 34), none, (.op (.pick (.tmp 30) (.dat (.lit (.bool true))) (.tmp 33)))⟩])
          (.cond (.tmp 34)
            (.seq (.region none [
              ⟨(some 35), none, (.op (.mov (.tmp 9)))⟩,
              ⟨(some 36), none, (.op (.arith .add (.tmp 35) (.dat (.lit (.int .i64 1)))))⟩,
              ⟨none, none, (.op (.store 1 (.tmp 6) (.tmp 36)))⟩,
              ⟨none, none, (.op (.store 1 (.tmp 7) (.dat (.lit (.int .i64 0)))))⟩])
            .ret)
            .skip))))))
    (.seq (.region none [
      ⟨none, none, (.op (.store 1 (.tmp 6) (.dat (.lit (.int .i64 0)))))⟩,
      ⟨none, none, (.op (.store 1 (.tmp 7) (.dat (.lit (.int .i64 0)))))⟩])
    .ret)))))
  res := [.cell 6 1 false, .cell 7 1 false]
theorem c47 : CmpF Tryd.prog 47 a47 := chkF_cmp (F := Tryd.f47) (by kernel_rfl) mixed (by kernel_rfl)
/-- hansard/hansardref19.Stable -/
def a48 : AF where
  nt := 40
  body := (.seq (.region none [
      ⟨(some 3), none, (.op (.box true (.tmp 0)))⟩,
      ⟨(some 4), none, (.op (.box true (.tmp 1)))⟩,
      ⟨(some 6), none, (.op (.mov (.dat (.lit (.int .i64 0)))))⟩,
      ⟨(some 7), none, (.op (.mov (.dat (.lit (.int .i64 0)))))⟩])
    (.seq (.region none [
      ⟨(some 11), none, (.op (.load 2 true (.tmp 3)))⟩,
      ⟨(some 12), none, (.op (.load 1 true (.tmp 4)))⟩,
      ⟨(some 13), none, (.op (.mov (.tmp 2)))⟩,
      ⟨(some 14), none, (.call (.dat (.fn (.func 80) [] [])) [(.tmp 11), (.tmp 12), (.tmp 13)])⟩,
      ⟨(some 8), none, (.op (.mov (.tmp 14)))⟩])
    (.seq (.seq (.region none [
      ⟨(some 15), none, (.op (.mov (.tmp 8)))⟩,
      ⟨(some 16), none, (.op (.arith .neq (.tmp 15) (.dat (.lit (.int .i64 0)))))⟩])
    (.cond (.tmp 16)
      (.seq (.region none [
        ⟨(some 17), none, (.op (.mov (.tmp 8)))⟩,
        ⟨(some 6), none, (.op (.mov (.dat (.lit (.int .i64 0)))))⟩,
        ⟨(some 7), none, (.op (.mov (.tmp 17)))⟩])
      .ret)
      .skip))
    (.seq (.region none [
      ⟨(some 18), none, (.op (.field 1 1 false (.tmp 3)))⟩,
      ⟨(some 19), none, (.op (.load 1 false (.tmp 18)))⟩,
      ⟨(some 9), none, (.op (.mov (.tmp 19)))⟩])
    (.seq (.seq (.region none [
      ⟨(some 10), none, (.op (.mov (.dat (.lit (.int .i64 0)))))⟩])
    (.block 0
      (.loop
        (.seq (.seq (.region none [
          ⟨(some 20), none, (.op (.mov (.tmp 10)))⟩,
          ⟨(some 21), none, (.op (.field 0 1 false (.tmp 3)))⟩,
          ⟨(some 22), none, (.op (.load 1 false (.tmp 21)))⟩,
          ⟨(some 23), none, (.op (.len (.tmp 22)))⟩,
          ⟨(some 24), none, (.op (.arith .lss (.tmp 20) (.tmp 23)))⟩])
        (.cond (.tmp 24)
          .skip
          (.exit 0)))
        (.seq (.block 1
          (.seq (.region (some [[], [0], [], [0, 1, 2], [0, 1, 2, 3], [], [], [0, 1, 2, 3, 4, 5, 6]]) [
            ⟨(some 27), none, (.op (.field 0 1 false (.tmp 3)))⟩,
            ⟨(some 28), none, (.op (.load 1 false (.tmp 27)))⟩,
            ⟨(some 29), none, (.op (.mov (.tmp 10)))⟩,
            ⟨(some 30), none, (.op (.index 5 (.tmp 28) (.tmp 29)))⟩,
            ⟨(some 31), none, (.op (.load 5 true (.tmp 30)))⟩,
            ⟨(some 32), none, (.op (.load 1 true (.tmp 4)))⟩,
            ⟨(some 33), none, (.op (.mov (.tmp 2)))⟩,
            ⟨(some 34), none, (.call (.dat (.fn (.func 81) [] [])) [(.tmp 31), (.tmp 32), (.tmp 33)])⟩])
          (.cond (.tmp 34)
            (.region none [
              ⟨(some 35), none, (.op (.mov (.tmp 9)))⟩,
              ⟨(some 36), none, (.op (.mov (.tmp 10)))⟩,
              ⟨(some 37), none, (.op (.arith .add (.tmp 36) (.dat (.lit (.int .i64 1)))))⟩,
              ⟨(some 38), none, (.op (.minmax true (.tmp 35) (.tmp 37)))⟩,
              ⟨(some 9), none, (.op (.mov (.tmp 38)))⟩])
            .skip)))
        (.region none [
          ⟨(some 25), none, (.op (.mov (.tmp 10)))⟩,
          ⟨(some 26), none, (.op (.arith .add (.tmp 25) (.dat (.lit (.int .i64 1)))))⟩,
          ⟨(some 10), none, (.op (.mov (.tmp 26)))⟩]))))))
    (.seq (.region none [
      ⟨(some 39), none, (.op (.mov (.tmp 9)))⟩,
      ⟨(some 6), none, (.op (.mov (.tmp 39)))⟩,
      ⟨(some 7), none, (.op (.mov (.dat (.lit (.int .i64 0)))))⟩])
    .ret))))))
  res := [.tmp 6, .tmp 7]
theorem c48 : CmpF Tryd.prog 48 a48 := chkF_cmp (F := Tryd.f48) (by kernel_rfl) mixed (by kernel_rfl)
/-- hansard/hansardref19.SameText -/
def a49 : AF where
  nt := 26
  body := (.seq (.region none [
      ⟨(some 4), none, (.op (.mov (.dat (.lit (.bool false)))))⟩])
    (.seq (.seq (.region none [
      ⟨(some 6), none, (.op (.mov (.tmp 0)))⟩,
      ⟨(some 7), none, (.op (.len (.tmp 6)))⟩,
      ⟨(some 8), none, (.op (.mov (.tmp 1)))⟩,
      ⟨(some 9), none, (.op (.len (.tmp 8)))⟩,
      ⟨(some 10), none, (.op (.arith .neq (.tmp 7) (.tmp 9)))⟩])
    (.cond (.tmp 10)
      (.seq (.region none [
        ⟨(some 4), none, (.op (.mov (.dat (.lit (.bool false)))))⟩])
      .ret)
      .skip))
    (.seq (.seq (.region none [
      ⟨(some 5), none, (.op (.mov (.dat (.lit (.int .i64 0)))))⟩])
    (.block 0
      (.loop
        (.seq (.seq (.region none [
          ⟨(some 11), none, (.op (.mov (.tmp 5)))⟩,
          ⟨(some 12), none, (.op (.mov (.tmp 0)))⟩,
          ⟨(some 13), none, (.op (.len (.tmp 12)))⟩,
          ⟨(some 14), none, (.op (.arith .lss (.tmp 11) (.tmp 13)))⟩])
        (.cond (.tmp 14)
          .skip
          (.exit 0)))
        (.seq (.block 1
          (.seq (.region (some [[], [], [0, 1], [0, 1, 2], [], [], [4, 5], [4, 5, 6], [0, 1, 2, 3, 4, 5, 6, 7]]) [
            ⟨(some 17), none, (.op (.mov (.tmp 0)))⟩,
            ⟨(some 18), none, (.op (.mov (.tmp 5)))⟩,
            ⟨(some 19), none, (.op (.index 1 (.tmp 17) (.tmp 18)))⟩,
            ⟨(some 20), none, (.op (.load 1 false (.tmp 19)))⟩,
            ⟨(some 21), none, (.op (.mov (.tmp 1)))⟩,
            ⟨(some 22), none, (.op (.mov (.tmp 5)))⟩,
            ⟨(some 23), none, (.op (.index 1 (.tmp 21) (.tmp 22)))⟩,
            ⟨(some 24), none, (.op (.load 1 false (.tmp 23)))⟩,
            ⟨(some 25), none, (.op (.arith .neq (.tmp 20) (.tmp 24)))⟩])
          (.cond (.tmp 25)
            (.seq (.region none [
              ⟨(some 4), none, (.op (.mov (.dat (.lit (.bool false)))))⟩])
            .ret)
            .skip)))
        (.region none [
          ⟨(some 15), none, (.op (.mov (.tmp 5)))⟩,
          ⟨(some 16), none, (.op (.arith .add (.tmp 15) (.dat (.lit (.int .i64 1)))))⟩,
          ⟨(some 5), none, (.op (.mov (.tmp 16)))⟩]))))))
    (.seq (.region none [
      ⟨(some 4), none, (.op (.mov (.dat (.lit (.bool true)))))⟩])
    .ret))))
  res := [.tmp 4]
theorem c49 : CmpF Tryd.prog 49 a49 := chkF_cmp (F := Tryd.f49) (by kernel_rfl) mixed (by kernel_rfl)
/-- hansard/settled.State$1 -/
def a50 : AF where
  nt := 17
  body := (.seq (.region none [
      ⟨(some 5), none, (.op (.mov (.dat (.lit (.int .i64 0)))))⟩,
      ⟨(some 6), none, (.op (.mov (.dat (.lit (.bool false)))))⟩,
      ⟨(some 7), none, (.op (.mov (.dat (.lit (.int .i64 0)))))⟩])
    (.seq (.region none [
      ⟨(some 8), none, (.op (.load 2 true (.tmp 0)))⟩,
      ⟨(some 9), none, (.op (.load 1 true (.tmp 1)))⟩,
      ⟨(some 10), none, (.op (.load 1 false (.tmp 2)))⟩,
      ⟨(some 11), none, (.op (.load 1 false (.tmp 3)))⟩,
      ⟨(some 12), none, (.op (.load 1 false (.tmp 4)))⟩,
      ⟨(some 13), none, (.call (.dat (.fn (.func 16) [] [])) [(.tmp 8), (.tmp 9), (.tmp 10), (.tmp 11), (.tmp 12)])⟩,
      ⟨(some 14), none, (.op (.extract (.tmp 13) 0))⟩,
      ⟨(some 15), none, (.op (.extract (.tmp 13) 1))⟩,
      ⟨(some 16), none, (.op (.extract (.tmp 13) 2))⟩,
      ⟨(some 5), none, (.op (.mov (.tmp 14)))⟩,
      ⟨(some 6), none, (.op (.mov (.tmp 15)))⟩,
      ⟨(some 7), none, (.op (.mov (.tmp 16)))⟩])
    .ret))
  res := [.tmp 5, .tmp 6, .tmp 7]
theorem c50 : CmpF Tryd.prog 50 a50 := chkF_cmp (F := Tryd.f50) (by kernel_rfl) mixed (by kernel_rfl)
/-- hansard/settled.reasons -/
def a51 : AF where
  nt := 4
  body := (.seq (.region none [
      ⟨(some 1), none, (.op (.ext .boxI [(.tmp 0)]))⟩,
      ⟨(some 2), none, (.op (.mov (.dat (.lit (.nilFunc)))))⟩])
    (.seq (.region none [
      ⟨(some 3), none, (.op (.func (.func 82) [] [(.tmp 1)]))⟩,
      ⟨(some 2), none, (.op (.mov (.tmp 3)))⟩])
    .ret))
  res := [.tmp 2]
theorem c51 : CmpF Tryd.prog 51 a51 := chkF_cmp (F := Tryd.f51) (by kernel_rfl) mixed (by kernel_rfl)
/-- hansard/stream.caught -/
def a52 : AR where
  nt := 19
  ta := 5
  tb := 2
  rest := (.seq (.region none [
      ⟨(some 6), none, (.op (.mov (.tmp 2)))⟩,
      ⟨(some 7), none, (.op (.ext (.isNil true) [(.tmp 6)]))⟩])
    (.cond (.tmp 7)
      (.seq (.region none [
        ⟨(some 9), none, (.op (.mov (.tmp 2)))⟩,
        ⟨(some 10), none, (.op (.ext (.tassert 28 (.lit (.int .i64 0))) [(.tmp 9)]))⟩,
        ⟨(some 8), none, (.op (.mov (.tmp 10)))⟩,
        ⟨(some 11), none, (.op (.extract (.tmp 8) 0))⟩,
        ⟨(some 12), none, (.op (.extract (.tmp 8) 1))⟩,
        ⟨(some 3), none, (.op (.mov (.tmp 11)))⟩,
        ⟨(some 4), none, (.op (.mov (.tmp 12)))⟩])
      (.seq (.seq (.region none [
        ⟨(some 13), none, (.op (.mov (.tmp 4)))⟩,
        ⟨(some 14), none, (.op (.not (.tmp 13)))⟩])
      (.cond (.tmp 14)
        (.sregion [
          ⟨(some 15), none, (.op (.mov (.tmp 2)))⟩,
          ⟨none, none, (.panic (.tmp 15))⟩])
        .skip))
      (.region none [
        ⟨(some 16), none, (.op (.mov (.tmp 0)))⟩,
        ⟨(some 17), none, (.op (.mov (.tmp 3)))⟩,
        ⟨(some 18), none, (.op (.ext .nilChk [(.tmp 16)]))⟩,
        ⟨none, none, (.op (.store 1 (.tmp 18) (.tmp 17)))⟩])))
      .skip))
  res := []
theorem c52 : CmpRF Tryd.prog 52 a52 := chkRF_cmp (F := Tryd.f52) (by kernel_rfl) mixed (by kernel_rfl)
/-- hansard/stream.check -/
def a53 : AF where
  nt := 41
  body := (.seq (.region none [
      ⟨(some 1), none, (.op (.box true (.tmp 0)))⟩])
    (.seq (.region none [
      ⟨(some 5), none, (.op (.field 0 1 false (.tmp 1)))⟩,
      ⟨(some 6), none, (.op (.load 1 false (.tmp 5)))⟩,
      ⟨(some 7), none, (.op (.len (.tmp 6)))⟩,
      ⟨(some 8), none, (.op (.arith .leq (.tmp 7) (.dat (.lit (.int .i64 4096)))))⟩,
      ⟨(some 9), none, (.call (.dat (.fn (.func 59) [] [])) [(.tmp 8), (.dat (.lit (.int .i64 2)))])⟩])
    (.seq (.region none [
      ⟨(some 10), none, (.op (.field 1 1 false (.tmp 1)))⟩,
      ⟨(some 11), none, (.op (.load 1 false (.tmp 10)))⟩,
      ⟨(some 12), none, (.op (.arith .geq (.tmp 11) (.dat (.lit (.int .i64 0)))))⟩,
      ⟨(some 13), none, (.op (.mov (.tmp 12)))⟩,
      ⟨(some 14), (some (13, true)), (.op (.field 1 1 false (.tmp 1)))⟩,
      ⟨(some 15), (some (13, true)), (.op (.load 1 false (.tmp 14)))⟩,
      ⟨(some 16), (some (13, true)), (.op (.field 0 1 false (.tmp 1)))⟩,
      ⟨(some 17), (some (13, true)), (.op (.load 1 false (.tmp 16)))⟩,
      ⟨(some 18), (some (13, true)), (.op (.len (.tmp 17)))⟩,
      ⟨(some 19), (some (13, true)), (.op (.arith .leq (.tmp 15) (.tmp 18)))⟩,
      ⟨(some 20), none, (.op (.pick (.tmp 13) (.tmp 19) (.dat (.lit (.bool false)))))⟩,
      ⟨(some 21), none, (.call (.dat (.fn (.func 59) [] [])) [(.tmp 20), (.dat (.lit (.int .i64 170)))])⟩])
    (.seq (.region none [
      ⟨(some 2), none, (.op (.mov (.dat (.lit (.int .i64 0)))))⟩])
    (.seq (.region none [
      ⟨(some 22), none, (.op (.field 0 1 false (.tmp 1)))⟩,
      ⟨(some 23), none, (.op (.load 1 false (.tmp 22)))⟩,
      ⟨(some 24), none, (.op (.len (.tmp 23)))⟩,
      ⟨(some 25), none, (.op (.mov (.dat (.lit (.int .i64 0)))))⟩])
    (.block 0
      (.loop
        (.seq (.region none [
          ⟨(some 26), none, (.op (.arith .lss (.tmp 25) (.tmp 24)))⟩])
        (.seq (.cond (.tmp 26)
          .skip
          (.exit 0))
        (.seq (.block 1
          (.seq (.region none [
            ⟨(some 27), none, (.op (.index 5 (.tmp 23) (.tmp 25)))⟩,
            ⟨(some 28), none, (.op (.load 5 true (.tmp 27)))⟩,
            ⟨(some 4), none, (.op (.alloc true [.lit (.string ⟨#[]⟩), .lit (.int .i64 0), .lit (.int .i64 0), .lit (.int .i64 0), .nil 1]))⟩,
            ⟨none, none, (.op (.store 5 (.tmp 4) (.tmp 28)))⟩])
          (.seq (.region none [
            ⟨(some 29), none, (.op (.load 5 true (.tmp 4)))⟩,
            ⟨(some 30), none, (.call (.dat (.fn (.func 83) [] [])) [(.tmp 29)])⟩,
            ⟨(some 31), none, (.op (.mov (.tmp 30)))⟩,
            ⟨(some 32), (some (31, true)), (.op (.field 1 1 false (.tmp 4)))⟩,
            ⟨(some 33), (some (31, true)), (.op (.load 1 false (.tmp 32)))⟩,
            ⟨(some 34), (some (31, true)), (.op (.mov (.tmp 2)))⟩,
            ⟨(some 35), (some (31, true)), (.op (.arith .geq (.tmp 33) (.tmp 34)))⟩,
            ⟨(some 36), none, (.op (.pick (.tmp 31) (.tmp 35) (.dat (.lit (.bool false)))))⟩,
            ⟨(some 37), none, (.call (.dat (.fn (.func 59) [] [])) [(.tmp 36), (.dat (.lit (.int .i64 170)))])⟩])
          (.region none [
            ⟨(some 38), none, (.op (.field 1 1 false (.tmp 4)))⟩,
            ⟨(some 39), none, (.op (.load 1 false (.tmp 38)))⟩,
            ⟨(some 2), none, (.op (.mov (.tmp 39)))⟩]))))
        (.region none [
          ⟨(some 40), none, (.op (.arith .add (.tmp 25) (.dat (.lit (.int .i64 1)))))⟩,
          ⟨(some 25), none, (.op (.mov (.tmp 40)))⟩])))))))))))
  res := []
theorem c53 : CmpF Tryd.prog 53 a53 := chkF_cmp (F := Tryd.f53) (by kernel_rfl) mixed (by kernel_rfl)
/-- hansard/permits.check -/
def a54 : AF where
  nt := 28
  body := (.seq (.region none [
      ⟨(some 3), none, (.op (.box true (.tmp 0)))⟩,
      ⟨(some 4), none, (.op (.box true (.tmp 1)))⟩,
      ⟨(some 6), none, (.op (.mov (.dat (.lit (.int .i64 0)))))⟩])
    (.seq (.seq (.region none [
      ⟨(some 7), none, (.op (.load 2 true (.tmp 3)))⟩,
      ⟨(some 8), none, (.call (.dat (.fn (.func 23) [] [])) [(.tmp 7)])⟩,
      ⟨(some 6), none, (.op (.mov (.tmp 8)))⟩])
    (.seq (.region none [
      ⟨(some 9), none, (.op (.mov (.tmp 6)))⟩,
      ⟨(some 10), none, (.op (.arith .neq (.tmp 9) (.dat (.lit (.int .i64 0)))))⟩])
    (.cond (.tmp 10)
      (.seq (.region none [
        ⟨(some 11), none, (.op (.mov (.tmp 6)))⟩,
        ⟨(some 6), none, (.op (.mov (.tmp 11)))⟩])
      .ret)
      .skip)))
    (.seq (.block 0
      (.seq (.region none [
        ⟨(some 13), none, (.op (.field 0 1 false (.tmp 4)))⟩,
        ⟨(some 14), none, (.op (.load 1 false (.tmp 13)))⟩,
        ⟨(some 15), none, (.op (.arith .lss (.tmp 14) (.dat (.lit (.int .i64 0)))))⟩,
        ⟨(some 16), none, (.op (.mov (.tmp 15)))⟩,
        ⟨(some 17), (some (16, false)), (.op (.field 0 1 false (.tmp 4)))⟩,
        ⟨(some 18), (some (16, false)), (.op (.load 1 false (.tmp 17)))⟩,
        ⟨(some 19), (some (16, false)), (.op (.arith .gtr (.tmp 18) (.dat (.lit (.int .i64 1073741824)))))⟩,
        ⟨(some 20), none, (.op (.pick (.tmp 16) (.dat (.lit (.bool true))) (.tmp 19)))⟩,
        ⟨(some 12), none, (.op (.mov (.tmp 20)))⟩])
      (.cond (.tmp 12)
        (.seq (.region none [
          ⟨(some 6), none, (.op (.mov (.dat (.lit (.int .i64 190)))))⟩])
        .ret)
        (.seq (.region none [
          ⟨(some 22), none, (.op (.mov (.tmp 2)))⟩,
          ⟨(some 23), none, (.op (.arith .lss (.tmp 22) (.dat (.lit (.int .i64 0)))))⟩,
          ⟨(some 24), none, (.op (.mov (.tmp 23)))⟩,
          ⟨(some 25), (some (24, false)), (.op (.mov (.tmp 2)))⟩,
          ⟨(some 26), (some (24, false)), (.op (.arith .geq (.tmp 25) (.dat (.lit (.int .i64 1099511627776)))))⟩,
          ⟨(some 27), none, (.op (.pick (.tmp 24) (.dat (.lit (.bool true))) (.tmp 26)))⟩,
          ⟨(some 21), none, (.op (.mov (.tmp 27)))⟩])
        (.cond (.tmp 21)
          (.seq (.region none [
            ⟨(some 6), none, (.op (.mov (.dat (.lit (.int .i64 1)))))⟩])
          .ret)
          .skip)))))
    (.seq (.region none [
      ⟨(some 6), none, (.op (.mov (.dat (.lit (.int .i64 0)))))⟩])
    .ret))))
  res := [.tmp 6]
theorem c54 : CmpF Tryd.prog 54 a54 := chkF_cmp (F := Tryd.f54) (by kernel_rfl) mixed (by kernel_rfl)
end Go.Proofs.YteonapeaaepipaaDoor
end
