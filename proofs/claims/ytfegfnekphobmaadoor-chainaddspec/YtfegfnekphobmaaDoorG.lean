/- Part of the proof: S1p1. -/
import Derived.Test.YtfegfnekphobmaaDoorProg
import Derived.KernelRfl
import Derived.Test.YtfegfnekphobmaaDoorF
set_option linter.unnecessarySimpa false
set_option linter.unusedVariables false
set_option linter.unusedSimpArgs false
section
namespace Go.Proofs.YtfegfnekphobmaaDoor
open Go Go.Proofs.YtfegfnekphobmaaDoor.AL
theorem mixed : Tryd.prog.follows .mixedOrders = true := by kernel_rfl
/-- hansard/hansardlaw08.ChainAddSpec -/
def a3 : AF where
  nt := 90
  body := (.seq (.region none [
      ⟨(some 8), none, (.op (.mov (.dat (.lit (.bool false)))))⟩])
    (.seq (.seq (.region none [
      ⟨(some 19), none, (.call (.dat (.fn (.func 8) [] [])) [])⟩,
      ⟨(some 20), none, (.op (.not (.tmp 19)))⟩])
    (.cond (.tmp 20)
      (.seq (.region none [
        ⟨(some 8), none, (.op (.mov (.dat (.lit (.bool false)))))⟩])
      .ret)
      .skip))
    (.seq (.seq (.region none [
      ⟨(some 21), none, (.op (.mov (.tmp 0)))⟩,
      ⟨(some 22), none, (.call (.dat (.fn (.func 9) [] [])) [(.tmp 21)])⟩,
      ⟨(some 23), none, (.op (.not (.tmp 22)))⟩,
      ⟨(some 24), none, (.op (.mov (.tmp 23)))⟩,
      ⟨(some 25), (some (24, false)), (.op (.mov (.tmp 1)))⟩,
      ⟨(some 26), (some (24, false)), (.call (.dat (.fn (.func 9) [] [])) [(.tmp 25)])⟩,
      ⟨(some 27), (some (24, false)), (.op (.not (.tmp 26)))⟩,
      ⟨(some 28), none, (.op (.pick (.tmp 24) (.dat (.lit (.bool true))) (.tmp 27)))⟩,
      ⟨(some 29), none, (.op (.mov (.tmp 28)))⟩,
      ⟨(some 30), (some (29, false)), (.op (.mov (.tmp 3)))⟩,
      ⟨(some 31), (some (29, false)), (.op (.len (.tmp 30)))⟩,
      ⟨(some 32), (some (29, false)), (.op (.arith .gtr (.tmp 31) (.dat (.lit (.int .i64 300)))))⟩,
      ⟨(some 33), (some (29, false)), (.op (.mov (.tmp 32)))⟩,
      ⟨(some 34), (some (33, true)), (.op (.mov (.tmp 3)))⟩,
      ⟨(some 35), (some (33, true)), (.op (.len (.tmp 34)))⟩,
      ⟨(some 36), (some (33, true)), (.op (.arith .leq (.tmp 35) (.dat (.lit (.int .i64 65536)))))⟩,
      ⟨(some 37), (some (29, false)), (.op (.pick (.tmp 33) (.tmp 36) (.dat (.lit (.bool false)))))⟩,
      ⟨(some 38), none, (.op (.pick (.tmp 29) (.dat (.lit (.bool true))) (.tmp 37)))⟩])
    (.cond (.tmp 38)
      (.seq (.region none [
        ⟨(some 8), none, (.op (.mov (.dat (.lit (.bool true)))))⟩])
      .ret)
      .skip))
    (.seq (.region none [
      ⟨(some 40), none, (.op (.mov (.tmp 0)))⟩,
      ⟨(some 41), none, (.op (.mov (.tmp 2)))⟩,
      ⟨(some 42), none, (.op (.mov (.tmp 3)))⟩,
      ⟨(some 43), none, (.call (.dat (.fn (.func 10) [] [])) [(.tmp 40), (.tmp 41), (.tmp 42)])⟩,
      ⟨(some 39), none, (.op (.mov (.tmp 43)))⟩,
      ⟨(some 44), none, (.op (.extract (.tmp 39) 0))⟩,
      ⟨(some 45), none, (.op (.extract (.tmp 39) 1))⟩,
      ⟨(some 9), none, (.op (.mov (.tmp 44)))⟩,
      ⟨(some 10), none, (.op (.mov (.tmp 45)))⟩])
    (.seq (.region none [
      ⟨(some 47), none, (.op (.mov (.tmp 0)))⟩,
      ⟨(some 48), none, (.op (.mov (.tmp 2)))⟩,
      ⟨(some 49), none, (.op (.mov (.tmp 3)))⟩,
      ⟨(some 50), none, (.call (.dat (.fn (.func 11) [] [])) [(.tmp 47), (.tmp 48), (.tmp 49)])⟩,
      ⟨(some 46), none, (.op (.mov (.tmp 50)))⟩,
      ⟨(some 51), none, (.op (.extract (.tmp 46) 0))⟩,
      ⟨(some 52), none, (.op (.extract (.tmp 46) 1))⟩,
      ⟨(some 11), none, (.op (.mov (.tmp 51)))⟩,
      ⟨(some 12), none, (.op (.mov (.tmp 52)))⟩])
    (.seq (.region none [
      ⟨(some 54), none, (.op (.mov (.tmp 0)))⟩,
      ⟨(some 55), none, (.op (.mov (.tmp 1)))⟩,
      ⟨(some 56), none, (.call (.dat (.fn (.func 12) [] [])) [(.tmp 54), (.tmp 55)])⟩,
      ⟨(some 53), none, (.op (.mov (.tmp 56)))⟩,
      ⟨(some 57), none, (.op (.extract (.tmp 53) 0))⟩,
      ⟨(some 58), none, (.op (.extract (.tmp 53) 1))⟩,
      ⟨(some 59), none, (.op (.extract (.tmp 53) 2))⟩,
      ⟨(some 13), none, (.op (.mov (.tmp 57)))⟩,
      ⟨(some 14), none, (.op (.mov (.tmp 58)))⟩,
      ⟨(some 15), none, (.op (.mov (.tmp 59)))⟩])
    (.seq (.region none [
      ⟨(some 61), none, (.op (.mov (.tmp 0)))⟩,
      ⟨(some 62), none, (.op (.mov (.tmp 1)))⟩,
      ⟨(some 63), none, (.call (.dat (.fn (.func 13) [] [])) [(.tmp 61), (.tmp 62)])⟩,
      ⟨(some 60), none, (.op (.mov (.tmp 63)))⟩,
      ⟨(some 64), none, (.op (.extract (.tmp 60) 0))⟩,
      ⟨(some 65), none, (.op (.extract (.tmp 60) 1))⟩,
      ⟨(some 66), none, (.op (.extract (.tmp 60) 2))⟩,
      ⟨(some 16), none, (.op (.mov (.tmp 64)))⟩,
      ⟨(some 17), none, (.op (.mov (.tmp 65)))⟩,
      ⟨(some 18), none, (.op (.mov (.tmp 66)))⟩])
    (.seq (.region none [
      ⟨(some 67), none, (.op (.mov (.tmp 9)))⟩,
      ⟨(some 68), none, (.op (.mov (.tmp 11)))⟩,
      ⟨(some 69), none, (.call (.dat (.fn (.func 14) [] [])) [(.tmp 67), (.tmp 68)])⟩,
      ⟨(some 70), none, (.op (.mov (.tmp 69)))⟩,
      ⟨(some 71), (some (70, true)), (.op (.mov (.tmp 10)))⟩,
      ⟨(some 72), (some (70, true)), (.op (.mov (.tmp 12)))⟩,
      ⟨(some 73), (some (70, true)), (.op (.arith .eql (.tmp 71) (.tmp 72)))⟩,
      ⟨(some 74), none, (.op (.pick (.tmp 70) (.tmp 73) (.dat (.lit (.bool false)))))⟩,
      ⟨(some 75), none, (.op (.mov (.tmp 74)))⟩,
      ⟨(some 76), (some (75, true)), (.op (.mov (.tmp 13)))⟩,
      ⟨(some 77), (some (75, true)), (.op (.mov (.tmp 16)))⟩,
      ⟨(some 78), (some (75, true)), (.op (.arith .eql (.tmp 76) (.tmp 77)))⟩,
      ⟨(some 79), none, (.op (.pick (.tmp 75) (.tmp 78) (.dat (.lit (.bool false)))))⟩,
      ⟨(some 80), none, (.op (.mov (.tmp 79)))⟩,
      ⟨(some 81), (some (80, true)), (.op (.mov (.tmp 14)))⟩,
      ⟨(some 82), (some (80, true)), (.op (.mov (.tmp 17)))⟩,
      ⟨(some 83), (some (80, true)), (.op (.ext (.eqBool false) [(.tmp 81), (.tmp 82)]))⟩,
      ⟨(some 84), none, (.op (.pick (.tmp 80) (.tmp 83) (.dat (.lit (.bool false)))))⟩,
      ⟨(some 85), none, (.op (.mov (.tmp 84)))⟩,
      ⟨(some 86), (some (85, true)), (.op (.mov (.tmp 15)))⟩,
      ⟨(some 87), (some (85, true)), (.op (.mov (.tmp 18)))⟩,
      ⟨(some 88), (some (85, true)), (.op (.arith .eql (.tmp 86) (.tmp 87)))⟩,
      ⟨(some 89), none, (.op (.pick (.tmp 85) (.tmp 88) (.dat (.lit (.bool false)))))⟩,
      ⟨(some 8), none, (.op (.mov (.tmp 89)))⟩])
    .ret))))))))
  res := [.tmp 8]
theorem c3 : CmpF Tryd.prog 3 a3 := chkF_cmp (F := Tryd.f3) (by kernel_rfl) mixed (by kernel_rfl)
/-- hansard/hansardlaw08.ChainBuilt -/
def a4 : AF where
  nt := 116
  body := (.seq (.region none [
      ⟨(some 4), none, (.op (.mov (.dat (.lit (.bool false)))))⟩])
    (.seq (.seq (.region none [
      ⟨(some 10), none, (.call (.dat (.fn (.func 8) [] [])) [])⟩,
      ⟨(some 11), none, (.op (.not (.tmp 10)))⟩])
    (.cond (.tmp 11)
      (.seq (.region none [
        ⟨(some 4), none, (.op (.mov (.dat (.lit (.bool false)))))⟩])
      .ret)
      .skip))
    (.seq (.seq (.region none [
      ⟨(some 12), none, (.op (.mov (.tmp 1)))⟩,
      ⟨(some 13), none, (.op (.len (.tmp 12)))⟩,
      ⟨(some 14), none, (.op (.arith .gtr (.tmp 13) (.dat (.lit (.int .i64 12)))))⟩,
      ⟨(some 15), none, (.op (.mov (.tmp 14)))⟩,
      ⟨(some 16), (some (15, false)), (.op (.mov (.tmp 0)))⟩,
      ⟨(some 17), (some (15, false)), (.op (.arith .lss (.tmp 16) (.dat (.lit (.int .i64 0)))))⟩,
      ⟨(some 18), none, (.op (.pick (.tmp 15) (.dat (.lit (.bool true))) (.tmp 17)))⟩,
      ⟨(some 19), none, (.op (.mov (.tmp 18)))⟩,
      ⟨(some 20), (some (19, false)), (.op (.mov (.tmp 0)))⟩,
      ⟨(some 21), (some (19, false)), (.op (.arith .geq (.tmp 20) (.dat (.lit (.int .i64 24)))))⟩,
      ⟨(some 22), none, (.op (.pick (.tmp 19) (.dat (.lit (.bool true))) (.tmp 21)))⟩])
    (.cond (.tmp 22)
      (.seq (.region none [
        ⟨(some 4), none, (.op (.mov (.dat (.lit (.bool true)))))⟩])
      .ret)
      .skip))
    (.seq (.region none [
      ⟨(some 5), none, (.op (.mov (.dat (.nil 35))))⟩])
    (.seq (.seq (.region none [
      ⟨(some 6), none, (.op (.mov (.dat (.lit (.int .i64 0)))))⟩])
    (.block 0
      (.loop
        (.seq (.seq (.region none [
          ⟨(some 23), none, (.op (.mov (.tmp 6)))⟩,
          ⟨(some 24), none, (.op (.mov (.tmp 1)))⟩,
          ⟨(some 25), none, (.op (.len (.tmp 24)))⟩,
          ⟨(some 26), none, (.op (.arith .lss (.tmp 23) (.tmp 25)))⟩])
        (.cond (.tmp 26)
          .skip
          (.exit 0)))
        (.seq (.block 1
          (.seq (.seq (.region none [
            ⟨(some 29), none, (.op (.mov (.tmp 1)))⟩,
            ⟨(some 30), none, (.op (.mov (.tmp 6)))⟩,
            ⟨(some 31), none, (.op (.index 1 (.tmp 29) (.tmp 30)))⟩,
            ⟨(some 32), none, (.op (.load 1 false (.tmp 31)))⟩,
            ⟨(some 33), none, (.op (.len (.tmp 32)))⟩,
            ⟨(some 34), none, (.op (.arith .gtr (.tmp 33) (.dat (.lit (.int .i64 300)))))⟩])
          (.cond (.tmp 34)
            (.seq (.region none [
              ⟨(some 4), none, (.op (.mov (.dat (.lit (.bool true)))))⟩])
            .ret)
            .skip))
          (.seq (.region none [
            ⟨(some 36), none, (.op (.mov (.tmp 5)))⟩,
            ⟨(some 37), none, (.op (.mov (.tmp 0)))⟩,
            ⟨(some 38), none, (.op (.mov (.tmp 1)))⟩,
            ⟨(some 39), none, (.op (.mov (.tmp 6)))⟩,
            ⟨(some 40), none, (.op (.index 1 (.tmp 38) (.tmp 39)))⟩,
            ⟨(some 41), none, (.op (.load 1 false (.tmp 40)))⟩,
            ⟨(some 42), none, (.call (.dat (.fn (.func 10) [] [])) [(.tmp 36), (.tmp 37), (.tmp 41)])⟩,
            ⟨(some 35), none, (.op (.mov (.tmp 42)))⟩,
            ⟨(some 43), none, (.op (.extract (.tmp 35) 0))⟩,
            ⟨(some 44), none, (.op (.extract (.tmp 35) 1))⟩,
            ⟨(some 7), none, (.op (.mov (.tmp 43)))⟩,
            ⟨(some 8), none, (.op (.mov (.tmp 44)))⟩])
          (.seq (.seq (.region (some [[], [0], [0, 1], [0, 1, 2], [0, 1, 2, 3], [0, 1, 2], [0, 1, 2, 5], [0, 1, 2, 3, 4, 5, 6], [0, 1, 2, 3, 4, 5, 6, 7], [0, 1, 2, 3, 4, 5, 6, 7, 8], [0, 1, 2, 3, 4, 5, 6, 7, 8, 9], [0, 1, 2, 3, 4, 5, 6, 7, 8, 9], [0, 1, 2, 3, 4, 5, 6, 7, 8, 9, 10, 11], [0, 1, 2, 3, 4, 5, 6, 7, 8, 9], [0, 1, 2, 3, 4, 5, 6, 7, 8, 9, 10, 11, 12, 13], [0, 1, 2, 3, 4, 5, 6, 7, 8, 9, 10, 11, 12, 13, 14], [0, 1, 2, 3, 4, 5, 6, 7, 8, 9, 10, 11, 12, 13, 14, 15], [0, 1, 2, 3, 4, 5, 6, 7, 8, 9, 10, 11, 12, 13, 14, 15, 16], [0, 1, 2, 3, 4, 5, 6, 7, 8, 9, 10, 11, 12, 13, 14, 15, 16, 17], [0, 1, 2, 3, 4, 5, 6, 7, 8, 9, 10, 11, 12, 13, 14, 15, 16, 17], [0, 1, 2, 3, 4, 5, 6, 7, 8, 9, 10, 11, 12, 13, 14, 15, 16, 17, 18, 19], [0, 1, 2, 3, 4, 5, 6, 7, 8, 9, 10, 11, 12, 13, 14, 15, 16, 17, 18, 19, 20], [0, 1, 2, 3, 4, 5, 6, 7, 8, 9, 10, 11, 12, 13, 14, 15, 16, 17, 18, 19, 20, 21], [0, 1, 2, 3, 4, 5, 6, 7, 8, 9, 10, 11, 12, 13, 14, 15, 16, 17], [0, 1, 2, 3, 4, 5, 6, 7, 8, 9, 10, 11, 12, 13, 14, 15, 16, 17, 23], [0, 1, 2, 3, 4, 5, 6, 7, 8, 9, 10, 11, 12, 13, 14, 15, 16, 17, 18, 19, 20, 21, 22, 23, 24], [0, 1, 2, 3, 4, 5, 6, 7, 8, 9, 10, 11, 12, 13, 14, 15, 16, 17, 18, 19, 20, 21, 22, 23, 24, 25], [0, 1, 2, 3, 4, 5, 6, 7, 8, 9, 10, 11, 12, 13, 14, 15, 16, 17, 18, 19, 20, 21, 22, 23, 24, 25, 26], [0, 1, 2, 3, 4, 5, 6, 7, 8, 9, 10, 11, 12, 13, 14, 15, 16, 17, 18, 19, 20, 21, 22, 23, 24, 25, 26, 27], [0, 1, 2, 3, 4, 5, 6, 7, 8, 9, 10, 11, 12, 13, 14, 15, 16, 17, 18, 19, 20, 21, 22, 23, 24, 25, 26, 27], [0, 1, 2, 3, 4, 5, 6, 7, 8, 9, 10, 11, 12, 13, 14, 15, 16, 17, 18, 19, 20, 21, 22, 23, 24, 25, 26, 27, 28, 29], [0, 1, 2, 3, 4, 5, 6, 7, 8, 9, 10, 11, 12, 13, 14, 15, 16, 17, 18, 19, 20, 21, 22, 23, 24, 25, 26, 27, 28, 29, 30], [0, 1, 2, 3, 4, 5, 6, 7, 8, 9, 10, 11, 12, 13, 14, 15, 16, 17, 18, 19, 20, 21, 22, 23, 24, 25, 26, 27, 28, 29, 30, 31], [0, 1, 2, 3, 4, 5, 6, 7, 8, 9, 10, 11, 12, 13, 14, 15, 16, 17, 18, 19, 20, 21, 22, 23, 24, 25, 26, 27], [0, 1, 2, 3, 4, 5, 6, 7, 8, 9, 10, 11, 12, 13, 14, 15, 16, 17, 18, 19, 20, 21, 22, 23, 24, 25, 26, 27, 28, 29, 30, 31, 32, 33], [0, 1, 2, 3, 4, 5, 6, 7, 8, 9, 10, 11, 12, 13, 14, 15, 16, 17, 18, 19, 20, 21, 22, 23, 24, 25, 26, 27, 28, 29, 30, 31, 32, 33, 34], [0, 1, 2, 3, 4, 5, 6, 7, 8, 9, 10, 11, 12, 13, 14, 15, 16, 17, 18, 19, 20, 21, 22, 23, 24, 25, 26, 27, 28, 29, 30, 31, 32, 33, 34, 35], [0, 1, 2, 3, 4, 5, 6, 7, 8, 9, 10, 11, 12, 13, 14, 15, 16, 17, 18, 19, 20, 21, 22, 23, 24, 25, 26, 27, 28, 29, 30, 31, 32, 33, 34, 35, 36], [0, 1, 2, 3, 4, 5, 6, 7, 8, 9, 10, 11, 12, 13, 14, 15, 16, 17, 18, 19, 20, 21, 22, 23, 24, 25, 26, 27, 28, 29, 30, 31, 32, 33, 34, 35, 36], [0, 1, 2, 3, 4, 5, 6, 7, 8, 9, 10, 11, 12, 13, 14, 15, 16, 17, 18, 19, 20, 21, 22, 23, 24, 25, 26, 27, 28, 29, 30, 31, 32, 33, 34, 35, 36, 37, 38], [0, 1, 2, 3, 4, 5, 6, 7, 8, 9, 10, 11, 12, 13, 14, 15, 16, 17, 18, 19, 20, 21, 22, 23, 24, 25, 26, 27, 28, 29, 30, 31, 32, 33, 34, 35, 36, 37, 38, 39], [0, 1, 2, 3, 4, 5, 6, 7, 8, 9, 10, 11, 12, 13, 14, 15, 16, 17, 18, 19, 20, 21, 22, 23, 24, 25, 26, 27, 28, 29, 30, 31, 32, 33, 34, 35, 36, 37, 38, 39, 40], [0, 1, 2, 3, 4, 5, 6, 7, 8, 9, 10, 11, 12, 13, 14, 15, 16, 17, 18, 19, 20, 21, 22, 23, 24, 25, 26, 27, 28, 29, 30, 31, 32, 33, 34, 35, 36], [0, 1, 2, 3, 4, 5, 6, 7, 8, 9, 10, 11, 12, 13, 14, 15, 16, 17, 18, 19, 20, 21, 22, 23, 24, 25, 26, 27, 28, 29, 30, 31, 32, 33, 34, 35, 36, 37, 38, 39, 40, 41, 42], [0, 1, 2, 3, 4, 5, 6, 7, 8, 9, 10, 11, 12, 13, 14, 15, 16, 17, 18, 19, 20, 21, 22, 23, 24, 25, 26, 27, 28, 29, 30, 31, 32, 33, 34, 35, 36, 37, 38, 39, 40, 41, 42, 43], [0, 1, 2, 3, 4, 5, 6, 7, 8, 9, 10, 11, 12, 13, 14, 15, 16, 17, 18, 19, 20, 21, 22, 23, 24, 25, 26, 27, 28, 29, 30, 31, 32, 33, 34, 35, 36, 37, 38, 39, 40, 41, 42, 43, 44], [0, 1, 2, 3, 4, 5, 6, 7, 8, 9, 10, 11, 12, 13, 14, 15, 16, 17, 18, 19, 20, 21, 22, 23, 24, 25, 26, 27, 28, 29, 30, 31, 32, 33, 34, 35, 36, 37, 38, 39, 40, 41, 42, 43, 44, 45], [0, 1, 2, 3, 4, 5, 6, 7, 8, 9, 10, 11, 12, 13, 14, 15, 16, 17, 18, 19, 20, 21, 22, 23, 24, 25, 26, 27, 28, 29, 30, 31, 32, 33, 34, 35, 36, 37, 38, 39, 40, 41, 42, 43, 44, 45], [0, 1, 2, 3, 4, 5, 6, 7, 8, 9, 10, 11, 12, 13, 14, 15, 16, 17, 18, 19, 20, 21, 22, 23, 24, 25, 26, 27, 28, 29, 30, 31, 32, 33, 34, 35, 36, 37, 38, 39, 40, 41, 42, 43, 44, 45, 46, 47], [0, 1, 2, 3, 4, 5, 6, 7, 8, 9, 10, 11, 12, 13, 14, 15, 16, 17, 18, 19, 20, 21, 22, 23, 24, 25, 26, 27, 28, 29, 30, 31, 32, 33, 34, 35, 36, 37, 38, 39, 40, 41, 42, 43, 44, 45, 46, 47, 48], [0, 1, 2, 3, 4, 5, 6, 7, 8, 9, 10, 11, 12, 13, 14, 15, 16, 17, 18, 19, 20, 21, 22, 23, 24, 25, 26, 27, 28, 29, 30, 31, 32, 33, 34, 35, 36, 37, 38, 39, 40, 41, 42, 43, 44, 45, 46, 47, 48, 49], [0, 1, 2, 3, 4, 5, 6, 7, 8, 9, 10, 11, 12, 13, 14, 15, 16, 17, 18, 19, 20, 21, 22, 23, 24, 25, 26, 27, 28, 29, 30, 31, 32, 33, 34, 35, 36, 37, 38, 39, 40, 41, 42, 43, 44, 45, 46, 47, 48, 49, 50], [0, 1, 2, 3, 4, 5, 6, 7, 8, 9, 10, 11, 12, 13, 14, 15, 16, 17, 18, 19, 20, 21, 22, 23, 24, 25, 26, 27, 28, 29, 30, 31, 32, 33, 34, 35, 36, 37, 38, 39, 40, 41, 42, 43, 44, 45], [0, 1, 2, 3, 4, 5, 6, 7, 8, 9, 10, 11, 12, 13, 14, 15, 16, 17, 18, 19, 20, 21, 22, 23, 24, 25, 26, 27, 28, 29, 30, 31, 32, 33, 34, 35, 36, 37, 38, 39, 40, 41, 42, 43, 44, 45], [0, 1, 2, 3, 4, 5, 6, 7, 8, 9, 10, 11, 12, 13, 14, 15, 16, 17, 18, 19, 20, 21, 22, 23, 24, 25, 26, 27, 28, 29, 30, 31, 32, 33, 34, 35, 36, 37, 38, 39, 40, 41, 42, 43, 44, 45, 52, 53], [0, 1, 2, 3, 4, 5, 6, 7, 8, 9, 10, 11, 12, 13, 14, 15, 16, 17, 18, 19, 20, 21, 22, 23, 24, 25, 26, 27, 28, 29, 30, 31, 32, 33, 34, 35, 36, 37, 38, 39, 40, 41, 42, 43, 44, 45, 52, 53, 54], [0, 1, 2, 3, 4, 5, 6, 7, 8, 9, 10, 11, 12, 13, 14, 15, 16, 17, 18, 19, 20, 21, 22, 23, 24, 25, 26, 27, 28, 29, 30, 31, 32, 33, 34, 35, 36, 37, 38, 39, 40, 41, 42, 43, 44, 45, 52, 53, 54, 55], [0, 1, 2, 3, 4, 5, 6, 7, 8, 9, 10, 11, 12, 13, 14, 15, 16, 17, 18, 19, 20, 21, 22, 23, 24, 25, 26, 27, 28, 29, 30, 31, 32, 33, 34, 35, 36, 37, 38, 39, 40, 41, 42, 43, 44, 45, 46, 47, 48, 49, 50, 51, 52, 53, 54, 55, 56], [0, 1, 2, 3, 4, 5, 6, 7, 8, 9, 10, 11, 12, 13, 14, 15, 16, 17, 18, 19, 20, 21, 22, 23, 24, 25, 26, 27, 28, 29, 30, 31, 32, 33, 34, 35, 36, 37, 38, 39, 40, 41, 42, 43, 44, 45, 46, 47, 48, 49, 50, 51, 52, 53, 54, 55, 56, 57]]) [
            ⟨(some 45), none, (.op (.mov (.tmp 8)))⟩,
            ⟨(some 46), none, (.op (.arith .neq (.tmp 45) (.dat (.lit (.int .i64 0)))))⟩,
            ⟨(some 47), none, (.op (.mov (.tmp 46)))⟩,
            ⟨(some 48), (some (47, false)), (.op (.mov (.tmp 7)))⟩,
            ⟨(some 49), (some (47, false)), (.op (.len (.tmp 48)))⟩,
            ⟨(some 50), (some (47, false)), (.op (.mov (.tmp 6)))⟩,
            ⟨(some 51), (some (47, false)), (.op (.arith .add (.tmp 50) (.dat (.lit (.int .i64 1)))))⟩,
            ⟨(some 52), (some (47, false)), (.op (.arith .neq (.tmp 49) (.tmp 51)))⟩,
            ⟨(some 53), none, (.op (.pick (.tmp 47) (.dat (.lit (.bool true))) (.tmp 52)))⟩,
            ⟨(some 54), none, (.op (.mov (.tmp 53)))⟩,
            ⟨(some 55), (some (54, false)), (.op (.mov (.tmp 7)))⟩,
            ⟨(some 56), (some (54, false)), (.op (.mov (.tmp 6)))⟩,
            ⟨(some 57), (some (54, false)), (.op (.slice 35 (.tmp 55) none (some (.tmp 56))))⟩,
            ⟨(some 58), (some (54, false)), (.op (.mov (.tmp 5)))⟩,
            ⟨(some 59), (some (54, false)), (.call (.dat (.fn (.func 14) [] [])) [(.tmp 57), (.tmp 58)])⟩,
            ⟨(some 60), (some (54, false)), (.op (.not (.tmp 59)))⟩,
            ⟨(some 61), none, (.op (.pick (.tmp 54) (.dat (.lit (.bool true))) (.tmp 60)))⟩,
            ⟨(some 62), none, (.op (.mov (.tmp 61)))⟩,
            ⟨(some 63), (some (62, false)), (.op (.mov (.tmp 7)))⟩,
            ⟨(some 64), (some (62, false)), (.op (.mov (.tmp 6)))⟩,
            ⟨(some 65), (some (62, false)), (.op (.index 35 (.tmp 63) (.tmp 64)))⟩,
            ⟨(some 66), (some (62, false)), (.op (.field 2 32 true (.tmp 65)))⟩,
            ⟨(some 67), (some (62, false)), (.op (.load 32 true (.tmp 66)))⟩,
            ⟨(some 68), (some (62, false)), (.op (.mov (.tmp 5)))⟩,
            ⟨(some 69), (some (62, false)), (.call (.dat (.fn (.func 15) [] [])) [(.tmp 68)])⟩,
            ⟨(some 70), (some (62, false)), (.op (.ext (.eqrow true [.int .u8, .int .u8, .int .u8, .int .u8, .int .u8, .int .u8, .int .u8, .int .u8, .int .u8, .int .u8, .int .u8, .int .u8, .int .u8, .int .u8, .int .u8, .int .u8, .int .u8, .int .u8, .int .u8, .int .u8, .int .u8, .int .u8, .int .u8, .int .u8, .int .u8, .int .u8, .int .u8, .int .u8, .int .u8, .int .u8, .int .u8, .int .u8]) [(.tmp 67), (.tmp 69)]))⟩,
            ⟨(some 71), none, (.op (.pick (.tmp 62) (.dat (.lit (.bool true))) (.tmp 70)))⟩,
            ⟨(some 72), none, (.op (.mov (.tmp 71)))⟩,
            ⟨(some 73), (some (72, false)), (.op (.mov (.tmp 7)))⟩,
            ⟨(some 74), (some (72, false)), (.op (.mov (.tmp 6)))⟩,
            ⟨(some 75), (some (72, false)), (.op (.index 35 (.tmp 73) (.tmp 74)))⟩,
            ⟨(some 76), (some (72, false)), (.op (.field 1 1 false (.tmp 75)))⟩,
            ⟨(some 77), (some (72, false)), (.op (.load 1 false (.tmp 76)))⟩,
            ⟨(some 78), (some (72, false)), (.op (.mov (.tmp 6)))⟩,
            ⟨(some 79), (some (72, false)), (.op (.arith .neq (.tmp 77) (.tmp 78)))⟩,
            ⟨(some 80), none, (.op (.pick (.tmp 72) (.dat (.lit (.bool true))) (.tmp 79)))⟩,
            ⟨(some 81), none, (.op (.mov (.tmp 80)))⟩,
            ⟨(some 82), (some (81, false)), (.op (.mov (.tmp 7)))⟩,
            ⟨(some 83), (some (81, false)), (.op (.mov (.tmp 6)))⟩,
            ⟨(some 84), (some (81, false)), (.op (.index 35 (.tmp 82) (.tmp 83)))⟩,
            ⟨(some 85), (some (81, false)), (.op (.field 0 1 false (.tmp 84)))⟩,
            ⟨(some 86), (some (81, false)), (.op (.load 1 false (.tmp 85)))⟩,
            ⟨(some 87), (some (81, false)), (.op (.mov (.tmp 0)))⟩,
            ⟨(some 88), (some (81, false)), (.op (.arith .neq (.tmp 86) (.tmp 87)))⟩,
            ⟨(some 89), none, (.op (.pick (.tmp 81) (.dat (.lit (.bool true))) (.tmp 88)))⟩,
            ⟨(some 90), none, (.op (.mov (.tmp 89)))⟩,
            ⟨(some 91), (some (90, false)), (.op (.mov (.tmp 7)))⟩,
            ⟨(some 92), (some (90, false)), (.op (.mov (.tmp 6)))⟩,
            ⟨(some 93), (some (90, false)), (.op (.index 35 (.tmp 91) (.tmp 92)))⟩,
            ⟨(some 94), (some (90, false)), (.op (.field 34 1 false (.tmp 93)))⟩,
            ⟨(some 95), (some (90, false)), (.op (.load 1 false (.tmp 94)))⟩,
            ⟨(some 96), (some (90, false)), (.op (.ext .bytesStr [(.tmp 95)]))⟩,
            ⟨(some 97), (some (90, false)), (.op (.mov (.tmp 1)))⟩,
            ⟨(some 98), (some (90, false)), (.op (.mov (.tmp 6)))⟩,
            ⟨(some 99), (some (90, false)), (.op (.index 1 (.tmp 97) (.tmp 98)))⟩,
            ⟨(some 100), (some (90, false)), (.op (.load 1 false (.tmp 99)))⟩,
            ⟨(some 101), (some (90, false)), (.op (.ext .bytesStr [(.tmp 100)]))⟩,
            ⟨(some 102), (some (90, false)), (.op (.arith .neq (.tmp 96) (.tmp 101)))⟩,
            ⟨(some 103), none, (.op (.pick (.tmp 90) (.dat (.lit (.bool true))) (.tmp 102)))⟩])
          (.cond (.tmp 103)
            (.seq (.region none [
              ⟨(some 4), none, (.op (.mov (.dat (.lit (.bool false)))))⟩])
            .ret)
            .skip))
          (.region none [
            ⟨(some 104), none, (.op (.mov (.tmp 7)))⟩,
            ⟨(some 5), none, (.op (.mov (.tmp 104)))⟩])))))
        (.region none [
          ⟨(some 27), none, (.op (.mov (.tmp 6)))⟩,
          ⟨(some 28), none, (.op (.arith .add (.tmp 27) (.dat (.lit (.int .i64 1)))))⟩,
          ⟨(some 6), none, (.op (.mov (.tmp 28)))⟩]))))))
    (.seq (.seq (.region none [
      ⟨(some 9), none, (.op (.mov (.dat (.lit (.int .i64 0)))))⟩])
    (.block 2
      (.loop
        (.seq (.seq (.region none [
          ⟨(some 105), none, (.op (.mov (.tmp 9)))⟩,
          ⟨(some 106), none, (.op (.mov (.tmp 5)))⟩,
          ⟨(some 107), none, (.op (.len (.tmp 106)))⟩,
          ⟨(some 108), none, (.op (.arith .leq (.tmp 105) (.tmp 107)))⟩])
        (.cond (.tmp 108)
          .skip
          (.exit 2)))
        (.seq (.block 3
          (.seq (.region none [
            ⟨(some 111), none, (.op (.mov (.tmp 5)))⟩,
            ⟨(some 112), none, (.op (.mov (.tmp 9)))⟩,
            ⟨(some 113), none, (.op (.slice 35 (.tmp 111) none (some (.tmp 112))))⟩,
            ⟨(some 114), none, (.call (.dat (.fn (.func 16) [] [])) [(.tmp 113)])⟩,
            ⟨(some 115), none, (.op (.arith .neq (.tmp 114) (.dat (.lit (.int .i64 0)))))⟩])
          (.cond (.tmp 115)
            (.seq (.region none [
              ⟨(some 4), none, (.op (.mov (.dat (.lit (.bool false)))))⟩])
            .ret)
            .skip)))
        (.region none [
          ⟨(some 109), none, (.op (.mov (.tmp 9)))⟩,
          ⟨(some 110), none, (.op (.arith .add (.tmp 109) (.dat (.lit (.int .i64 1)))))⟩,
          ⟨(some 9), none, (.op (.mov (.tmp 110)))⟩]))))))
    (.seq (.region none [
      ⟨(some 4), none, (.op (.mov (.dat (.lit (.bool true)))))⟩])
    .ret)))))))
  res := [.tmp 4]
theorem c4 : CmpF Tryd.prog 4 a4 := chkF_cmp (F := Tryd.f4) (by kernel_rfl) mixed (by kernel_rfl)
/-- hansard/hansardlaw08.ChainEqual -/
def a5 : AF where
  nt := 56
  body := (.seq (.region none [
      ⟨(some 4), none, (.op (.mov (.dat (.lit (.bool false)))))⟩])
    (.seq (.seq (.region none [
      ⟨(some 6), none, (.call (.dat (.fn (.func 8) [] [])) [])⟩,
      ⟨(some 7), none, (.op (.not (.tmp 6)))⟩])
    (.cond (.tmp 7)
      (.seq (.region none [
        ⟨(some 4), none, (.op (.mov (.dat (.lit (.bool false)))))⟩])
      .ret)
      .skip))
    (.seq (.seq (.region none [
      ⟨(some 8), none, (.op (.mov (.tmp 0)))⟩,
      ⟨(some 9), none, (.call (.dat (.fn (.func 9) [] [])) [(.tmp 8)])⟩,
      ⟨(some 10), none, (.op (.not (.tmp 9)))⟩,
      ⟨(some 11), none, (.op (.mov (.tmp 10)))⟩,
      ⟨(some 12), (some (11, false)), (.op (.mov (.tmp 1)))⟩,
      ⟨(some 13), (some (11, false)), (.call (.dat (.fn (.func 9) [] [])) [(.tmp 12)])⟩,
      ⟨(some 14), (some (11, false)), (.op (.not (.tmp 13)))⟩,
      ⟨(some 15), none, (.op (.pick (.tmp 11) (.dat (.lit (.bool true))) (.tmp 14)))⟩,
      ⟨(some 16), none, (.op (.mov (.tmp 15)))⟩,
      ⟨(some 17), (some (16, false)), (.op (.mov (.tmp 0)))⟩,
      ⟨(some 18), (some (16, false)), (.call (.dat (.fn (.func 16) [] [])) [(.tmp 17)])⟩,
      ⟨(some 19), (some (16, false)), (.op (.arith .neq (.tmp 18) (.dat (.lit (.int .i64 0)))))⟩,
      ⟨(some 20), none, (.op (.pick (.tmp 16) (.dat (.lit (.bool true))) (.tmp 19)))⟩,
      ⟨(some 21), none, (.op (.mov (.tmp 20)))⟩,
      ⟨(some 22), (some (21, false)), (.op (.mov (.tmp 1)))⟩,
      ⟨(some 23), (some (21, false)), (.call (.dat (.fn (.func 16) [] [])) [(.tmp 22)])⟩,
      ⟨(some 24), (some (21, false)), (.op (.arith .neq (.tmp 23) (.dat (.lit (.int .i64 0)))))⟩,
      ⟨(some 25), none, (.op (.pick (.tmp 21) (.dat (.lit (.bool true))) (.tmp 24)))⟩,
      ⟨(some 26), none, (.op (.mov (.tmp 25)))⟩,
      ⟨(some 27), (some (26, false)), (.op (.mov (.tmp 0)))⟩,
      ⟨(some 28), (some (26, false)), (.op (.len (.tmp 27)))⟩,
      ⟨(some 29), (some (26, false)), (.op (.mov (.tmp 1)))⟩,
      ⟨(some 30), (some (26, false)), (.op (.len (.tmp 29)))⟩,
      ⟨(some 31), (some (26, false)), (.op (.arith .neq (.tmp 28) (.tmp 30)))⟩,
      ⟨(some 32), none, (.op (.pick (.tmp 26) (.dat (.lit (.bool true))) (.tmp 31)))⟩,
      ⟨(some 33), none, (.op (.mov (.tmp 32)))⟩,
      ⟨(some 34), (some (33, false)), (.op (.mov (.tmp 0)))⟩,
      ⟨(some 35), (some (33, false)), (.call (.dat (.fn (.func 15) [] [])) [(.tmp 34)])⟩,
      ⟨(some 36), (some (33, false)), (.op (.mov (.tmp 1)))⟩,
      ⟨(some 37), (some (33, false)), (.call (.dat (.fn (.func 15) [] [])) [(.tmp 36)])⟩,
      ⟨(some 38), (some (33, false)), (.op (.ext (.eqrow true [.int .u8, .int .u8, .int .u8, .int .u8, .int .u8, .int .u8, .int .u8, .int .u8, .int .u8, .int .u8, .int .u8, .int .u8, .int .u8, .int .u8, .int .u8, .int .u8, .int .u8, .int .u8, .int .u8, .int .u8, .int .u8, .int .u8, .int .u8, .int .u8, .int .u8, .int .u8, .int .u8, .int .u8, .int .u8, .int .u8, .int .u8, .int .u8]) [(.tmp 35), (.tmp 37)]))⟩,
      ⟨(some 39), none, (.op (.pick (.tmp 33) (.dat (.lit (.bool true))) (.tmp 38)))⟩])
    (.cond (.tmp 39)
      (.seq (.region none [
        ⟨(some 4), none, (.op (.mov (.dat (.lit (.bool true)))))⟩])
      .ret)
      .skip))
    (.seq (.seq (.region none [
      ⟨(some 40), none, (.op (.mov (.tmp 0)))⟩,
      ⟨(some 41), none, (.op (.mov (.tmp 1)))⟩,
      ⟨(some 42), none, (.call (.dat (.fn (.func 14) [] [])) [(.tmp 40), (.tmp 41)])⟩])
    (.cond (.tmp 42)
      (.seq (.region none [
        ⟨(some 4), none, (.op (.mov (.dat (.lit (.bool true)))))⟩])
      .ret)
      .skip))
    (.seq (.seq (.region none [
      ⟨(some 5), none, (.op (.mov (.dat (.lit (.int .i64 1)))))⟩])
    (.block 0
      (.loop
        (.seq (.seq (.region none [
          ⟨(some 43), none, (.op (.mov (.tmp 5)))⟩,
          ⟨(some 44), none, (.op (.mov (.tmp 0)))⟩,
          ⟨(some 45), none, (.op (.len (.tmp 44)))⟩,
          ⟨(some 46), none, (.op (.arith .leq (.tmp 43) (.tmp 45)))⟩])
        (.cond (.tmp 46)
          .skip
          (.exit 0)))
        (.seq (.block 1
          (.seq (.region (some [[], [], [0, 1], [], [], [3, 4], [0, 1, 2, 3, 4, 5]]) [
            ⟨(some 49), none, (.op (.mov (.tmp 0)))⟩,
            ⟨(some 50), none, (.op (.mov (.tmp 5)))⟩,
            ⟨(some 51), none, (.op (.slice 35 (.tmp 49) none (some (.tmp 50))))⟩,
            ⟨(some 52), none, (.op (.mov (.tmp 1)))⟩,
            ⟨(some 53), none, (.op (.mov (.tmp 5)))⟩,
            ⟨(some 54), none, (.op (.slice 35 (.tmp 52) none (some (.tmp 53))))⟩,
            ⟨(some 55), none, (.call (.dat (.fn (.func 17) [] [])) [(.tmp 51), (.tmp 54)])⟩])
          (.cond (.tmp 55)
            (.seq (.region none [
              ⟨(some 4), none, (.op (.mov (.dat (.lit (.bool true)))))⟩])
            .ret)
            .skip)))
        (.region none [
          ⟨(some 47), none, (.op (.mov (.tmp 5)))⟩,
          ⟨(some 48), none, (.op (.arith .add (.tmp 47) (.dat (.lit (.int .i64 1)))))⟩,
          ⟨(some 5), none, (.op (.mov (.tmp 48)))⟩]))))))
    (.seq (.region none [
      ⟨(some 4), none, (.op (.mov (.dat (.lit (.bool false)))))⟩])
    .ret))))))
  res := [.tmp 4]
theorem c5 : CmpF Tryd.prog 5 a5 := chkF_cmp (F := Tryd.f5) (by kernel_rfl) mixed (by kernel_rfl)
/-- hansard/hansardlaw08.ChainChanged -/
def a6 : AF where
  nt := 67
  body := (.seq (.region none [
      ⟨(some 5), none, (.op (.box true (.tmp 2)))⟩,
      ⟨(some 6), none, (.op (.mov (.dat (.lit (.bool false)))))⟩])
    (.seq (.seq (.region none [
      ⟨(some 9), none, (.call (.dat (.fn (.func 8) [] [])) [])⟩,
      ⟨(some 10), none, (.op (.not (.tmp 9)))⟩])
    (.cond (.tmp 10)
      (.seq (.region none [
        ⟨(some 6), none, (.op (.mov (.dat (.lit (.bool false)))))⟩])
      .ret)
      .skip))
    (.seq (.seq (.region none [
      ⟨(some 11), none, (.op (.mov (.tmp 0)))⟩,
      ⟨(some 12), none, (.call (.dat (.fn (.func 9) [] [])) [(.tmp 11)])⟩,
      ⟨(some 13), none, (.op (.not (.tmp 12)))⟩,
      ⟨(some 14), none, (.op (.mov (.tmp 13)))⟩,
      ⟨(some 15), (some (14, false)), (.op (.mov (.tmp 0)))⟩,
      ⟨(some 16), (some (14, false)), (.op (.len (.tmp 15)))⟩,
      ⟨(some 17), (some (14, false)), (.op (.arith .eql (.tmp 16) (.dat (.lit (.int .i64 0)))))⟩,
      ⟨(some 18), none, (.op (.pick (.tmp 14) (.dat (.lit (.bool true))) (.tmp 17)))⟩,
      ⟨(some 19), none, (.op (.mov (.tmp 18)))⟩,
      ⟨(some 20), (some (19, false)), (.op (.field 34 1 false (.tmp 5)))⟩,
      ⟨(some 21), (some (19, false)), (.op (.load 1 false (.tmp 20)))⟩,
      ⟨(some 22), (some (19, false)), (.op (.len (.tmp 21)))⟩,
      ⟨(some 23), (some (19, false)), (.op (.arith .gtr (.tmp 22) (.dat (.lit (.int .i64 300)))))⟩,
      ⟨(some 24), none, (.op (.pick (.tmp 19) (.dat (.lit (.bool true))) (.tmp 23)))⟩,
      ⟨(some 25), none, (.op (.mov (.tmp 24)))⟩,
      ⟨(some 26), (some (25, false)), (.op (.mov (.tmp 0)))⟩,
      ⟨(some 27), (some (25, false)), (.call (.dat (.fn (.func 16) [] [])) [(.tmp 26)])⟩,
      ⟨(some 28), (some (25, false)), (.op (.arith .neq (.tmp 27) (.dat (.lit (.int .i64 0)))))⟩,
      ⟨(some 29), none, (.op (.pick (.tmp 25) (.dat (.lit (.bool true))) (.tmp 28)))⟩])
    (.cond (.tmp 29)
      (.seq (.region none [
        ⟨(some 6), none, (.op (.mov (.dat (.lit (.bool true)))))⟩])
      .ret)
      .skip))
    (.seq (.region none [
      ⟨(some 30), none, (.op (.mov (.tmp 1)))⟩,
      ⟨(some 31), none, (.op (.conv .i64 (.tmp 30)))⟩,
      ⟨(some 32), none, (.op (.mov (.tmp 0)))⟩,
      ⟨(some 33), none, (.op (.len (.tmp 32)))⟩,
      ⟨(some 34), none, (.op (.arith .rem (.tmp 31) (.tmp 33)))⟩,
      ⟨(some 7), none, (.op (.mov (.tmp 34)))⟩])
    (.seq (.seq (.region (some [[], [], [0, 1], [0, 1, 2], [], [0, 1, 2, 3, 4]]) [
      ⟨(some 35), none, (.op (.mov (.tmp 0)))⟩,
      ⟨(some 36), none, (.op (.mov (.tmp 7)))⟩,
      ⟨(some 37), none, (.op (.index 35 (.tmp 35) (.tmp 36)))⟩,
      ⟨(some 38), none, (.op (.load 35 true (.tmp 37)))⟩,
      ⟨(some 39), none, (.op (.load 35 true (.tmp 5)))⟩,
      ⟨(some 40), none, (.call (.dat (.fn (.func 18) [] [])) [(.tmp 38), (.tmp 39)])⟩])
    (.cond (.tmp 40)
      (.seq (.region none [
        ⟨(some 6), none, (.op (.mov (.dat (.lit (.bool true)))))⟩])
      .ret)
      .skip))
    (.seq (.region none [
      ⟨(some 41), none, (.op (.ext (.mksl0 35) []))⟩,
      ⟨(some 42), none, (.op (.mov (.tmp 0)))⟩,
      ⟨(some 43), none, (.op (.ext (.appendW 35 72) [(.tmp 41), (.tmp 42)]))⟩,
      ⟨(some 8), none, (.op (.mov (.tmp 43)))⟩])
    (.seq (.region none [
      ⟨(some 44), none, (.op (.mov (.tmp 8)))⟩,
      ⟨(some 45), none, (.op (.mov (.tmp 7)))⟩,
      ⟨(some 46), none, (.op (.load 35 true (.tmp 5)))⟩,
      ⟨(some 47), none, (.op (.ext (.idxB 35) [(.tmp 44), (.tmp 45)]))⟩,
      ⟨none, none, (.op (.store 35 (.tmp 47) (.tmp 46)))⟩])
    (.seq (.seq (.region none [
      ⟨(some 48), none, (.op (.mov (.tmp 8)))⟩,
      ⟨(some 49), none, (.call (.dat (.fn (.func 16) [] [])) [(.tmp 48)])⟩,
      ⟨(some 50), none, (.op (.arith .neq (.tmp 49) (.dat (.lit (.int .i64 0)))))⟩,
      ⟨(some 51), none, (.op (.mov (.tmp 50)))⟩,
      ⟨(some 52), (some (51, false)), (.op (.mov (.tmp 7)))⟩,
      ⟨(some 53), (some (51, false)), (.op (.mov (.tmp 0)))⟩,
      ⟨(some 54), (some (51, false)), (.op (.len (.tmp 53)))⟩,
      ⟨(some 55), (some (51, false)), (.op (.arith .sub (.tmp 54) (.dat (.lit (.int .i64 1)))))⟩,
      ⟨(some 56), (some (51, false)), (.op (.arith .eql (.tmp 52) (.tmp 55)))⟩,
      ⟨(some 57), none, (.op (.pick (.tmp 51) (.dat (.lit (.bool true))) (.tmp 56)))⟩])
    (.cond (.tmp 57)
      (.seq (.region none [
        ⟨(some 6), none, (.op (.mov (.dat (.lit (.bool true)))))⟩])
      .ret)
      .skip))
    (.seq (.region (some [[], [], [1], [0, 1, 2], [], [], [5], [4, 5, 6], [0, 1, 2, 3, 4, 5, 6, 7], [0, 1, 2, 3, 4, 5, 6, 7, 8]]) [
      ⟨(some 58), none, (.op (.mov (.tmp 0)))⟩,
      ⟨(some 59), none, (.op (.mov (.tmp 7)))⟩,
      ⟨(some 60), none, (.op (.arith .add (.tmp 59) (.dat (.lit (.int .i64 1)))))⟩,
      ⟨(some 61), none, (.op (.slice 35 (.tmp 58) none (some (.tmp 60))))⟩,
      ⟨(some 62), none, (.op (.mov (.tmp 8)))⟩,
      ⟨(some 63), none, (.op (.mov (.tmp 7)))⟩,
      ⟨(some 64), none, (.op (.arith .add (.tmp 63) (.dat (.lit (.int .i64 1)))))⟩,
      ⟨(some 65), none, (.op (.ext (.sliceB 35 false true) [(.tmp 62), (.tmp 64)]))⟩,
      ⟨(some 66), none, (.call (.dat (.fn (.func 17) [] [])) [(.tmp 61), (.tmp 65)])⟩,
      ⟨(some 6), none, (.op (.mov (.tmp 66)))⟩])
    .ret)))))))))
  res := [.tmp 6]
theorem c6 : CmpF Tryd.prog 6 a6 := chkF_cmp (F := Tryd.f6) (by kernel_rfl) mixed (by kernel_rfl)
/-- hansard/hansardlaw08.ChainParts -/
def a7 : AF where
  nt := 106
  body := (.seq (.region none [
      ⟨(some 4), none, (.op (.mov (.dat (.lit (.bool false)))))⟩])
    (.seq (.seq (.region none [
      ⟨(some 12), none, (.call (.dat (.fn (.func 8) [] [])) [])⟩,
      ⟨(some 13), none, (.op (.not (.tmp 12)))⟩])
    (.cond (.tmp 13)
      (.seq (.region none [
        ⟨(some 4), none, (.op (.mov (.dat (.lit (.bool false)))))⟩])
      .ret)
      .skip))
    (.seq (.seq (.region none [
      ⟨(some 14), none, (.op (.mov (.tmp 0)))⟩,
      ⟨(some 15), none, (.call (.dat (.fn (.func 9) [] [])) [(.tmp 14)])⟩,
      ⟨(some 16), none, (.op (.not (.tmp 15)))⟩,
      ⟨(some 17), none, (.op (.mov (.tmp 16)))⟩,
      ⟨(some 18), (some (17, false)), (.op (.mov (.tmp 1)))⟩,
      ⟨(some 19), (some (17, false)), (.call (.dat (.fn (.func 9) [] [])) [(.tmp 18)])⟩,
      ⟨(some 20), (some (17, false)), (.op (.not (.tmp 19)))⟩,
      ⟨(some 21), none, (.op (.pick (.tmp 17) (.dat (.lit (.bool true))) (.tmp 20)))⟩])
    (.cond (.tmp 21)
      (.seq (.region none [
        ⟨(some 4), none, (.op (.mov (.dat (.lit (.bool true)))))⟩])
      .ret)
      .skip))
    (.seq (.region none [
      ⟨(some 23), none, (.op (.mov (.tmp 0)))⟩,
      ⟨(some 24), none, (.op (.mov (.tmp 1)))⟩,
      ⟨(some 25), none, (.call (.dat (.fn (.func 12) [] [])) [(.tmp 23), (.tmp 24)])⟩,
      ⟨(some 22), none, (.op (.mov (.tmp 25)))⟩,
      ⟨(some 26), none, (.op (.extract (.tmp 22) 0))⟩,
      ⟨(some 27), none, (.op (.extract (.tmp 22) 1))⟩,
      ⟨(some 28), none, (.op (.extract (.tmp 22) 2))⟩,
      ⟨(some 5), none, (.op (.mov (.tmp 26)))⟩,
      ⟨(some 6), none, (.op (.mov (.tmp 27)))⟩,
      ⟨(some 7), none, (.op (.mov (.tmp 28)))⟩])
    (.seq (.region none [
      ⟨(some 30), none, (.op (.mov (.tmp 1)))⟩,
      ⟨(some 31), none, (.op (.mov (.tmp 0)))⟩,
      ⟨(some 32), none, (.call (.dat (.fn (.func 12) [] [])) [(.tmp 30), (.tmp 31)])⟩,
      ⟨(some 29), none, (.op (.mov (.tmp 32)))⟩,
      ⟨(some 33), none, (.op (.extract (.tmp 29) 0))⟩,
      ⟨(some 34), none, (.op (.extract (.tmp 29) 1))⟩,
      ⟨(some 35), none, (.op (.extract (.tmp 29) 2))⟩,
      ⟨(some 8), none, (.op (.mov (.tmp 33)))⟩,
      ⟨(some 9), none, (.op (.mov (.tmp 34)))⟩,
      ⟨(some 10), none, (.op (.mov (.tmp 35)))⟩])
    (.seq (.seq (.region none [
      ⟨(some 36), none, (.op (.mov (.tmp 7)))⟩,
      ⟨(some 37), none, (.op (.arith .neq (.tmp 36) (.dat (.lit (.int .i64 0)))))⟩])
    (.cond (.tmp 37)
      (.seq (.region none [
        ⟨(some 38), none, (.op (.mov (.tmp 5)))⟩,
        ⟨(some 39), none, (.op (.arith .eql (.tmp 38) (.dat (.lit (.int .i64 0)))))⟩,
        ⟨(some 40), none, (.op (.mov (.tmp 39)))⟩,
        ⟨(some 41), (some (40, true)), (.op (.mov (.tmp 6)))⟩,
        ⟨(some 42), (some (40, true)), (.op (.not (.tmp 41)))⟩,
        ⟨(some 43), none, (.op (.pick (.tmp 40) (.tmp 42) (.dat (.lit (.bool false)))))⟩,
        ⟨(some 44), none, (.op (.mov (.tmp 43)))⟩,
        ⟨(some 45), (some (44, true)), (.op (.mov (.tmp 10)))⟩,
        ⟨(some 46), (some (44, true)), (.op (.arith .neq (.tmp 45) (.dat (.lit (.int .i64 0)))))⟩,
        ⟨(some 47), none, (.op (.pick (.tmp 44) (.tmp 46) (.dat (.lit (.bool false)))))⟩,
        ⟨(some 4), none, (.op (.mov (.tmp 47)))⟩])
      .ret)
      .skip))
    (.seq (.seq (.region none [
      ⟨(some 48), none, (.op (.mov (.tmp 10)))⟩,
      ⟨(some 49), none, (.op (.arith .neq (.tmp 48) (.dat (.lit (.int .i64 0)))))⟩,
      ⟨(some 50), none, (.op (.mov (.tmp 49)))⟩,
      ⟨(some 51), (some (50, false)), (.op (.mov (.tmp 5)))⟩,
      ⟨(some 52), (some (50, false)), (.op (.mov (.tmp 8)))⟩,
      ⟨(some 53), (some (50, false)), (.op (.arith .neq (.tmp 51) (.tmp 52)))⟩,
      ⟨(some 54), none, (.op (.pick (.tmp 50) (.dat (.lit (.bool true))) (.tmp 53)))⟩,
      ⟨(some 55), none, (.op (.mov (.tmp 54)))⟩,
      ⟨(some 56), (some (55, false)), (.op (.mov (.tmp 6)))⟩,
      ⟨(some 57), (some (55, false)), (.op (.mov (.tmp 9)))⟩,
      ⟨(some 58), (some (55, false)), (.op (.ext (.eqBool true) [(.tmp 56), (.tmp 57)]))⟩,
      ⟨(some 59), none, (.op (.pick (.tmp 55) (.dat (.lit (.bool true))) (.tmp 58)))⟩])
    (.cond (.tmp 59)
      (.seq (.region none [
        ⟨(some 4), none, (.op (.mov (.dat (.lit (.bool false)))))⟩])
      .ret)
      .skip))
    (.seq (.region none [
      ⟨(some 60), none, (.op (.mov (.tmp 0)))⟩,
      ⟨(some 61), none, (.op (.len (.tmp 60)))⟩,
      ⟨(some 62), none, (.op (.mov (.tmp 1)))⟩,
      ⟨(some 63), none, (.op (.len (.tmp 62)))⟩,
      ⟨(some 64), none, (.op (.minmax false (.tmp 61) (.tmp 63)))⟩,
      ⟨(some 11), none, (.op (.mov (.tmp 64)))⟩])
    (.seq (.seq (.region none [
      ⟨(some 65), none, (.op (.mov (.tmp 6)))⟩,
      ⟨(some 66), none, (.op (.not (.tmp 65)))⟩])
    (.cond (.tmp 66)
      (.seq (.region (some [[], [0], [0, 1], [0, 1, 2], [0, 1, 2], [0, 1, 2, 3, 4], [0, 1, 2], [0, 1, 2], [0, 1, 2, 6, 7], [0, 1, 2, 3, 4, 5, 6, 7, 8], [0, 1, 2, 3, 4, 5, 6, 7, 8, 9], [0, 1, 2, 3, 4, 5, 6, 7, 8, 9, 10]]) [
        ⟨(some 67), none, (.op (.mov (.tmp 5)))⟩,
        ⟨(some 68), none, (.op (.arith .eql (.tmp 67) (.dat (.lit (.int .i64 0)))))⟩,
        ⟨(some 69), none, (.op (.mov (.tmp 68)))⟩,
        ⟨(some 70), (some (69, true)), (.op (.mov (.tmp 0)))⟩,
        ⟨(some 71), (some (69, true)), (.op (.mov (.tmp 11)))⟩,
        ⟨(some 72), (some (69, true)), (.op (.slice 35 (.tmp 70) none (some (.tmp 71))))⟩,
        ⟨(some 73), (some (69, true)), (.op (.mov (.tmp 1)))⟩,
        ⟨(some 74), (some (69, true)), (.op (.mov (.tmp 11)))⟩,
        ⟨(some 75), (some (69, true)), (.op (.slice 35 (.tmp 73) none (some (.tmp 74))))⟩,
        ⟨(some 76), (some (69, true)), (.call (.dat (.fn (.func 14) [] [])) [(.tmp 72), (.tmp 75)])⟩,
        ⟨(some 77), none, (.op (.pick (.tmp 69) (.tmp 76) (.dat (.lit (.bool false)))))⟩,
        ⟨(some 4), none, (.op (.mov (.tmp 77)))⟩])
      .ret)
      .skip))
    (.seq (.region (some [[], [0], [0, 1], [0, 1, 2], [0, 1, 2], [0, 1, 2, 3, 4], [0, 1, 2, 3, 4, 5], [0, 1, 2, 3, 4, 5, 6], [0, 1, 2, 3, 4, 5, 6, 7], [0, 1, 2, 3, 4, 5, 6, 7], [0, 1, 2, 3, 4, 5, 6, 7, 8, 9], [0, 1, 2, 3, 4, 5, 6, 7], [0, 1, 2, 3, 4, 5, 6, 7], [0, 1, 2, 3, 4, 5, 6, 7, 11, 12], [0, 1, 2, 3, 4, 5, 6, 7, 8, 9, 10, 11, 12, 13], [0, 1, 2, 3, 4, 5, 6, 7, 8, 9, 10, 11, 12, 13, 14], [0, 1, 2, 3, 4, 5, 6, 7, 8, 9, 10, 11, 12, 13, 14, 15], [0, 1, 2, 3, 4, 5, 6, 7, 8, 9, 10, 11, 12, 13, 14, 15, 16], [0, 1, 2, 3, 4, 5, 6, 7, 8, 9, 10, 11, 12, 13, 14, 15, 16], [0, 1, 2, 3, 4, 5, 6, 7, 8, 9, 10, 11, 12, 13, 14, 15, 16, 17, 18], [0, 1, 2, 3, 4, 5, 6, 7, 8, 9, 10, 11, 12, 13, 14, 15, 16, 17, 18, 19], [0, 1, 2, 3, 4, 5, 6, 7, 8, 9, 10, 11, 12, 13, 14, 15, 16], [0, 1, 2, 3, 4, 5, 6, 7, 8, 9, 10, 11, 12, 13, 14, 15, 16], [0, 1, 2, 3, 4, 5, 6, 7, 8, 9, 10, 11, 12, 13, 14, 15, 16, 21, 22], [0, 1, 2, 3, 4, 5, 6, 7, 8, 9, 10, 11, 12, 13, 14, 15, 16, 21, 22, 23], [0, 1, 2, 3, 4, 5, 6, 7, 8, 9, 10, 11, 12, 13, 14, 15, 16, 17, 18, 19, 20, 21, 22, 23, 24], [0, 1, 2, 3, 4, 5, 6, 7, 8, 9, 10, 11, 12, 13, 14, 15, 16, 17, 18, 19, 20, 21, 22, 23, 24, 25], [0, 1, 2, 3, 4, 5, 6, 7, 8, 9, 10, 11, 12, 13, 14, 15, 16, 17, 18, 19, 20, 21, 22, 23, 24, 25, 26], [0, 1, 2, 3, 4, 5, 6, 7, 8, 9, 10, 11, 12, 13, 14, 15, 16, 17, 18, 19, 20, 21, 22, 23, 24, 25, 26, 27]]) [
      ⟨(some 78), none, (.op (.mov (.tmp 5)))⟩,
      ⟨(some 79), none, (.op (.arith .geq (.tmp 78) (.dat (.lit (.int .i64 0)))))⟩,
      ⟨(some 80), none, (.op (.mov (.tmp 79)))⟩,
      ⟨(some 81), (some (80, true)), (.op (.mov (.tmp 5)))⟩,
      ⟨(some 82), (some (80, true)), (.op (.mov (.tmp 11)))⟩,
      ⟨(some 83), (some (80, true)), (.op (.arith .lss (.tmp 81) (.tmp 82)))⟩,
      ⟨(some 84), none, (.op (.pick (.tmp 80) (.tmp 83) (.dat (.lit (.bool false)))))⟩,
      ⟨(some 85), none, (.op (.mov (.tmp 84)))⟩,
      ⟨(some 86), (some (85, true)), (.op (.mov (.tmp 0)))⟩,
      ⟨(some 87), (some (85, true)), (.op (.mov (.tmp 5)))⟩,
      ⟨(some 88), (some (85, true)), (.op (.slice 35 (.tmp 86) none (some (.tmp 87))))⟩,
      ⟨(some 89), (some (85, true)), (.op (.mov (.tmp 1)))⟩,
      ⟨(some 90), (some (85, true)), (.op (.mov (.tmp 5)))⟩,
      ⟨(some 91), (some (85, true)), (.op (.slice 35 (.tmp 89) none (some (.tmp 90))))⟩,
      ⟨(some 92), (some (85, true)), (.call (.dat (.fn (.func 14) [] [])) [(.tmp 88), (.tmp 91)])⟩,
      ⟨(some 93), none, (.op (.pick (.tmp 85) (.tmp 92) (.dat (.lit (.bool false)))))⟩,
      ⟨(some 94), none, (.op (.mov (.tmp 93)))⟩,
      ⟨(some 95), (some (94, true)), (.op (.mov (.tmp 0)))⟩,
      ⟨(some 96), (some (94, true)), (.op (.mov (.tmp 5)))⟩,
      ⟨(some 97), (some (94, true)), (.op (.index 35 (.tmp 95) (.tmp 96)))⟩,
      ⟨(some 98), (some (94, true)), (.op (.load 35 true (.tmp 97)))⟩,
      ⟨(some 99), (some (94, true)), (.op (.mov (.tmp 1)))⟩,
      ⟨(some 100), (some (94, true)), (.op (.mov (.tmp 5)))⟩,
      ⟨(some 101), (some (94, true)), (.op (.index 35 (.tmp 99) (.tmp 100)))⟩,
      ⟨(some 102), (some (94, true)), (.op (.load 35 true (.tmp 101)))⟩,
      ⟨(some 103), (some (94, true)), (.call (.dat (.fn (.func 18) [] [])) [(.tmp 98), (.tmp 102)])⟩,
      ⟨(some 104), (some (94, true)), (.op (.not (.tmp 103)))⟩,
      ⟨(some 105), none, (.op (.pick (.tmp 94) (.tmp 104) (.dat (.lit (.bool false)))))⟩,
      ⟨(some 4), none, (.op (.mov (.tmp 105)))⟩])
    .ret))))))))))
  res := [.tmp 4]
theorem c7 : CmpF Tryd.prog 7 a7 := chkF_cmp (F := Tryd.f7) (by kernel_rfl) mixed (by kernel_rfl)
/-- hansard/hansardlaw08.sane -/
def a8 : AF where
  nt := 197
  body := (.seq (.region none [
      ⟨(some 0), none, (.op (.mov (.dat (.lit (.bool false)))))⟩])
    (.seq (.region none [
      ⟨(some 23), none, (.op (.ext (.mkslW 1) [(.dat (.lit (.int .u8 120)))]))⟩,
      ⟨(some 24), none, (.op (.ext .iceC [(.tmp 23)]))⟩,
      ⟨(some 25), none, (.call (.dat (.fn (.func 10) [] [])) [(.dat (.nil 0)), (.dat (.lit (.int .i64 3))), (.tmp 24)])⟩,
      ⟨(some 22), none, (.op (.mov (.tmp 25)))⟩,
      ⟨(some 26), none, (.op (.extract (.tmp 22) 0))⟩,
      ⟨(some 27), none, (.op (.extract (.tmp 22) 1))⟩,
      ⟨(some 1), none, (.op (.mov (.tmp 26)))⟩,
      ⟨(some 2), none, (.op (.mov (.tmp 27)))⟩])
    (.seq (.region none [
      ⟨(some 29), none, (.op (.mov (.tmp 1)))⟩,
      ⟨(some 30), none, (.op (.ext (.mkslW 1) [(.dat (.lit (.int .u8 121)))]))⟩,
      ⟨(some 31), none, (.op (.ext .iceC [(.tmp 30)]))⟩,
      ⟨(some 32), none, (.call (.dat (.fn (.func 10) [] [])) [(.tmp 29), (.dat (.lit (.int .i64 3))), (.tmp 31)])⟩,
      ⟨(some 28), none, (.op (.mov (.tmp 32)))⟩,
      ⟨(some 33), none, (.op (.extract (.tmp 28) 0))⟩,
      ⟨(some 34), none, (.op (.extract (.tmp 28) 1))⟩,
      ⟨(some 3), none, (.op (.mov (.tmp 33)))⟩,
      ⟨(some 4), none, (.op (.mov (.tmp 34)))⟩])
    (.seq (.region none [
      ⟨(some 36), none, (.op (.mov (.tmp 1)))⟩,
      ⟨(some 37), none, (.op (.ext (.mkslW 1) [(.dat (.lit (.int .u8 122)))]))⟩,
      ⟨(some 38), none, (.op (.ext .iceC [(.tmp 37)]))⟩,
      ⟨(some 39), none, (.call (.dat (.fn (.func 10) [] [])) [(.tmp 36), (.dat (.lit (.int .i64 3))), (.tmp 38)])⟩,
      ⟨(some 35), none, (.op (.mov (.tmp 39)))⟩,
      ⟨(some 40), none, (.op (.extract (.tmp 35) 0))⟩,
      ⟨(some 41), none, (.op (.extract (.tmp 35) 1))⟩,
      ⟨(some 5), none, (.op (.mov (.tmp 40)))⟩,
      ⟨(some 6), none, (.op (.mov (.tmp 41)))⟩])
    (.seq (.region none [
      ⟨(some 43), none, (.call (.dat (.fn (.func 10) [] [])) [(.dat (.nil 0)), (.dat (.lit (.int .i64 24))), (.dat (.nil 0))])⟩,
      ⟨(some 42), none, (.op (.mov (.tmp 43)))⟩,
      ⟨(some 44), none, (.op (.extract (.tmp 42) 0))⟩,
      ⟨(some 45), none, (.op (.extract (.tmp 42) 1))⟩,
      ⟨(some 7), none, (.op (.mov (.tmp 44)))⟩,
      ⟨(some 8), none, (.op (.mov (.tmp 45)))⟩])
    (.seq (.region none [
      ⟨(some 47), none, (.op (.mov (.tmp 1)))⟩,
      ⟨(some 48), none, (.call (.dat (.fn (.func 10) [] [])) [(.tmp 47), (.dat (.lit (.int .i64 4))), (.dat (.nil 0))])⟩,
      ⟨(some 46), none, (.op (.mov (.tmp 48)))⟩,
      ⟨(some 49), none, (.op (.extract (.tmp 46) 0))⟩,
      ⟨(some 50), none, (.op (.extract (.tmp 46) 1))⟩,
      ⟨(some 9), none, (.op (.mov (.tmp 49)))⟩,
      ⟨(some 10), none, (.op (.mov (.tmp 50)))⟩])
    (.seq (.region none [
      ⟨(some 52), none, (.op (.mov (.tmp 3)))⟩,
      ⟨(some 53), none, (.op (.mov (.tmp 5)))⟩,
      ⟨(some 54), none, (.call (.dat (.fn (.func 12) [] [])) [(.tmp 52), (.tmp 53)])⟩,
      ⟨(some 51), none, (.op (.mov (.tmp 54)))⟩,
      ⟨(some 55), none, (.op (.extract (.tmp 51) 0))⟩,
      ⟨(some 56), none, (.op (.extract (.tmp 51) 1))⟩,
      ⟨(some 57), none, (.op (.extract (.tmp 51) 2))⟩,
      ⟨(some 11), none, (.op (.mov (.tmp 55)))⟩,
      ⟨(some 12), none, (.op (.mov (.tmp 56)))⟩,
      ⟨(some 13), none, (.op (.mov (.tmp 57)))⟩])
    (.seq (.region none [
      ⟨(some 59), none, (.op (.mov (.tmp 1)))⟩,
      ⟨(some 60), none, (.op (.mov (.tmp 3)))⟩,
      ⟨(some 61), none, (.call (.dat (.fn (.func 12) [] [])) [(.tmp 59), (.tmp 60)])⟩,
      ⟨(some 58), none, (.op (.mov (.tmp 61)))⟩,
      ⟨(some 62), none, (.op (.extract (.tmp 58) 0))⟩,
      ⟨(some 63), none, (.op (.extract (.tmp 58) 1))⟩,
      ⟨(some 64), none, (.op (.extract (.tmp 58) 2))⟩,
      ⟨(some 14), none, (.op (.mov (.tmp 62)))⟩,
      ⟨(some 15), none, (.op (.mov (.tmp 63)))⟩,
      ⟨(some 16), none, (.op (.mov (.tmp 64)))⟩])
    (.seq (.region none [
      ⟨(some 66), none, (.op (.mov (.tmp 1)))⟩,
      ⟨(some 67), none, (.call (.dat (.fn (.func 12) [] [])) [(.dat (.nil 0)), (.tmp 66)])⟩,
      ⟨(some 65), none, (.op (.mov (.tmp 67)))⟩,
      ⟨(some 68), none, (.op (.extract (.tmp 65) 0))⟩,
      ⟨(some 69), none, (.op (.extract (.tmp 65) 1))⟩,
      ⟨(some 70), none, (.op (.extract (.tmp 65) 2))⟩,
      ⟨(some 17), none, (.op (.mov (.tmp 68)))⟩,
      ⟨(some 18), none, (.op (.mov (.tmp 69)))⟩,
      ⟨(some 19), none, (.op (.mov (.tmp 70)))⟩])
    (.seq (.seq (.region none [
      ⟨(some 71), none, (.op (.mov (.tmp 2)))⟩,
      ⟨(some 72), none, (.op (.arith .neq (.tmp 71) (.dat (.lit (.int .i64 0)))))⟩,
      ⟨(some 73), none, (.op (.mov (.tmp 72)))⟩,
      ⟨(some 74), (some (73, false)), (.op (.mov (.tmp 4)))⟩,
      ⟨(some 75), (some (73, false)), (.op (.arith .neq (.tmp 74) (.dat (.lit (.int .i64 0)))))⟩,
      ⟨(some 76), none, (.op (.pick (.tmp 73) (.dat (.lit (.bool true))) (.tmp 75)))⟩,
      ⟨(some 77), none, (.op (.mov (.tmp 76)))⟩,
      ⟨(some 78), (some (77, false)), (.op (.mov (.tmp 6)))⟩,
      ⟨(some 79), (some (77, false)), (.op (.arith .neq (.tmp 78) (.dat (.lit (.int .i64 0)))))⟩,
      ⟨(some 80), none, (.op (.pick (.tmp 77) (.dat (.lit (.bool true))) (.tmp 79)))⟩,
      ⟨(some 81), none, (.op (.mov (.tmp 80)))⟩,
      ⟨(some 82), (some (81, false)), (.op (.mov (.tmp 8)))⟩,
      ⟨(some 83), (some (81, false)), (.op (.arith .neq (.tmp 82) (.dat (.lit (.int .i64 1)))))⟩,
      ⟨(some 84), none, (.op (.pick (.tmp 81) (.dat (.lit (.bool true))) (.tmp 83)))⟩,
      ⟨(some 85), none, (.op (.mov (.tmp 84)))⟩,
      ⟨(some 86), (some (85, false)), (.op (.mov (.tmp 10)))⟩,
      ⟨(some 87), (some (85, false)), (.op (.arith .neq (.tmp 86) (.dat (.lit (.int .i64 1)))))⟩,
      ⟨(some 88), none, (.op (.pick (.tmp 85) (.dat (.lit (.bool true))) (.tmp 87)))⟩,
      ⟨(some 89), none, (.op (.mov (.tmp 88)))⟩,
      ⟨(some 90), (some (89, false)), (.op (.mov (.tmp 13)))⟩,
      ⟨(some 91), (some (89, false)), (.op (.arith .neq (.tmp 90) (.dat (.lit (.int .i64 0)))))⟩,
      ⟨(some 92), none, (.op (.pick (.tmp 89) (.dat (.lit (.bool true))) (.tmp 91)))⟩,
      ⟨(some 93), none, (.op (.mov (.tmp 92)))⟩,
      ⟨(some 94), (some (93, false)), (.op (.mov (.tmp 16)))⟩,
      ⟨(some 95), (some (93, false)), (.op (.arith .neq (.tmp 94) (.dat (.lit (.int .i64 0)))))⟩,
      ⟨(some 96), none, (.op (.pick (.tmp 93) (.dat (.lit (.bool true))) (.tmp 95)))⟩,
      ⟨(some 97), none, (.op (.mov (.tmp 96)))⟩,
      ⟨(some 98), (some (97, false)), (.op (.mov (.tmp 19)))⟩,
      ⟨(some 99), (some (97, false)), (.op (.arith .neq (.tmp 98) (.dat (.lit (.int .i64 0)))))⟩,
      ⟨(some 100), none, (.op (.pick (.tmp 97) (.dat (.lit (.bool true))) (.tmp 99)))⟩,
      ⟨(some 101), none, (.op (.mov (.tmp 100)))⟩,
      ⟨(some 102), (some (101, false)), (.op (.mov (.tmp 1)))⟩,
      ⟨(some 103), (some (101, false)), (.op (.len (.tmp 102)))⟩,
      ⟨(some 104), (some (101, false)), (.op (.arith .neq (.tmp 103) (.dat (.lit (.int .i64 1)))))⟩,
      ⟨(some 105), none, (.op (.pick (.tmp 101) (.dat (.lit (.bool true))) (.tmp 104)))⟩,
      ⟨(some 106), none, (.op (.mov (.tmp 105)))⟩,
      ⟨(some 107), (some (106, false)), (.op (.mov (.tmp 3)))⟩,
      ⟨(some 108), (some (106, false)), (.op (.len (.tmp 107)))⟩,
      ⟨(some 109), (some (106, false)), (.op (.arith .neq (.tmp 108) (.dat (.lit (.int .i64 2)))))⟩,
      ⟨(some 110), none, (.op (.pick (.tmp 106) (.dat (.lit (.bool true))) (.tmp 109)))⟩,
      ⟨(some 111), none, (.op (.mov (.tmp 110)))⟩,
      ⟨(some 112), (some (111, false)), (.op (.mov (.tmp 5)))⟩,
      ⟨(some 113), (some (111, false)), (.op (.len (.tmp 112)))⟩,
      ⟨(some 114), (some (111, false)), (.op (.arith .neq (.tmp 113) (.dat (.lit (.int .i64 2)))))⟩,
      ⟨(some 115), none, (.op (.pick (.tmp 111) (.dat (.lit (.bool true))) (.tmp 114)))⟩])
    (.cond (.tmp 115)
      (.seq (.region none [
        ⟨(some 0), none, (.op (.mov (.dat (.lit (.bool false)))))⟩])
      .ret)
      .skip))
    (.seq (.seq (.region none [
      ⟨(some 116), none, (.op (.mov (.tmp 11)))⟩,
      ⟨(some 117), none, (.op (.arith .neq (.tmp 116) (.dat (.lit (.int .i64 1)))))⟩,
      ⟨(some 118), none, (.op (.mov (.tmp 117)))⟩,
      ⟨(some 119), (some (118, false)), (.op (.mov (.tmp 12)))⟩,
      ⟨(some 120), (some (118, false)), (.op (.not (.tmp 119)))⟩,
      ⟨(some 121), none, (.op (.pick (.tmp 118) (.dat (.lit (.bool true))) (.tmp 120)))⟩,
      ⟨(some 122), none, (.op (.mov (.tmp 121)))⟩,
      ⟨(some 123), (some (122, false)), (.op (.mov (.tmp 15)))⟩,
      ⟨(some 124), none, (.op (.pick (.tmp 122) (.dat (.lit (.bool true))) (.tmp 123)))⟩,
      ⟨(some 125), none, (.op (.mov (.tmp 124)))⟩,
      ⟨(some 126), (some (125, false)), (.op (.mov (.tmp 18)))⟩,
      ⟨(some 127), none, (.op (.pick (.tmp 125) (.dat (.lit (.bool true))) (.tmp 126)))⟩,
      ⟨(some 128), none, (.op (.mov (.tmp 127)))⟩,
      ⟨(some 129), (some (128, false)), (.call (.dat (.fn (.func 16) [] [])) [(.dat (.nil 0))])⟩,
      ⟨(some 130), (some (128, false)), (.op (.arith .neq (.tmp 129) (.dat (.lit (.int .i64 0)))))⟩,
      ⟨(some 131), none, (.op (.pick (.tmp 128) (.dat (.lit (.bool true))) (.tmp 130)))⟩,
      ⟨(some 132), none, (.op (.mov (.tmp 131)))⟩,
      ⟨(some 133), (some (132, false)), (.op (.mov (.tmp 3)))⟩,
      ⟨(some 134), (some (132, false)), (.call (.dat (.fn (.func 16) [] [])) [(.tmp 133)])⟩,
      ⟨(some 135), (some (132, false)), (.op (.arith .neq (.tmp 134) (.dat (.lit (.int .i64 0)))))⟩,
      ⟨(some 136), none, (.op (.pick (.tmp 132) (.dat (.lit (.bool true))) (.tmp 135)))⟩,
      ⟨(some 137), none, (.op (.mov (.tmp 136)))⟩,
      ⟨(some 138), (some (137, false)), (.op (.build [.lit (.int .i64 0), .lit (.int .i64 0), .lit (.int .u8 0), .lit (.int .u8 0), .lit (.int .u8 0), .lit (.int .u8 0), .lit (.int .u8 0), .lit (.int .u8 0), .lit (.int .u8 0), .lit (.int .u8 0), .lit (.int .u8 0), .lit (.int .u8 0), .lit (.int .u8 0), .lit (.int .u8 0), .lit (.int .u8 0), .lit (.int .u8 0), .lit (.int .u8 0), .lit (.int .u8 0), .lit (.int .u8 0), .lit (.int .u8 0), .lit (.int .u8 0), .lit (.int .u8 0), .lit (.int .u8 0), .lit (.int .u8 0), .lit (.int .u8 0), .lit (.int .u8 0), .lit (.int .u8 0), .lit (.int .u8 0), .lit (.int .u8 0), .lit (.int .u8 0), .lit (.int .u8 0), .lit (.int .u8 0), .lit (.int .u8 0), .lit (.int .u8 0), .nil 1] [(1, 1, (.dat (.lit (.int .i64 1))))]))⟩,
      ⟨(some 139), (some (137, false)), (.op (.mkslice 35 [(.tmp 138)]))⟩,
      ⟨(some 140), (some (137, false)), (.call (.dat (.fn (.func 16) [] [])) [(.tmp 139)])⟩,
      ⟨(some 141), (some (137, false)), (.op (.arith .neq (.tmp 140) (.dat (.lit (.int .i64 80)))))⟩,
      ⟨(some 142), none, (.op (.pick (.tmp 137) (.dat (.lit (.bool true))) (.tmp 141)))⟩,
      ⟨(some 143), none, (.op (.mov (.tmp 142)))⟩,
      ⟨(some 144), (some (143, false)), (.op (.mov (.tmp 3)))⟩,
      ⟨(some 145), (some (143, false)), (.op (.slice 35 (.tmp 144) (some (.dat (.lit (.int .i64 1)))) none))⟩,
      ⟨(some 146), (some (143, false)), (.call (.dat (.fn (.func 16) [] [])) [(.tmp 145)])⟩,
      ⟨(some 147), (some (143, false)), (.op (.arith .neq (.tmp 146) (.dat (.lit (.int .i64 80)))))⟩,
      ⟨(some 148), none, (.op (.pick (.tmp 143) (.dat (.lit (.bool true))) (.tmp 147)))⟩])
    (.cond (.tmp 148)
      (.seq (.region none [
        ⟨(some 0), none, (.op (.mov (.dat (.lit (.bool false)))))⟩])
      .ret)
      .skip))
    (.seq (.region none [
      ⟨(some 149), none, (.call (.dat (.fn (.func 19) [] [])) [(.dat (.lit (.string ⟨#[110, 111, 110, 101]⟩))), (.dat (.nil 0))])⟩,
      ⟨(some 20), none, (.op (.alloc true [.lit (.int .u8 0), .lit (.int .u8 0), .lit (.int .u8 0), .lit (.int .u8 0), .lit (.int .u8 0), .lit (.int .u8 0), .lit (.int .u8 0), .lit (.int .u8 0), .lit (.int .u8 0), .lit (.int .u8 0), .lit (.int .u8 0), .lit (.int .u8 0), .lit (.int .u8 0), .lit (.int .u8 0), .lit (.int .u8 0), .lit (.int .u8 0), .lit (.int .u8 0), .lit (.int .u8 0), .lit (.int .u8 0), .lit (.int .u8 0), .lit (.int .u8 0), .lit (.int .u8 0), .lit (.int .u8 0), .lit (.int .u8 0), .lit (.int .u8 0), .lit (.int .u8 0), .lit (.int .u8 0), .lit (.int .u8 0), .lit (.int .u8 0), .lit (.int .u8 0), .lit (.int .u8 0), .lit (.int .u8 0)]))⟩,
      ⟨none, none, (.op (.store 32 (.tmp 20) (.tmp 149)))⟩])
    (.seq (.region none [
      ⟨(some 150), none, (.op (.mkslice 1 [(.dat (.lit (.int .u8 3))), (.dat (.lit (.int .u8 4))), (.dat (.lit (.int .u8 1))), (.dat (.lit (.int .u8 6))), (.dat (.lit (.int .u8 1))), (.dat (.lit (.int .u8 0))), (.dat (.lit (.int .u8 2))), (.dat (.lit (.int .u8 32)))]))⟩,
      ⟨(some 151), none, (.op (.ext (.sliceA 32 1) [(.tmp 20)]))⟩,
      ⟨(some 152), none, (.op (.ext (.appendW 1 1) [(.tmp 150), (.tmp 151)]))⟩,
      ⟨(some 153), none, (.op (.mkslice 1 [(.dat (.lit (.int .u8 2))), (.dat (.lit (.int .u8 1))), (.dat (.lit (.int .u8 120)))]))⟩,
      ⟨(some 154), none, (.op (.append 1 1 (.tmp 152) (.tmp 153)))⟩,
      ⟨(some 21), none, (.op (.mov (.tmp 154)))⟩])
    (.seq (.region (some [[], [0], [0, 1], [0, 1, 2], [], [0, 1, 2, 3, 4], [0, 1, 2, 3, 4, 5], [0, 1, 2, 3, 4, 5, 6], [0, 1, 2, 3, 4, 5, 6], [0, 1, 2, 3, 4, 5, 6, 7, 8], [0, 1, 2, 3, 4, 5, 6, 7, 8, 9], [0, 1, 2, 3, 4, 5, 6, 7, 8, 9, 10], [0, 1, 2, 3, 4, 5, 6, 7, 8, 9, 10, 11], [0, 1, 2, 3, 4, 5, 6, 7, 8, 9, 10, 11, 12], [0, 1, 2, 3, 4, 5, 6, 7, 8, 9, 10, 11], [0, 1, 2, 3, 4, 5, 6, 7, 8, 9, 10, 11, 12, 13, 14], [0, 1, 2, 3, 4, 5, 6, 7, 8, 9, 10, 11, 12, 13, 14, 15], [0, 1, 2, 3, 4, 5, 6, 7, 8, 9, 10, 11, 12, 13, 14, 15, 16], [0, 1, 2, 3, 4, 5, 6, 7, 8, 9, 10, 11, 12, 13, 14, 15, 16, 17], [0, 1, 2, 3, 4, 5, 6, 7, 8, 9, 10, 11, 12, 13, 14, 15, 16, 17, 18], [0, 1, 2, 3, 4, 5, 6, 7, 8, 9, 10, 11, 12, 13, 14, 15, 16, 17, 18, 19], [0, 1, 2, 3, 4, 5, 6, 7, 8, 9, 10, 11, 12, 13, 14, 15, 16, 17, 18, 19, 20], [0, 1, 2, 3, 4, 5, 6, 7, 8, 9, 10, 11, 12, 13, 14, 15, 16, 17, 18, 19, 20, 21], [0, 1, 2, 3, 4, 5, 6, 7, 8, 9, 10, 11, 12, 13, 14, 15, 16, 17, 18], [0, 1, 2, 3, 4, 5, 6, 7, 8, 9, 10, 11, 12, 13, 14, 15, 16, 17, 18, 23], [0, 1, 2, 3, 4, 5, 6, 7, 8, 9, 10, 11, 12, 13, 14, 15, 16, 17, 18, 19, 20, 21, 22, 23, 24], [0, 1, 2, 3, 4, 5, 6, 7, 8, 9, 10, 11, 12, 13, 14, 15, 16, 17, 18, 19, 20, 21, 22, 23, 24, 25], [0, 1, 2, 3, 4, 5, 6, 7, 8, 9, 10, 11, 12, 13, 14, 15, 16, 17, 18, 19, 20, 21, 22, 23, 24, 25, 26], [0, 1, 2, 3, 4, 5, 6, 7, 8, 9, 10, 11, 12, 13, 14, 15, 16, 17, 18, 19, 20, 21, 22, 23, 24, 25, 26, 27], [0, 1, 2, 3, 4, 5, 6, 7, 8, 9, 10, 11, 12, 13, 14, 15, 16, 17, 18, 19, 20, 21, 22, 23, 24, 25, 26, 27, 28], [0, 1, 2, 3, 4, 5, 6, 7, 8, 9, 10, 11, 12, 13, 14, 15, 16, 17, 18, 19, 20, 21, 22, 23, 24, 25, 26, 27, 28, 29], [0, 1, 2, 3, 4, 5, 6, 7, 8, 9, 10, 11, 12, 13, 14, 15, 16, 17, 18, 19, 20, 21, 22, 23, 24, 25, 26, 27, 28, 29, 30], [0, 1, 2, 3, 4, 5, 6, 7, 8, 9, 10, 11, 12, 13, 14, 15, 16, 17, 18, 19, 20, 21, 22, 23, 24, 25, 26, 27, 28, 29, 30, 31], [0, 1, 2, 3, 4, 5, 6, 7, 8, 9, 10, 11, 12, 13, 14, 15, 16, 17, 18, 19, 20, 21, 22, 23, 24, 25, 26, 27, 28, 29, 30, 31, 32], [0, 1, 2, 3, 4, 5, 6, 7, 8, 9, 10, 11, 12, 13, 14, 15, 16, 17, 18, 19, 20, 21, 22, 23, 24, 25, 26, 27, 28, 29, 30, 31, 32, 33], [0, 1, 2, 3, 4, 5, 6, 7, 8, 9, 10, 11, 12, 13, 14, 15, 16, 17, 18, 19, 20, 21, 22, 23, 24, 25, 26, 27, 28, 29, 30, 31, 32, 33, 34], [0, 1, 2, 3, 4, 5, 6, 7, 8, 9, 10, 11, 12, 13, 14, 15, 16, 17, 18, 19, 20, 21, 22, 23, 24, 25, 26, 27, 28, 29, 30, 31, 32, 33, 34, 35], [0, 1, 2, 3, 4, 5, 6, 7, 8, 9, 10, 11, 12, 13, 14, 15, 16, 17, 18, 19, 20, 21, 22, 23, 24, 25, 26, 27, 28, 29, 30, 31, 32, 33, 34, 35, 36], [0, 1, 2, 3, 4, 5, 6, 7, 8, 9, 10, 11, 12, 13, 14, 15, 16, 17, 18, 19, 20, 21, 22, 23, 24, 25, 26, 27, 28, 29, 30, 31, 32, 33, 34, 35, 36, 37], [0, 1, 2, 3, 4, 5, 6, 7, 8, 9, 10, 11, 12, 13, 14, 15, 16, 17, 18, 19, 20, 21, 22, 23, 24, 25, 26, 27, 28, 29, 30, 31, 32, 33, 34, 35, 36, 37, 38], [0, 1, 2, 3, 4, 5, 6, 7, 8, 9, 10, 11, 12, 13, 14, 15, 16, 17, 18, 19, 20, 21, 22, 23, 24, 25, 26, 27, 28, 29, 30, 31, 32, 33, 34, 35, 36, 37, 38, 39], [0, 1, 2, 3, 4, 5, 6, 7, 8, 9, 10, 11, 12, 13, 14, 15, 16, 17, 18, 19, 20, 21, 22, 23, 24, 25, 26, 27, 28, 29, 30, 31, 32, 33, 34, 35, 36, 37, 38, 39, 40], [0, 1, 2, 3, 4, 5, 6, 7, 8, 9, 10, 11, 12, 13, 14, 15, 16, 17, 18, 19, 20, 21, 22, 23, 24, 25, 26, 27, 28, 29, 30, 31, 32, 33, 34, 35, 36, 37, 38, 39, 40, 41]]) [
      ⟨(some 155), none, (.op (.mov (.tmp 1)))⟩,
      ⟨(some 156), none, (.op (.index 35 (.tmp 155) (.dat (.lit (.int .i64 0)))))⟩,
      ⟨(some 157), none, (.op (.field 2 32 true (.tmp 156)))⟩,
      ⟨(some 158), none, (.op (.load 32 true (.tmp 157)))⟩,
      ⟨(some 159), none, (.op (.load 32 true (.tmp 20)))⟩,
      ⟨(some 160), none, (.op (.ext (.eqrow false [.int .u8, .int .u8, .int .u8, .int .u8, .int .u8, .int .u8, .int .u8, .int .u8, .int .u8, .int .u8, .int .u8, .int .u8, .int .u8, .int .u8, .int .u8, .int .u8, .int .u8, .int .u8, .int .u8, .int .u8, .int .u8, .int .u8, .int .u8, .int .u8, .int .u8, .int .u8, .int .u8, .int .u8, .int .u8, .int .u8, .int .u8, .int .u8]) [(.tmp 158), (.tmp 159)]))⟩,
      ⟨(some 161), none, (.op (.mov (.tmp 160)))⟩,
      ⟨(some 162), (some (161, true)), (.call (.dat (.fn (.func 15) [] [])) [(.dat (.nil 0))])⟩,
      ⟨(some 163), (some (161, true)), (.op (.load 32 true (.tmp 20)))⟩,
      ⟨(some 164), (some (161, true)), (.op (.ext (.eqrow false [.int .u8, .int .u8, .int .u8, .int .u8, .int .u8, .int .u8, .int .u8, .int .u8, .int .u8, .int .u8, .int .u8, .int .u8, .int .u8, .int .u8, .int .u8, .int .u8, .int .u8, .int .u8, .int .u8, .int .u8, .int .u8, .int .u8, .int .u8, .int .u8, .int .u8, .int .u8, .int .u8, .int .u8, .int .u8, .int .u8, .int .u8, .int .u8]) [(.tmp 162), (.tmp 163)]))⟩,
      ⟨(some 165), none, (.op (.pick (.tmp 161) (.tmp 164) (.dat (.lit (.bool false)))))⟩,
      ⟨(some 166), none, (.op (.mov (.tmp 165)))⟩,
      ⟨(some 167), (some (166, true)), (.op (.mov (.tmp 1)))⟩,
      ⟨(some 168), (some (166, true)), (.call (.dat (.fn (.func 15) [] [])) [(.tmp 167)])⟩,
      ⟨(some 169), (some (166, true)), (.op (.mov (.tmp 21)))⟩,
      ⟨(some 170), (some (166, true)), (.call (.dat (.fn (.func 19) [] [])) [(.dat (.lit (.string ⟨#[108, 105, 110, 107]⟩))), (.tmp 169)])⟩,
      ⟨(some 171), (some (166, true)), (.op (.ext (.eqrow false [.int .u8, .int .u8, .int .u8, .int .u8, .int .u8, .int .u8, .int .u8, .int .u8, .int .u8, .int .u8, .int .u8, .int .u8, .int .u8, .int .u8, .int .u8, .int .u8, .int .u8, .int .u8, .int .u8, .int .u8, .int .u8, .int .u8, .int .u8, .int .u8, .int .u8, .int .u8, .int .u8, .int .u8, .int .u8, .int .u8, .int .u8, .int .u8]) [(.tmp 168), (.tmp 170)]))⟩,
      ⟨(some 172), none, (.op (.pick (.tmp 166) (.tmp 171) (.dat (.lit (.bool false)))))⟩,
      ⟨(some 173), none, (.op (.mov (.tmp 172)))⟩,
      ⟨(some 174), (some (173, true)), (.op (.mov (.tmp 3)))⟩,
      ⟨(some 175), (some (173, true)), (.op (.index 35 (.tmp 174) (.dat (.lit (.int .i64 1)))))⟩,
      ⟨(some 176), (some (173, true)), (.op (.field 2 32 true (.tmp 175)))⟩,
      ⟨(some 177), (some (173, true)), (.op (.load 32 true (.tmp 176)))⟩,
      ⟨(some 178), (some (173, true)), (.op (.mov (.tmp 1)))⟩,
      ⟨(some 179), (some (173, true)), (.call (.dat (.fn (.func 15) [] [])) [(.tmp 178)])⟩,
      ⟨(some 180), (some (173, true)), (.op (.ext (.eqrow false [.int .u8, .int .u8, .int .u8, .int .u8, .int .u8, .int .u8, .int .u8, .int .u8, .int .u8, .int .u8, .int .u8, .int .u8, .int .u8, .int .u8, .int .u8, .int .u8, .int .u8, .int .u8, .int .u8, .int .u8, .int .u8, .int .u8, .int .u8, .int .u8, .int .u8, .int .u8, .int .u8, .int .u8, .int .u8, .int .u8, .int .u8, .int .u8]) [(.tmp 177), (.tmp 179)]))⟩,
      ⟨(some 181), none, (.op (.pick (.tmp 173) (.tmp 180) (.dat (.lit (.bool false)))))⟩,
      ⟨(some 182), none, (.op (.mov (.tmp 181)))⟩,
      ⟨(some 183), (some (182, true)), (.op (.mov (.tmp 3)))⟩,
      ⟨(some 184), (some (182, true)), (.op (.index 35 (.tmp 183) (.dat (.lit (.int .i64 1)))))⟩,
      ⟨(some 185), (some (182, true)), (.op (.field 1 1 false (.tmp 184)))⟩,
      ⟨(some 186), (some (182, true)), (.op (.load 1 false (.tmp 185)))⟩,
      ⟨(some 187), (some (182, true)), (.op (.arith .eql (.tmp 186) (.dat (.lit (.int .i64 1)))))⟩,
      ⟨(some 188), none, (.op (.pick (.tmp 182) (.tmp 187) (.dat (.lit (.bool false)))))⟩,
      ⟨(some 189), none, (.op (.mov (.tmp 188)))⟩,
      ⟨(some 190), (some (189, true)), (.op (.mov (.tmp 3)))⟩,
      ⟨(some 191), (some (189, true)), (.op (.index 35 (.tmp 190) (.dat (.lit (.int .i64 1)))))⟩,
      ⟨(some 192), (some (189, true)), (.op (.field 34 1 false (.tmp 191)))⟩,
      ⟨(some 193), (some (189, true)), (.op (.load 1 false (.tmp 192)))⟩,
      ⟨(some 194), (some (189, true)), (.op (.ext .bytesStr [(.tmp 193)]))⟩,
      ⟨(some 195), (some (189, true)), (.op (.arith .eql (.tmp 194) (.dat (.lit (.string ⟨#[121]⟩)))))⟩,
      ⟨(some 196), none, (.op (.pick (.tmp 189) (.tmp 195) (.dat (.lit (.bool false)))))⟩,
      ⟨(some 0), none, (.op (.mov (.tmp 196)))⟩])
    .ret))))))))))))))
  res := [.tmp 0]
theorem c8 : CmpF Tryd.prog 8 a8 := chkF_cmp (F := Tryd.f8) (by kernel_rfl) mixed (by kernel_rfl)
/-- hansard/hansardref08.Few -/
def a9 : AF where
  nt := 20
  body := (.seq (.region none [
      ⟨(some 2), none, (.op (.mov (.dat (.lit (.bool false)))))⟩])
    (.seq (.seq (.region none [
      ⟨(some 4), none, (.op (.mov (.tmp 0)))⟩,
      ⟨(some 5), none, (.op (.len (.tmp 4)))⟩,
      ⟨(some 6), none, (.op (.arith .gtr (.tmp 5) (.dat (.lit (.int .i64 16)))))⟩])
    (.cond (.tmp 6)
      (.seq (.region none [
        ⟨(some 2), none, (.op (.mov (.dat (.lit (.bool false)))))⟩])
      .ret)
      .skip))
    (.seq (.seq (.region none [
      ⟨(some 3), none, (.op (.mov (.dat (.lit (.int .i64 0)))))⟩])
    (.block 0
      (.loop
        (.seq (.seq (.region none [
          ⟨(some 7), none, (.op (.mov (.tmp 3)))⟩,
          ⟨(some 8), none, (.op (.mov (.tmp 0)))⟩,
          ⟨(some 9), none, (.op (.len (.tmp 8)))⟩,
          ⟨(some 10), none, (.op (.arith .lss (.tmp 7) (.tmp 9)))⟩])
        (.cond (.tmp 10)
          .skip
          (.exit 0)))
        (.seq (.block 1
          (.seq (.region none [
            ⟨(some 13), none, (.op (.mov (.tmp 0)))⟩,
            ⟨(some 14), none, (.op (.mov (.tmp 3)))⟩,
            ⟨(some 15), none, (.op (.index 35 (.tmp 13) (.tmp 14)))⟩,
            ⟨(some 16), none, (.op (.field 34 1 false (.tmp 15)))⟩,
            ⟨(some 17), none, (.op (.load 1 false (.tmp 16)))⟩,
            ⟨(some 18), none, (.op (.len (.tmp 17)))⟩,
            ⟨(some 19), none, (.op (.arith .gtr (.tmp 18) (.dat (.lit (.int .i64 300)))))⟩])
          (.cond (.tmp 19)
            (.seq (.region none [
              ⟨(some 2), none, (.op (.mov (.dat (.lit (.bool false)))))⟩])
            .ret)
            .skip)))
        (.region none [
          ⟨(some 11), none, (.op (.mov (.tmp 3)))⟩,
          ⟨(some 12), none, (.op (.arith .add (.tmp 11) (.dat (.lit (.int .i64 1)))))⟩,
          ⟨(some 3), none, (.op (.mov (.tmp 12)))⟩]))))))
    (.seq (.region none [
      ⟨(some 2), none, (.op (.mov (.dat (.lit (.bool true)))))⟩])
    .ret))))
  res := [.tmp 2]
theorem c9 : CmpF Tryd.prog 9 a9 := chkF_cmp (F := Tryd.f9) (by kernel_rfl) mixed (by kernel_rfl)
/-- hansard/chain.Add -/
def a10 : AF where
  nt := 58
  body := (.seq (.region none [
      ⟨(some 6), none, (.op (.mov (.dat (.nil 35))))⟩,
      ⟨(some 7), none, (.op (.mov (.dat (.lit (.int .i64 0)))))⟩])
    (.seq (.seq (.region none [
      ⟨(some 9), none, (.op (.mov (.tmp 0)))⟩,
      ⟨(some 10), none, (.call (.dat (.fn (.func 16) [] [])) [(.tmp 9)])⟩,
      ⟨(some 7), none, (.op (.mov (.tmp 10)))⟩])
    (.seq (.region none [
      ⟨(some 11), none, (.op (.mov (.tmp 7)))⟩,
      ⟨(some 12), none, (.op (.arith .neq (.tmp 11) (.dat (.lit (.int .i64 0)))))⟩])
    (.cond (.tmp 12)
      (.seq (.region none [
        ⟨(some 13), none, (.op (.mov (.tmp 7)))⟩,
        ⟨(some 6), none, (.op (.mov (.dat (.nil 35))))⟩,
        ⟨(some 7), none, (.op (.mov (.tmp 13)))⟩])
      .ret)
      .skip)))
    (.seq (.seq (.region none [
      ⟨(some 14), none, (.op (.mov (.tmp 1)))⟩,
      ⟨(some 15), none, (.op (.arith .lss (.tmp 14) (.dat (.lit (.int .i64 0)))))⟩,
      ⟨(some 16), none, (.op (.mov (.tmp 15)))⟩,
      ⟨(some 17), (some (16, false)), (.op (.mov (.tmp 1)))⟩,
      ⟨(some 18), (some (16, false)), (.op (.arith .geq (.tmp 17) (.dat (.lit (.int .i64 24)))))⟩,
      ⟨(some 19), none, (.op (.pick (.tmp 16) (.dat (.lit (.bool true))) (.tmp 18)))⟩,
      ⟨(some 20), none, (.op (.mov (.tmp 19)))⟩,
      ⟨(some 21), (some (20, false)), (.op (.mov (.tmp 0)))⟩,
      ⟨(some 22), (some (20, false)), (.op (.len (.tmp 21)))⟩,
      ⟨(some 23), (some (20, false)), (.op (.arith .gtr (.tmp 22) (.dat (.lit (.int .i64 0)))))⟩,
      ⟨(some 24), (some (20, false)), (.op (.mov (.tmp 23)))⟩,
      ⟨(some 25), (some (24, true)), (.op (.mov (.tmp 1)))⟩,
      ⟨(some 26), (some (24, true)), (.op (.mov (.tmp 0)))⟩,
      ⟨(some 27), (some (24, true)), (.op (.index 35 (.tmp 26) (.dat (.lit (.int .i64 0)))))⟩,
      ⟨(some 28), (some (24, true)), (.op (.field 0 1 false (.tmp 27)))⟩,
      ⟨(some 29), (some (24, true)), (.op (.load 1 false (.tmp 28)))⟩,
      ⟨(some 30), (some (24, true)), (.op (.arith .neq (.tmp 25) (.tmp 29)))⟩,
      ⟨(some 31), (some (20, false)), (.op (.pick (.tmp 24) (.tmp 30) (.dat (.lit (.bool false)))))⟩,
      ⟨(some 32), none, (.op (.pick (.tmp 20) (.dat (.lit (.bool true))) (.tmp 31)))⟩,
      ⟨(some 33), none, (.op (.mov (.tmp 32)))⟩,
      ⟨(some 34), (some (33, false)), (.op (.mov (.tmp 2)))⟩,
      ⟨(some 35), (some (33, false)), (.op (.len (.tmp 34)))⟩,
      ⟨(some 36), (some (33, false)), (.op (.arith .gtr (.tmp 35) (.dat (.lit (.int .i64 65536)))))⟩,
      ⟨(some 37), none, (.op (.pick (.tmp 33) (.dat (.lit (.bool true))) (.tmp 36)))⟩])
    (.cond (.tmp 37)
      (.seq (.region none [
        ⟨(some 6), none, (.op (.mov (.dat (.nil 35))))⟩,
        ⟨(some 7), none, (.op (.mov (.dat (.lit (.int .i64 1)))))⟩])
      .ret)
      .skip))
    (.seq (.seq (.region none [
      ⟨(some 38), none, (.op (.mov (.tmp 0)))⟩,
      ⟨(some 39), none, (.op (.len (.tmp 38)))⟩,
      ⟨(some 40), none, (.op (.arith .eql (.tmp 39) (.dat (.lit (.int .i64 1024)))))⟩])
    (.cond (.tmp 40)
      (.seq (.region none [
        ⟨(some 6), none, (.op (.mov (.dat (.nil 35))))⟩,
        ⟨(some 7), none, (.op (.mov (.dat (.lit (.int .i64 2)))))⟩])
      .ret)
      .skip))
    (.seq (.region none [
      ⟨(some 41), none, (.op (.mov (.tmp 1)))⟩,
      ⟨(some 42), none, (.op (.mov (.tmp 0)))⟩,
      ⟨(some 43), none, (.op (.len (.tmp 42)))⟩,
      ⟨(some 44), none, (.op (.mov (.tmp 0)))⟩,
      ⟨(some 45), none, (.call (.dat (.fn (.func 15) [] [])) [(.tmp 44)])⟩,
      ⟨(some 46), none, (.op (.mov (.tmp 2)))⟩,
      ⟨(some 47), none, (.call (.dat (.fn (.func 20) [] [])) [(.tmp 46)])⟩,
      ⟨(some 48), none, (.op (.build [.lit (.int .i64 0), .lit (.int .i64 0), .lit (.int .u8 0), .lit (.int .u8 0), .lit (.int .u8 0), .lit (.int .u8 0), .lit (.int .u8 0), .lit (.int .u8 0), .lit (.int .u8 0), .lit (.int .u8 0), .lit (.int .u8 0), .lit (.int .u8 0), .lit (.int .u8 0), .lit (.int .u8 0), .lit (.int .u8 0), .lit (.int .u8 0), .lit (.int .u8 0), .lit (.int .u8 0), .lit (.int .u8 0), .lit (.int .u8 0), .lit (.int .u8 0), .lit (.int .u8 0), .lit (.int .u8 0), .lit (.int .u8 0), .lit (.int .u8 0), .lit (.int .u8 0), .lit (.int .u8 0), .lit (.int .u8 0), .lit (.int .u8 0), .lit (.int .u8 0), .lit (.int .u8 0), .lit (.int .u8 0), .lit (.int .u8 0), .lit (.int .u8 0), .nil 1] [(0, 1, (.tmp 41)), (1, 1, (.tmp 43)), (2, 32, (.tmp 45)), (34, 1, (.tmp 47))]))⟩,
      ⟨(some 8), none, (.op (.alloc true [.lit (.int .i64 0), .lit (.int .i64 0), .lit (.int .u8 0), .lit (.int .u8 0), .lit (.int .u8 0), .lit (.int .u8 0), .lit (.int .u8 0), .lit (.int .u8 0), .lit (.int .u8 0), .lit (.int .u8 0), .lit (.int .u8 0), .lit (.int .u8 0), .lit (.int .u8 0), .lit (.int .u8 0), .lit (.int .u8 0), .lit (.int .u8 0), .lit (.int .u8 0), .lit (.int .u8 0), .lit (.int .u8 0), .lit (.int .u8 0), .lit (.int .u8 0), .lit (.int .u8 0), .lit (.int .u8 0), .lit (.int .u8 0), .lit (.int .u8 0), .lit (.int .u8 0), .lit (.int .u8 0), .lit (.int .u8 0), .lit (.int .u8 0), .lit (.int .u8 0), .lit (.int .u8 0), .lit (.int .u8 0), .lit (.int .u8 0), .lit (.int .u8 0), .nil 1]))⟩,
      ⟨none, none, (.op (.store 35 (.tmp 8) (.tmp 48)))⟩])
    (.seq (.region (some [[], [], [1], [], [3], [0, 1, 2, 3, 4], [], [6], [0, 1, 2, 3, 4, 5, 6, 7], [0, 1, 2, 3, 4, 5, 6, 7, 8], [0, 1, 2, 3, 4, 5, 6, 7, 8, 9]]) [
      ⟨(some 49), none, (.op (.mov (.tmp 0)))⟩,
      ⟨(some 50), none, (.op (.mov (.tmp 0)))⟩,
      ⟨(some 51), none, (.op (.len (.tmp 50)))⟩,
      ⟨(some 52), none, (.op (.mov (.tmp 0)))⟩,
      ⟨(some 53), none, (.op (.len (.tmp 52)))⟩,
      ⟨(some 54), none, (.op (.slice3 35 (.tmp 49) none (.tmp 51) (.tmp 53)))⟩,
      ⟨(some 55), none, (.op (.load 35 true (.tmp 8)))⟩,
      ⟨(some 56), none, (.op (.mkslice 35 [(.tmp 55)]))⟩,
      ⟨(some 57), none, (.op (.append 35 72 (.tmp 54) (.tmp 56)))⟩,
      ⟨(some 6), none, (.op (.mov (.tmp 57)))⟩,
      ⟨(some 7), none, (.op (.mov (.dat (.lit (.int .i64 0)))))⟩])
    .ret))))))
  res := [.tmp 6, .tmp 7]
theorem c10 : CmpF Tryd.prog 10 a10 := chkF_cmp (F := Tryd.f10) (by kernel_rfl) mixed (by kernel_rfl)
/-- hansard/hansardref08.Add -/
def a11 : AF where
  nt := 55
  body := (.seq (.region none [
      ⟨(some 6), none, (.op (.mov (.dat (.nil 35))))⟩,
      ⟨(some 7), none, (.op (.mov (.dat (.lit (.int .i64 0)))))⟩])
    (.seq (.region none [
      ⟨(some 10), none, (.op (.mov (.tmp 0)))⟩,
      ⟨(some 11), none, (.call (.dat (.fn (.func 21) [] [])) [(.tmp 10)])⟩,
      ⟨(some 8), none, (.op (.mov (.tmp 11)))⟩])
    (.seq (.seq (.region none [
      ⟨(some 12), none, (.op (.mov (.tmp 8)))⟩,
      ⟨(some 13), none, (.op (.arith .neq (.tmp 12) (.dat (.lit (.int .i64 0)))))⟩])
    (.cond (.tmp 13)
      (.seq (.region none [
        ⟨(some 14), none, (.op (.mov (.tmp 8)))⟩,
        ⟨(some 6), none, (.op (.mov (.dat (.nil 35))))⟩,
        ⟨(some 7), none, (.op (.mov (.tmp 14)))⟩])
      .ret)
      .skip))
    (.seq (.seq (.region none [
      ⟨(some 15), none, (.op (.mov (.tmp 1)))⟩,
      ⟨(some 16), none, (.op (.arith .lss (.tmp 15) (.dat (.lit (.int .i64 0)))))⟩,
      ⟨(some 17), none, (.op (.mov (.tmp 16)))⟩,
      ⟨(some 18), (some (17, false)), (.op (.mov (.tmp 1)))⟩,
      ⟨(some 19), (some (17, false)), (.op (.arith .geq (.tmp 18) (.dat (.lit (.int .i64 24)))))⟩,
      ⟨(some 20), none, (.op (.pick (.tmp 17) (.dat (.lit (.bool true))) (.tmp 19)))⟩,
      ⟨(some 21), none, (.op (.mov (.tmp 20)))⟩,
      ⟨(some 22), (some (21, false)), (.op (.mov (.tmp 0)))⟩,
      ⟨(some 23), (some (21, false)), (.op (.len (.tmp 22)))⟩,
      ⟨(some 24), (some (21, false)), (.op (.arith .gtr (.tmp 23) (.dat (.lit (.int .i64 0)))))⟩,
      ⟨(some 25), (some (21, false)), (.op (.mov (.tmp 24)))⟩,
      ⟨(some 26), (some (25, true)), (.op (.mov (.tmp 0)))⟩,
      ⟨(some 27), (some (25, true)), (.op (.index 35 (.tmp 26) (.dat (.lit (.int .i64 0)))))⟩,
      ⟨(some 28), (some (25, true)), (.op (.field 0 1 false (.tmp 27)))⟩,
      ⟨(some 29), (some (25, true)), (.op (.load 1 false (.tmp 28)))⟩,
      ⟨(some 30), (some (25, true)), (.op (.mov (.tmp 1)))⟩,
      ⟨(some 31), (some (25, true)), (.op (.arith .neq (.tmp 29) (.tmp 30)))⟩,
      ⟨(some 32), (some (21, false)), (.op (.pick (.tmp 25) (.tmp 31) (.dat (.lit (.bool false)))))⟩,
      ⟨(some 33), none, (.op (.pick (.tmp 21) (.dat (.lit (.bool true))) (.tmp 32)))⟩,
      ⟨(some 34), none, (.op (.mov (.tmp 33)))⟩,
      ⟨(some 35), (some (34, false)), (.op (.mov (.tmp 2)))⟩,
      ⟨(some 36), (some (34, false)), (.op (.len (.tmp 35)))⟩,
      ⟨(some 37), (some (34, false)), (.op (.arith .gtr (.tmp 36) (.dat (.lit (.int .i64 65536)))))⟩,
      ⟨(some 38), none, (.op (.pick (.tmp 34) (.dat (.lit (.bool true))) (.tmp 37)))⟩])
    (.cond (.tmp 38)
      (.seq (.region none [
        ⟨(some 6), none, (.op (.mov (.dat (.nil 35))))⟩,
        ⟨(some 7), none, (.op (.mov (.dat (.lit (.int .i64 1)))))⟩])
      .ret)
      .skip))
    (.seq (.seq (.region none [
      ⟨(some 39), none, (.op (.mov (.tmp 0)))⟩,
      ⟨(some 40), none, (.op (.len (.tmp 39)))⟩,
      ⟨(some 41), none, (.op (.arith .eql (.tmp 40) (.dat (.lit (.int .i64 1024)))))⟩])
    (.cond (.tmp 41)
      (.seq (.region none [
        ⟨(some 6), none, (.op (.mov (.dat (.nil 35))))⟩,
        ⟨(some 7), none, (.op (.mov (.dat (.lit (.int .i64 2)))))⟩])
      .ret)
      .skip))
    (.seq (.region none [
      ⟨(some 42), none, (.op (.mkslice 35 []))⟩,
      ⟨(some 43), none, (.op (.mov (.tmp 0)))⟩,
      ⟨(some 44), none, (.op (.append 35 72 (.tmp 42) (.tmp 43)))⟩,
      ⟨(some 9), none, (.op (.mov (.tmp 44)))⟩])
    (.seq (.region none [
      ⟨(some 45), none, (.op (.mov (.tmp 9)))⟩,
      ⟨(some 46), none, (.op (.mov (.tmp 1)))⟩,
      ⟨(some 47), none, (.op (.mov (.tmp 0)))⟩,
      ⟨(some 48), none, (.op (.len (.tmp 47)))⟩,
      ⟨(some 49), none, (.op (.mov (.tmp 0)))⟩,
      ⟨(some 50), none, (.call (.dat (.fn (.func 22) [] [])) [(.tmp 49)])⟩,
      ⟨(some 51), none, (.op (.mov (.tmp 2)))⟩,
      ⟨(some 52), none, (.op (.build [.lit (.int .i64 0), .lit (.int .i64 0), .lit (.int .u8 0), .lit (.int .u8 0), .lit (.int .u8 0), .lit (.int .u8 0), .lit (.int .u8 0), .lit (.int .u8 0), .lit (.int .u8 0), .lit (.int .u8 0), .lit (.int .u8 0), .lit (.int .u8 0), .lit (.int .u8 0), .lit (.int .u8 0), .lit (.int .u8 0), .lit (.int .u8 0), .lit (.int .u8 0), .lit (.int .u8 0), .lit (.int .u8 0), .lit (.int .u8 0), .lit (.int .u8 0), .lit (.int .u8 0), .lit (.int .u8 0), .lit (.int .u8 0), .lit (.int .u8 0), .lit (.int .u8 0), .lit (.int .u8 0), .lit (.int .u8 0), .lit (.int .u8 0), .lit (.int .u8 0), .lit (.int .u8 0), .lit (.int .u8 0), .lit (.int .u8 0), .lit (.int .u8 0), .nil 1] [(0, 1, (.tmp 46)), (1, 1, (.tmp 48)), (2, 32, (.tmp 50)), (34, 1, (.tmp 51))]))⟩,
      ⟨(some 53), none, (.op (.mkslice 35 [(.tmp 52)]))⟩,
      ⟨(some 54), none, (.op (.append 35 72 (.tmp 45) (.tmp 53)))⟩,
      ⟨(some 6), none, (.op (.mov (.tmp 54)))⟩,
      ⟨(some 7), none, (.op (.mov (.dat (.lit (.int .i64 0)))))⟩])
    .ret)))))))
  res := [.tmp 6, .tmp 7]
theorem c11 : CmpF Tryd.prog 11 a11 := chkF_cmp (F := Tryd.f11) (by kernel_rfl) mixed (by kernel_rfl)
/-- hansard/chain.Part -/
def a12 : AF where
  nt := 44
  body := (.seq (.region none [
      ⟨(some 4), none, (.op (.mov (.dat (.lit (.int .i64 0)))))⟩,
      ⟨(some 5), none, (.op (.mov (.dat (.lit (.bool false)))))⟩,
      ⟨(some 6), none, (.op (.mov (.dat (.lit (.int .i64 0)))))⟩])
    (.seq (.seq (.region none [
      ⟨(some 7), none, (.op (.mov (.tmp 0)))⟩,
      ⟨(some 8), none, (.call (.dat (.fn (.func 16) [] [])) [(.tmp 7)])⟩,
      ⟨(some 6), none, (.op (.mov (.tmp 8)))⟩])
    (.seq (.region none [
      ⟨(some 9), none, (.op (.mov (.tmp 6)))⟩,
      ⟨(some 10), none, (.op (.arith .neq (.tmp 9) (.dat (.lit (.int .i64 0)))))⟩])
    (.cond (.tmp 10)
      (.seq (.region none [
        ⟨(some 11), none, (.op (.mov (.tmp 6)))⟩,
        ⟨(some 4), none, (.op (.mov (.dat (.lit (.int .i64 0)))))⟩,
        ⟨(some 5), none, (.op (.mov (.dat (.lit (.bool false)))))⟩,
        ⟨(some 6), none, (.op (.mov (.tmp 11)))⟩])
      .ret)
      .skip)))
    (.seq (.seq (.region none [
      ⟨(some 12), none, (.op (.mov (.tmp 1)))⟩,
      ⟨(some 13), none, (.call (.dat (.fn (.func 16) [] [])) [(.tmp 12)])⟩,
      ⟨(some 6), none, (.op (.mov (.tmp 13)))⟩])
    (.seq (.region none [
      ⟨(some 14), none, (.op (.mov (.tmp 6)))⟩,
      ⟨(some 15), none, (.op (.arith .neq (.tmp 14) (.dat (.lit (.int .i64 0)))))⟩])
    (.cond (.tmp 15)
      (.seq (.region none [
        ⟨(some 16), none, (.op (.mov (.tmp 6)))⟩,
        ⟨(some 4), none, (.op (.mov (.dat (.lit (.int .i64 0)))))⟩,
        ⟨(some 5), none, (.op (.mov (.dat (.lit (.bool false)))))⟩,
        ⟨(some 6), none, (.op (.mov (.tmp 16)))⟩])
      .ret)
      .skip)))
    (.seq (.seq (.region (some [[], [0], [0, 1], [0, 1, 2], [0, 1, 2, 3], [0, 1, 2, 3, 4], [0, 1, 2, 3, 4, 5], [0, 1, 2, 3, 4, 5, 6], [0, 1, 2, 3, 4, 5, 6, 7], [0, 1, 2, 3, 4, 5, 6, 7, 8], [0, 1, 2, 3, 4, 5, 6, 7, 8, 9], [0, 1, 2, 3, 4, 5, 6, 7, 8, 9, 10], [0, 1, 2, 3, 4, 5, 6, 7, 8, 9, 10, 11], [0, 1, 2, 3, 4, 5, 6, 7, 8], [0, 1, 2, 3, 4, 5, 6, 7, 8, 13], [0, 1, 2, 3, 4, 5, 6, 7, 8, 13, 14], [0, 1, 2, 3, 4, 5, 6, 7, 8, 13, 14, 15], [0, 1, 2, 3, 4, 5, 6, 7, 8, 9, 10, 11, 12, 13, 14, 15, 16], [0, 1, 2, 3, 4, 5, 6, 7, 8, 9, 10, 11, 12, 13, 14, 15, 16, 17]]) [
      ⟨(some 17), none, (.op (.mov (.tmp 0)))⟩,
      ⟨(some 18), none, (.op (.len (.tmp 17)))⟩,
      ⟨(some 19), none, (.op (.arith .gtr (.tmp 18) (.dat (.lit (.int .i64 0)))))⟩,
      ⟨(some 20), none, (.op (.mov (.tmp 19)))⟩,
      ⟨(some 21), (some (20, true)), (.op (.mov (.tmp 1)))⟩,
      ⟨(some 22), (some (20, true)), (.op (.len (.tmp 21)))⟩,
      ⟨(some 23), (some (20, true)), (.op (.arith .gtr (.tmp 22) (.dat (.lit (.int .i64 0)))))⟩,
      ⟨(some 24), none, (.op (.pick (.tmp 20) (.tmp 23) (.dat (.lit (.bool false)))))⟩,
      ⟨(some 25), none, (.op (.mov (.tmp 24)))⟩,
      ⟨(some 26), (some (25, true)), (.op (.mov (.tmp 0)))⟩,
      ⟨(some 27), (some (25, true)), (.op (.index 35 (.tmp 26) (.dat (.lit (.int .i64 0)))))⟩,
      ⟨(some 28), (some (25, true)), (.op (.field 0 1 false (.tmp 27)))⟩,
      ⟨(some 29), (some (25, true)), (.op (.load 1 false (.tmp 28)))⟩,
      ⟨(some 30), (some (25, true)), (.op (.mov (.tmp 1)))⟩,
      ⟨(some 31), (some (25, true)), (.op (.index 35 (.tmp 30) (.dat (.lit (.int .i64 0)))))⟩,
      ⟨(some 32), (some (25, true)), (.op (.field 0 1 false (.tmp 31)))⟩,
      ⟨(some 33), (some (25, true)), (.op (.load 1 false (.tmp 32)))⟩,
      ⟨(some 34), (some (25, true)), (.op (.arith .neq (.tmp 29) (.tmp 33)))⟩,
      ⟨(some 35), none, (.op (.pick (.tmp 25) (.tmp 34) (.dat (.lit (.bool false)))))⟩])
    (.cond (.tmp 35)
      (.seq (.region none [
        ⟨(some 4), none, (.op (.mov (.dat (.lit (.int .i64 0)))))⟩,
        ⟨(some 5), none, (.op (.mov (.dat (.lit (.bool false)))))⟩,
        ⟨(some 6), none, (.op (.mov (.dat (.lit (.int .i64 80)))))⟩])
      .ret)
      .skip))
    (.seq (.region none [
      ⟨(some 37), none, (.op (.mov (.tmp 0)))⟩,
      ⟨(some 38), none, (.op (.mov (.tmp 1)))⟩,
      ⟨(some 39), none, (.call (.dat (.fn (.func 23) [] [])) [(.tmp 37), (.tmp 38), (.dat (.fn (.func 24) [] []))])⟩,
      ⟨(some 36), none, (.op (.mov (.tmp 39)))⟩,
      ⟨(some 40), none, (.op (.extract (.tmp 36) 0))⟩,
      ⟨(some 41), none, (.op (.extract (.tmp 36) 1))⟩,
      ⟨(some 4), none, (.op (.mov (.tmp 40)))⟩,
      ⟨(some 5), none, (.op (.mov (.tmp 41)))⟩])
    (.seq (.region none [
      ⟨(some 42), none, (.op (.mov (.tmp 4)))⟩,
      ⟨(some 43), none, (.op (.mov (.tmp 5)))⟩,
      ⟨(some 4), none, (.op (.mov (.tmp 42)))⟩,
      ⟨(some 5), none, (.op (.mov (.tmp 43)))⟩,
      ⟨(some 6), none, (.op (.mov (.dat (.lit (.int .i64 0)))))⟩])
    .ret))))))
  res := [.tmp 4, .tmp 5, .tmp 6]
theorem c12 : CmpF Tryd.prog 12 a12 := chkF_cmp (F := Tryd.f12) (by kernel_rfl) mixed (by kernel_rfl)
/-- hansard/hansardref08.Part -/
def a13 : AF where
  nt := 62
  body := (.seq (.region none [
      ⟨(some 4), none, (.op (.mov (.dat (.lit (.int .i64 0)))))⟩,
      ⟨(some 5), none, (.op (.mov (.dat (.lit (.bool false)))))⟩,
      ⟨(some 6), none, (.op (.mov (.dat (.lit (.int .i64 0)))))⟩])
    (.seq (.region none [
      ⟨(some 10), none, (.op (.mov (.tmp 0)))⟩,
      ⟨(some 11), none, (.call (.dat (.fn (.func 21) [] [])) [(.tmp 10)])⟩,
      ⟨(some 7), none, (.op (.mov (.tmp 11)))⟩])
    (.seq (.seq (.region none [
      ⟨(some 12), none, (.op (.mov (.tmp 7)))⟩,
      ⟨(some 13), none, (.op (.arith .neq (.tmp 12) (.dat (.lit (.int .i64 0)))))⟩])
    (.cond (.tmp 13)
      (.seq (.region none [
        ⟨(some 14), none, (.op (.mov (.tmp 7)))⟩,
        ⟨(some 4), none, (.op (.mov (.dat (.lit (.int .i64 0)))))⟩,
        ⟨(some 5), none, (.op (.mov (.dat (.lit (.bool false)))))⟩,
        ⟨(some 6), none, (.op (.mov (.tmp 14)))⟩])
      .ret)
      .skip))
    (.seq (.region none [
      ⟨(some 15), none, (.op (.mov (.tmp 1)))⟩,
      ⟨(some 16), none, (.call (.dat (.fn (.func 21) [] [])) [(.tmp 15)])⟩,
      ⟨(some 8), none, (.op (.mov (.tmp 16)))⟩])
    (.seq (.seq (.region none [
      ⟨(some 17), none, (.op (.mov (.tmp 8)))⟩,
      ⟨(some 18), none, (.op (.arith .neq (.tmp 17) (.dat (.lit (.int .i64 0)))))⟩])
    (.cond (.tmp 18)
      (.seq (.region none [
        ⟨(some 19), none, (.op (.mov (.tmp 8)))⟩,
        ⟨(some 4), none, (.op (.mov (.dat (.lit (.int .i64 0)))))⟩,
        ⟨(some 5), none, (.op (.mov (.dat (.lit (.bool false)))))⟩,
        ⟨(some 6), none, (.op (.mov (.tmp 19)))⟩])
      .ret)
      .skip))
    (.seq (.seq (.region (some [[], [0], [0, 1], [0, 1, 2], [0, 1, 2, 3], [0, 1, 2, 3, 4], [0, 1, 2, 3, 4, 5], [0, 1, 2, 3, 4, 5, 6], [0, 1, 2, 3, 4, 5, 6, 7], [0, 1, 2, 3, 4, 5, 6, 7, 8], [0, 1, 2, 3, 4, 5, 6, 7, 8, 9], [0, 1, 2, 3, 4, 5, 6, 7, 8, 9, 10], [0, 1, 2, 3, 4, 5, 6, 7, 8, 9, 10, 11], [0, 1, 2, 3, 4, 5, 6, 7, 8], [0, 1, 2, 3, 4, 5, 6, 7, 8, 13], [0, 1, 2, 3, 4, 5, 6, 7, 8, 13, 14], [0, 1, 2, 3, 4, 5, 6, 7, 8, 13, 14, 15], [0, 1, 2, 3, 4, 5, 6, 7, 8, 9, 10, 11, 12, 13, 14, 15, 16], [0, 1, 2, 3, 4, 5, 6, 7, 8, 9, 10, 11, 12, 13, 14, 15, 16, 17]]) [
      ⟨(some 20), none, (.op (.mov (.tmp 0)))⟩,
      ⟨(some 21), none, (.op (.len (.tmp 20)))⟩,
      ⟨(some 22), none, (.op (.arith .gtr (.tmp 21) (.dat (.lit (.int .i64 0)))))⟩,
      ⟨(some 23), none, (.op (.mov (.tmp 22)))⟩,
      ⟨(some 24), (some (23, true)), (.op (.mov (.tmp 1)))⟩,
      ⟨(some 25), (some (23, true)), (.op (.len (.tmp 24)))⟩,
      ⟨(some 26), (some (23, true)), (.op (.arith .gtr (.tmp 25) (.dat (.lit (.int .i64 0)))))⟩,
      ⟨(some 27), none, (.op (.pick (.tmp 23) (.tmp 26) (.dat (.lit (.bool false)))))⟩,
      ⟨(some 28), none, (.op (.mov (.tmp 27)))⟩,
      ⟨(some 29), (some (28, true)), (.op (.mov (.tmp 0)))⟩,
      ⟨(some 30), (some (28, true)), (.op (.index 35 (.tmp 29) (.dat (.lit (.int .i64 0)))))⟩,
      ⟨(some 31), (some (28, true)), (.op (.field 0 1 false (.tmp 30)))⟩,
      ⟨(some 32), (some (28, true)), (.op (.load 1 false (.tmp 31)))⟩,
      ⟨(some 33), (some (28, true)), (.op (.mov (.tmp 1)))⟩,
      ⟨(some 34), (some (28, true)), (.op (.index 35 (.tmp 33) (.dat (.lit (.int .i64 0)))))⟩,
      ⟨(some 35), (some (28, true)), (.op (.field 0 1 false (.tmp 34)))⟩,
      ⟨(some 36), (some (28, true)), (.op (.load 1 false (.tmp 35)))⟩,
      ⟨(some 37), (some (28, true)), (.op (.arith .neq (.tmp 32) (.tmp 36)))⟩,
      ⟨(some 38), none, (.op (.pick (.tmp 28) (.tmp 37) (.dat (.lit (.bool false)))))⟩])
    (.cond (.tmp 38)
      (.seq (.region none [
        ⟨(some 4), none, (.op (.mov (.dat (.lit (.int .i64 0)))))⟩,
        ⟨(some 5), none, (.op (.mov (.dat (.lit (.bool false)))))⟩,
        ⟨(some 6), none, (.op (.mov (.dat (.lit (.int .i64 80)))))⟩])
      .ret)
      .skip))
    (.seq (.seq (.region none [
      ⟨(some 9), none, (.op (.mov (.dat (.lit (.int .i64 0)))))⟩])
    (.block 0
      (.loop
        (.seq (.seq (.region none [
          ⟨(some 39), none, (.op (.mov (.tmp 9)))⟩,
          ⟨(some 40), none, (.op (.mov (.tmp 0)))⟩,
          ⟨(some 41), none, (.op (.len (.tmp 40)))⟩,
          ⟨(some 42), none, (.op (.arith .lss (.tmp 39) (.tmp 41)))⟩,
          ⟨(some 43), none, (.op (.mov (.tmp 42)))⟩,
          ⟨(some 44), (some (43, true)), (.op (.mov (.tmp 9)))⟩,
          ⟨(some 45), (some (43, true)), (.op (.mov (.tmp 1)))⟩,
          ⟨(some 46), (some (43, true)), (.op (.len (.tmp 45)))⟩,
          ⟨(some 47), (some (43, true)), (.op (.arith .lss (.tmp 44) (.tmp 46)))⟩,
          ⟨(some 48), none, (.op (.pick (.tmp 43) (.tmp 47) (.dat (.lit (.bool false)))))⟩])
        (.cond (.tmp 48)
          .skip
          (.exit 0)))
        (.seq (.block 1
          (.seq (.region (some [[], [], [0, 1], [0, 1, 2], [], [], [4, 5], [4, 5, 6], [0, 1, 2, 3, 4, 5, 6, 7], [0, 1, 2, 3, 4, 5, 6, 7, 8]]) [
            ⟨(some 51), none, (.op (.mov (.tmp 0)))⟩,
            ⟨(some 52), none, (.op (.mov (.tmp 9)))⟩,
            ⟨(some 53), none, (.op (.index 35 (.tmp 51) (.tmp 52)))⟩,
            ⟨(some 54), none, (.op (.load 35 true (.tmp 53)))⟩,
            ⟨(some 55), none, (.op (.mov (.tmp 1)))⟩,
            ⟨(some 56), none, (.op (.mov (.tmp 9)))⟩,
            ⟨(some 57), none, (.op (.index 35 (.tmp 55) (.tmp 56)))⟩,
            ⟨(some 58), none, (.op (.load 35 true (.tmp 57)))⟩,
            ⟨(some 59), none, (.call (.dat (.fn (.func 18) [] [])) [(.tmp 54), (.tmp 58)])⟩,
            ⟨(some 60), none, (.op (.not (.tmp 59)))⟩])
          (.cond (.tmp 60)
            (.seq (.region none [
              ⟨(some 61), none, (.op (.mov (.tmp 9)))⟩,
              ⟨(some 4), none, (.op (.mov (.tmp 61)))⟩,
              ⟨(some 5), none, (.op (.mov (.dat (.lit (.bool true)))))⟩,
              ⟨(some 6), none, (.op (.mov (.dat (.lit (.int .i64 0)))))⟩])
            .ret)
            .skip)))
        (.region none [
          ⟨(some 49), none, (.op (.mov (.tmp 9)))⟩,
          ⟨(some 50), none, (.op (.arith .add (.tmp 49) (.dat (.lit (.int .i64 1)))))⟩,
          ⟨(some 9), none, (.op (.mov (.tmp 50)))⟩]))))))
    (.seq (.region none [
      ⟨(some 4), none, (.op (.mov (.dat (.lit (.int .i64 0)))))⟩,
      ⟨(some 5), none, (.op (.mov (.dat (.lit (.bool false)))))⟩,
      ⟨(some 6), none, (.op (.mov (.dat (.lit (.int .i64 0)))))⟩])
    .ret))))))))
  res := [.tmp 4, .tmp 5, .tmp 6]
theorem c13 : CmpF Tryd.prog 13 a13 := chkF_cmp (F := Tryd.f13) (by kernel_rfl) mixed (by kernel_rfl)
/-- hansard/hansardref08.Same -/
def a14 : AF where
  nt := 27
  body := (.seq (.region none [
      ⟨(some 4), none, (.op (.mov (.dat (.lit (.bool false)))))⟩])
    (.seq (.seq (.region none [
      ⟨(some 6), none, (.op (.mov (.tmp 0)))⟩,
      ⟨(some 7), none, (.op (.len (.tmp 6)))⟩,
      ⟨(some 8), none, (.op (.mov (.tmp 1)))⟩,
      ⟨(some 9), none, (.op (.len (.tmp 8)))⟩,
      ⟨(some 10), none, (.op (.arith .neq (.tmp 7) (.tmp 9)))⟩])
    (.cond (.tmp 10)
      (.seq (.region none [
        ⟨(some 4), none, (.op (.mov (.dat (.lit (.bool false)))))⟩])
      .ret)
      .skip))
    (.seq (.seq (.region none [
      ⟨(some 5), none, (.op (.mov (.dat (.lit (.int .i64 0)))))⟩])
    (.block 0
      (.loop
        (.seq (.seq (.region none [
          ⟨(some 11), none, (.op (.mov (.tmp 5)))⟩,
          ⟨(some 12), none, (.op (.mov (.tmp 0)))⟩,
          ⟨(some 13), none, (.op (.len (.tmp 12)))⟩,
          ⟨(some 14), none, (.op (.arith .lss (.tmp 11) (.tmp 13)))⟩])
        (.cond (.tmp 14)
          .skip
          (.exit 0)))
        (.seq (.block 1
          (.seq (.region (some [[], [], [0, 1], [0, 1, 2], [], [], [4, 5], [4, 5, 6], [0, 1, 2, 3, 4, 5, 6, 7], [0, 1, 2, 3, 4, 5, 6, 7, 8]]) [
            ⟨(some 17), none, (.op (.mov (.tmp 0)))⟩,
            ⟨(some 18), none, (.op (.mov (.tmp 5)))⟩,
            ⟨(some 19), none, (.op (.index 35 (.tmp 17) (.tmp 18)))⟩,
            ⟨(some 20), none, (.op (.load 35 true (.tmp 19)))⟩,
            ⟨(some 21), none, (.op (.mov (.tmp 1)))⟩,
            ⟨(some 22), none, (.op (.mov (.tmp 5)))⟩,
            ⟨(some 23), none, (.op (.index 35 (.tmp 21) (.tmp 22)))⟩,
            ⟨(some 24), none, (.op (.load 35 true (.tmp 23)))⟩,
            ⟨(some 25), none, (.call (.dat (.fn (.func 18) [] [])) [(.tmp 20), (.tmp 24)])⟩,
            ⟨(some 26), none, (.op (.not (.tmp 25)))⟩])
          (.cond (.tmp 26)
            (.seq (.region none [
              ⟨(some 4), none, (.op (.mov (.dat (.lit (.bool false)))))⟩])
            .ret)
            .skip)))
        (.region none [
          ⟨(some 15), none, (.op (.mov (.tmp 5)))⟩,
          ⟨(some 16), none, (.op (.arith .add (.tmp 15) (.dat (.lit (.int .i64 1)))))⟩,
          ⟨(some 5), none, (.op (.mov (.tmp 16)))⟩]))))))
    (.seq (.region none [
      ⟨(some 4), none, (.op (.mov (.dat (.lit (.bool true)))))⟩])
    .ret))))
  res := [.tmp 4]
theorem c14 : CmpF Tryd.prog 14 a14 := chkF_cmp (F := Tryd.f14) (by kernel_rfl) mixed (by kernel_rfl)
/-- hansard/chain.Head -/
def a15 : AF where
  nt := 36
  body := (.seq (.region none [
      ⟨(some 2), none, (.op (.alloc true [.lit (.int .u8 0), .lit (.int .u8 0), .lit (.int .u8 0), .lit (.int .u8 0), .lit (.int .u8 0), .lit (.int .u8 0), .lit (.int .u8 0), .lit (.int .u8 0), .lit (.int .u8 0), .lit (.int .u8 0), .lit (.int .u8 0), .lit (.int .u8 0), .lit (.int .u8 0), .lit (.int .u8 0), .lit (.int .u8 0), .lit (.int .u8 0), .lit (.int .u8 0), .lit (.int .u8 0), .lit (.int .u8 0), .lit (.int .u8 0), .lit (.int .u8 0), .lit (.int .u8 0), .lit (.int .u8 0), .lit (.int .u8 0), .lit (.int .u8 0), .lit (.int .u8 0), .lit (.int .u8 0), .lit (.int .u8 0), .lit (.int .u8 0), .lit (.int .u8 0), .lit (.int .u8 0), .lit (.int .u8 0)]))⟩])
    (.seq (.seq (.region none [
      ⟨(some 6), none, (.op (.mov (.tmp 0)))⟩,
      ⟨(some 7), none, (.op (.len (.tmp 6)))⟩,
      ⟨(some 8), none, (.op (.arith .eql (.tmp 7) (.dat (.lit (.int .i64 0)))))⟩])
    (.cond (.tmp 8)
      (.seq (.region none [
        ⟨(some 9), none, (.call (.dat (.fn (.func 19) [] [])) [(.dat (.lit (.string ⟨#[110, 111, 110, 101]⟩))), (.dat (.nil 0))])⟩,
        ⟨none, none, (.op (.store 32 (.tmp 2) (.tmp 9)))⟩])
      .ret)
      .skip))
    (.seq (.region none [
      ⟨(some 10), none, (.op (.mov (.tmp 0)))⟩,
      ⟨(some 11), none, (.op (.mov (.tmp 0)))⟩,
      ⟨(some 12), none, (.op (.len (.tmp 11)))⟩,
      ⟨(some 13), none, (.op (.arith .sub (.tmp 12) (.dat (.lit (.int .i64 1)))))⟩,
      ⟨(some 14), none, (.op (.index 35 (.tmp 10) (.tmp 13)))⟩,
      ⟨(some 15), none, (.op (.load 35 true (.tmp 14)))⟩,
      ⟨(some 3), none, (.op (.alloc true [.lit (.int .i64 0), .lit (.int .i64 0), .lit (.int .u8 0), .lit (.int .u8 0), .lit (.int .u8 0), .lit (.int .u8 0), .lit (.int .u8 0), .lit (.int .u8 0), .lit (.int .u8 0), .lit (.int .u8 0), .lit (.int .u8 0), .lit (.int .u8 0), .lit (.int .u8 0), .lit (.int .u8 0), .lit (.int .u8 0), .lit (.int .u8 0), .lit (.int .u8 0), .lit (.int .u8 0), .lit (.int .u8 0), .lit (.int .u8 0), .lit (.int .u8 0), .lit (.int .u8 0), .lit (.int .u8 0), .lit (.int .u8 0), .lit (.int .u8 0), .lit (.int .u8 0), .lit (.int .u8 0), .lit (.int .u8 0), .lit (.int .u8 0), .lit (.int .u8 0), .lit (.int .u8 0), .lit (.int .u8 0), .lit (.int .u8 0), .lit (.int .u8 0), .nil 1]))⟩,
      ⟨none, none, (.op (.store 35 (.tmp 3) (.tmp 15)))⟩])
    (.seq (.region (some [[], [0], [0, 1], [], [3], [0, 1, 2, 3, 4], [], [6], [0, 1, 2, 3, 4, 5, 6, 7], [], [9], [0, 1, 2, 3, 4, 5, 6, 7, 8, 9, 10], [0, 1, 2, 3, 4, 5, 6, 7, 8, 9, 10, 11], [0, 1, 2, 3, 4, 5, 6, 7, 8, 9, 10, 11, 12], [0, 1, 2, 3, 4, 5, 6, 7, 8, 9, 10, 11, 12, 13], [0, 1, 2, 3, 4, 5, 6, 7, 8, 9, 10, 11, 12, 13, 14], [0, 1, 2, 3, 4, 5, 6, 7, 8, 9, 10, 11, 12, 13, 14, 15], [0, 1, 2, 3, 4, 5, 6, 7, 8, 9, 10, 11, 12, 13, 14, 15], [0, 1, 2, 3, 4, 5, 6, 7, 8, 9, 10, 11, 12, 13, 14, 15, 16], [0, 1, 2, 3, 4, 5, 6, 7, 8, 9, 10, 11, 12, 13, 14, 15, 16, 17, 18]]) [
      ⟨(some 17), none, (.op (.field 0 1 false (.tmp 3)))⟩,
      ⟨(some 18), none, (.op (.load 1 false (.tmp 17)))⟩,
      ⟨(some 19), none, (.call (.dat (.fn (.func 28) [] [])) [(.tmp 18)])⟩,
      ⟨(some 20), none, (.op (.field 1 1 false (.tmp 3)))⟩,
      ⟨(some 21), none, (.op (.load 1 false (.tmp 20)))⟩,
      ⟨(some 22), none, (.call (.dat (.fn (.func 28) [] [])) [(.tmp 21)])⟩,
      ⟨(some 23), none, (.op (.field 2 32 true (.tmp 3)))⟩,
      ⟨(some 24), none, (.op (.ext (.sliceA 32 1) [(.tmp 23)]))⟩,
      ⟨(some 25), none, (.call (.dat (.fn (.func 29) [] [])) [(.tmp 24)])⟩,
      ⟨(some 26), none, (.op (.field 34 1 false (.tmp 3)))⟩,
      ⟨(some 27), none, (.op (.load 1 false (.tmp 26)))⟩,
      ⟨(some 28), none, (.call (.dat (.fn (.func 29) [] [])) [(.tmp 27)])⟩,
      ⟨(some 29), none, (.op (.mkslice 4 [(.tmp 19), (.tmp 22), (.tmp 25), (.tmp 28)]))⟩,
      ⟨(some 30), none, (.call (.dat (.fn (.func 27) [] [])) [(.tmp 29)])⟩,
      ⟨(some 31), none, (.call (.dat (.fn (.func 26) [] [])) [(.tmp 30)])⟩,
      ⟨(some 16), none, (.op (.mov (.tmp 31)))⟩,
      ⟨(some 32), none, (.op (.extract (.tmp 16) 0))⟩,
      ⟨(some 33), none, (.op (.extract (.tmp 16) 1))⟩,
      ⟨(some 4), none, (.op (.mov (.tmp 32)))⟩,
      ⟨(some 5), none, (.op (.mov (.tmp 33)))⟩])
    (.seq (.region none [
      ⟨(some 34), none, (.op (.mov (.tmp 4)))⟩,
      ⟨(some 35), none, (.call (.dat (.fn (.func 19) [] [])) [(.dat (.lit (.string ⟨#[108, 105, 110, 107]⟩))), (.tmp 34)])⟩,
      ⟨none, none, (.op (.store 32 (.tmp 2) (.tmp 35)))⟩])
    .ret)))))
  res := [.cell 2 32 true]
theorem c15 : CmpF Tryd.prog 15 a15 := chkF_cmp (F := Tryd.f15) (by kernel_rfl) mixed (by kernel_rfl)
/-- hansard/chain.Check -/
def a16 : AF where
  nt := 50
  body := (.seq (.region none [
      ⟨(some 1), none, (.op (.box false (.tmp 0)))⟩,
      ⟨(some 2), none, (.op (.alloc false [.lit (.int .i64 0)]))⟩])
    (.seq (.seq (.region none [
      ⟨(some 6), none, (.op (.load 1 false (.tmp 1)))⟩,
      ⟨(some 7), none, (.op (.len (.tmp 6)))⟩,
      ⟨(some 8), none, (.op (.arith .gtr (.tmp 7) (.dat (.lit (.int .i64 1024)))))⟩])
    (.cond (.tmp 8)
      (.seq (.region none [
        ⟨none, none, (.op (.store 1 (.tmp 2) (.dat (.lit (.int .i64 2)))))⟩])
      .ret)
      .skip))
    (.seq (.region none [
      ⟨(some 3), none, (.op (.alloc false [.lit (.int .i64 0)]))⟩,
      ⟨none, none, (.op (.store 1 (.tmp 3) (.dat (.lit (.int .i64 0)))))⟩])
    (.seq (.seq (.region none [
      ⟨(some 9), none, (.op (.load 1 false (.tmp 1)))⟩,
      ⟨(some 10), none, (.call (.dat (.fn (.func 30) [] [])) [(.tmp 9)])⟩])
    (.block 0
      (.range (.tmp 10) [11, 12]
        (.seq (.region none [
          ⟨(some 4), none, (.op (.alloc true [.lit (.int .i64 0), .lit (.int .i64 0), .lit (.int .u8 0), .lit (.int .u8 0), .lit (.int .u8 0), .lit (.int .u8 0), .lit (.int .u8 0), .lit (.int .u8 0), .lit (.int .u8 0), .lit (.int .u8 0), .lit (.int .u8 0), .lit (.int .u8 0), .lit (.int .u8 0), .lit (.int .u8 0), .lit (.int .u8 0), .lit (.int .u8 0), .lit (.int .u8 0), .lit (.int .u8 0), .lit (.int .u8 0), .lit (.int .u8 0), .lit (.int .u8 0), .lit (.int .u8 0), .lit (.int .u8 0), .lit (.int .u8 0), .lit (.int .u8 0), .lit (.int .u8 0), .lit (.int .u8 0), .lit (.int .u8 0), .lit (.int .u8 0), .lit (.int .u8 0), .lit (.int .u8 0), .lit (.int .u8 0), .lit (.int .u8 0), .lit (.int .u8 0), .nil 1]))⟩,
          ⟨none, none, (.op (.store 35 (.tmp 4) (.tmp 11)))⟩])
        (.region none [
          ⟨(some 5), none, (.op (.alloc true [.lit (.int .u8 0), .lit (.int .u8 0), .lit (.int .u8 0), .lit (.int .u8 0), .lit (.int .u8 0), .lit (.int .u8 0), .lit (.int .u8 0), .lit (.int .u8 0), .lit (.int .u8 0), .lit (.int .u8 0), .lit (.int .u8 0), .lit (.int .u8 0), .lit (.int .u8 0), .lit (.int .u8 0), .lit (.int .u8 0), .lit (.int .u8 0), .lit (.int .u8 0), .lit (.int .u8 0), .lit (.int .u8 0), .lit (.int .u8 0), .lit (.int .u8 0), .lit (.int .u8 0), .lit (.int .u8 0), .lit (.int .u8 0), .lit (.int .u8 0), .lit (.int .u8 0), .lit (.int .u8 0), .lit (.int .u8 0), .lit (.int .u8 0), .lit (.int .u8 0), .lit (.int .u8 0), .lit (.int .u8 0)]))⟩,
          ⟨none, none, (.op (.store 32 (.tmp 5) (.tmp 12)))⟩]))
        (.block 1
          (.seq (.seq (.region (some [[], [0], [], [2], [2, 3], [2, 3, 4], [0, 1, 2, 3, 4, 5], [0, 1, 2, 3, 4, 5, 6], [0, 1, 2, 3, 4, 5, 6, 7], [0, 1, 2, 3, 4, 5, 6, 7, 8], [0, 1, 2, 3, 4, 5, 6, 7, 8, 9], [0, 1, 2, 3, 4, 5, 6, 7, 8, 9, 10], [0, 1, 2, 3, 4, 5, 6, 7, 8, 9, 10, 11], [0, 1, 2, 3, 4, 5, 6, 7, 8, 9, 10, 11, 12], [0, 1, 2, 3, 4, 5, 6, 7, 8, 9, 10, 11, 12, 13], [0, 1, 2, 3, 4, 5, 6, 7, 8, 9, 10, 11, 12, 13, 14], [0, 1, 2, 3, 4, 5, 6, 7, 8, 9, 10, 11, 12, 13, 14, 15], [0, 1, 2, 3, 4, 5, 6, 7, 8, 9, 10, 11, 12, 13, 14, 15, 16], [0, 1, 2, 3, 4, 5, 6, 7, 8, 9, 10, 11, 12, 13, 14, 15, 16, 17], [0, 1, 2, 3, 4, 5, 6, 7, 8, 9, 10, 11, 12, 13, 14, 15, 16, 17, 18], [0, 1, 2, 3, 4, 5, 6, 7, 8, 9, 10, 11, 12, 13, 14, 15, 16, 17], [0, 1, 2, 3, 4, 5, 6, 7, 8, 9, 10, 11, 12, 13, 14, 15, 16, 17, 18, 19, 20], [0, 1, 2, 3, 4, 5, 6, 7, 8, 9, 10, 11, 12, 13, 14, 15, 16, 17, 18, 19, 20, 21], [0, 1, 2, 3, 4, 5, 6, 7, 8, 9, 10, 11, 12, 13, 14, 15, 16, 17, 18, 19, 20, 21, 22], [0, 1, 2, 3, 4, 5, 6, 7, 8, 9, 10, 11, 12, 13, 14, 15, 16, 17, 18, 19, 20, 21, 22, 23], [0, 1, 2, 3, 4, 5, 6, 7, 8, 9, 10, 11, 12, 13, 14, 15, 16, 17, 18, 19, 20, 21, 22, 23, 24], [0, 1, 2, 3, 4, 5, 6, 7, 8, 9, 10, 11, 12, 13, 14, 15, 16, 17, 18, 19, 20, 21, 22, 23, 24, 25], [0, 1, 2, 3, 4, 5, 6, 7, 8, 9, 10, 11, 12, 13, 14, 15, 16, 17, 18, 19, 20, 21, 22, 23, 24, 25, 26], [0, 1, 2, 3, 4, 5, 6, 7, 8, 9, 10, 11, 12, 13, 14, 15, 16, 17, 18, 19, 20, 21, 22, 23, 24, 25, 26, 27], [0, 1, 2, 3, 4, 5, 6, 7, 8, 9, 10, 11, 12, 13, 14, 15, 16, 17, 18, 19, 20, 21, 22, 23, 24, 25, 26, 27, 28], [0, 1, 2, 3, 4, 5, 6, 7, 8, 9, 10, 11, 12, 13, 14, 15, 16, 17, 18, 19, 20, 21, 22, 23, 24, 25, 26, 27, 28, 29], [0, 1, 2, 3, 4, 5, 6, 7, 8, 9, 10, 11, 12, 13, 14, 15, 16, 17, 18, 19, 20, 21, 22, 23, 24, 25, 26, 27, 28, 29, 30], [0, 1, 2, 3, 4, 5, 6, 7, 8, 9, 10, 11, 12, 13, 14, 15, 16, 17, 18, 19, 20, 21, 22, 23, 24, 25, 26, 27, 28, 29], [0, 1, 2, 3, 4, 5, 6, 7, 8, 9, 10, 11, 12, 13, 14, 15, 16, 17, 18, 19, 20, 21, 22, 23, 24, 25, 26, 27, 28, 29, 30, 31, 32], [0, 1, 2, 3, 4, 5, 6, 7, 8, 9, 10, 11, 12, 13, 14, 15, 16, 17, 18, 19, 20, 21, 22, 23, 24, 25, 26, 27, 28, 29, 30, 31, 32, 33]]) [
            ⟨(some 13), none, (.op (.field 0 1 false (.tmp 4)))⟩,
            ⟨(some 14), none, (.op (.load 1 false (.tmp 13)))⟩,
            ⟨(some 15), none, (.op (.load 1 false (.tmp 1)))⟩,
            ⟨(some 16), none, (.op (.index 35 (.tmp 15) (.dat (.lit (.int .i64 0)))))⟩,
            ⟨(some 17), none, (.op (.field 0 1 false (.tmp 16)))⟩,
            ⟨(some 18), none, (.op (.load 1 false (.tmp 17)))⟩,
            ⟨(some 19), none, (.op (.arith .neq (.tmp 14) (.tmp 18)))⟩,
            ⟨(some 20), none, (.op (.mov (.tmp 19)))⟩,
            ⟨(some 21), (some (20, false)), (.op (.field 0 1 false (.tmp 4)))⟩,
            ⟨(some 22), (some (20, false)), (.op (.load 1 false (.tmp 21)))⟩,
            ⟨(some 23), (some (20, false)), (.op (.arith .lss (.tmp 22) (.dat (.lit (.int .i64 0)))))⟩,
            ⟨(some 24), none, (.op (.pick (.tmp 20) (.dat (.lit (.bool true))) (.tmp 23)))⟩,
            ⟨(some 25), none, (.op (.mov (.tmp 24)))⟩,
            ⟨(some 26), (some (25, false)), (.op (.field 0 1 false (.tmp 4)))⟩,
            ⟨(some 27), (some (25, false)), (.op (.load 1 false (.tmp 26)))⟩,
            ⟨(some 28), (some (25, false)), (.op (.arith .geq (.tmp 27) (.dat (.lit (.int .i64 24)))))⟩,
            ⟨(some 29), none, (.op (.pick (.tmp 25) (.dat (.lit (.bool true))) (.tmp 28)))⟩,
            ⟨(some 30), none, (.op (.mov (.tmp 29)))⟩,
            ⟨(some 31), (some (30, false)), (.op (.field 1 1 false (.tmp 4)))⟩,
            ⟨(some 32), (some (30, false)), (.op (.load 1 false (.tmp 31)))⟩,
            ⟨(some 33), (some (30, false)), (.op (.load 1 false (.tmp 3)))⟩,
            ⟨(some 34), (some (30, false)), (.op (.arith .neq (.tmp 32) (.tmp 33)))⟩,
            ⟨(some 35), none, (.op (.pick (.tmp 30) (.dat (.lit (.bool true))) (.tmp 34)))⟩,
            ⟨(some 36), none, (.op (.mov (.tmp 35)))⟩,
            ⟨(some 37), (some (36, false)), (.op (.field 34 1 false (.tmp 4)))⟩,
            ⟨(some 38), (some (36, false)), (.op (.load 1 false (.tmp 37)))⟩,
            ⟨(some 39), (some (36, false)), (.op (.len (.tmp 38)))⟩,
            ⟨(some 40), (some (36, false)), (.op (.arith .gtr (.tmp 39) (.dat (.lit (.int .i64 65536)))))⟩,
            ⟨(some 41), none, (.op (.pick (.tmp 36) (.dat (.lit (.bool true))) (.tmp 40)))⟩,
            ⟨(some 42), none, (.op (.mov (.tmp 41)))⟩,
            ⟨(some 43), (some (42, false)), (.op (.field 2 32 true (.tmp 4)))⟩,
            ⟨(some 44), (some (42, false)), (.op (.load 32 true (.tmp 43)))⟩,
            ⟨(some 45), (some (42, false)), (.op (.load 32 true (.tmp 5)))⟩,
            ⟨(some 46), (some (42, false)), (.op (.ext (.eqrow true [.int .u8, .int .u8, .int .u8, .int .u8, .int .u8, .int .u8, .int .u8, .int .u8, .int .u8, .int .u8, .int .u8, .int .u8, .int .u8, .int .u8, .int .u8, .int .u8, .int .u8, .int .u8, .int .u8, .int .u8, .int .u8, .int .u8, .int .u8, .int .u8, .int .u8, .int .u8, .int .u8, .int .u8, .int .u8, .int .u8, .int .u8, .int .u8]) [(.tmp 44), (.tmp 45)]))⟩,
            ⟨(some 47), none, (.op (.pick (.tmp 42) (.dat (.lit (.bool true))) (.tmp 46)))⟩])
          (.cond (.tmp 47)
            (.seq (.region none [
              ⟨none, none, (.op (.store 1 (.tmp 2) (.dat (.lit (.int .i64 80)))))⟩])
            .ret)
            .skip))
          (.region none [
            ⟨(some 48), none, (.op (.load 1 false (.tmp 3)))⟩,
            ⟨(some 49), none, (.op (.arith .add (.tmp 48) (.dat (.lit (.int .i64 1)))))⟩,
            ⟨none, none, (.op (.store 1 (.tmp 3) (.tmp 49)))⟩]))))))
    (.seq (.region none [
      ⟨none, none, (.op (.store 1 (.tmp 2) (.dat (.lit (.int .i64 0)))))⟩])
    .ret)))))
  res := [.cell 2 1 false]
theorem c16 : CmpF Tryd.prog 16 a16 := chkF_cmp (F := Tryd.f16) (by kernel_rfl) mixed (by kernel_rfl)
/-- hansard/hansardlaw08.clash -/
def a17 : AF where
  nt := 36
  body := (.seq (.region none [
      ⟨(some 4), none, (.op (.mov (.dat (.lit (.bool false)))))⟩])
    (.seq (.region none [
      ⟨(some 10), none, (.op (.mov (.tmp 0)))⟩,
      ⟨(some 11), none, (.call (.dat (.fn (.func 31) [] [])) [(.tmp 10)])⟩,
      ⟨(some 9), none, (.op (.mov (.tmp 11)))⟩,
      ⟨(some 12), none, (.op (.extract (.tmp 9) 0))⟩,
      ⟨(some 13), none, (.op (.extract (.tmp 9) 1))⟩,
      ⟨(some 5), none, (.op (.mov (.tmp 12)))⟩,
      ⟨(some 6), none, (.op (.mov (.tmp 13)))⟩])
    (.seq (.region none [
      ⟨(some 15), none, (.op (.mov (.tmp 1)))⟩,
      ⟨(some 16), none, (.call (.dat (.fn (.func 31) [] [])) [(.tmp 15)])⟩,
      ⟨(some 14), none, (.op (.mov (.tmp 16)))⟩,
      ⟨(some 17), none, (.op (.extract (.tmp 14) 0))⟩,
      ⟨(some 18), none, (.op (.extract (.tmp 14) 1))⟩,
      ⟨(some 7), none, (.op (.mov (.tmp 17)))⟩,
      ⟨(some 8), none, (.op (.mov (.tmp 18)))⟩])
    (.seq (.region none [
      ⟨(some 19), none, (.op (.mov (.tmp 5)))⟩,
      ⟨(some 20), none, (.op (.mov (.tmp 7)))⟩,
      ⟨(some 21), none, (.op (.arith .neq (.tmp 19) (.tmp 20)))⟩,
      ⟨(some 22), none, (.op (.mov (.tmp 21)))⟩,
      ⟨(some 23), (some (22, false)), (.op (.mov (.tmp 6)))⟩,
      ⟨(some 24), (some (22, false)), (.op (.ext .bytesStr [(.tmp 23)]))⟩,
      ⟨(some 25), (some (22, false)), (.op (.mov (.tmp 8)))⟩,
      ⟨(some 26), (some (22, false)), (.op (.ext .bytesStr [(.tmp 25)]))⟩,
      ⟨(some 27), (some (22, false)), (.op (.arith .neq (.tmp 24) (.tmp 26)))⟩,
      ⟨(some 28), none, (.op (.pick (.tmp 22) (.dat (.lit (.bool true))) (.tmp 27)))⟩,
      ⟨(some 29), none, (.op (.mov (.tmp 28)))⟩,
      ⟨(some 30), (some (29, true)), (.op (.mov (.tmp 0)))⟩,
      ⟨(some 31), (some (29, true)), (.call (.dat (.fn (.func 15) [] [])) [(.tmp 30)])⟩,
      ⟨(some 32), (some (29, true)), (.op (.mov (.tmp 1)))⟩,
      ⟨(some 33), (some (29, true)), (.call (.dat (.fn (.func 15) [] [])) [(.tmp 32)])⟩,
      ⟨(some 34), (some (29, true)), (.op (.ext (.eqrow false [.int .u8, .int .u8, .int .u8, .int .u8, .int .u8, .int .u8, .int .u8, .int .u8, .int .u8, .int .u8, .int .u8, .int .u8, .int .u8, .int .u8, .int .u8, .int .u8, .int .u8, .int .u8, .int .u8, .int .u8, .int .u8, .int .u8, .int .u8, .int .u8, .int .u8, .int .u8, .int .u8, .int .u8, .int .u8, .int .u8, .int .u8, .int .u8]) [(.tmp 31), (.tmp 33)]))⟩,
      ⟨(some 35), none, (.op (.pick (.tmp 29) (.tmp 34) (.dat (.lit (.bool false)))))⟩,
      ⟨(some 4), none, (.op (.mov (.tmp 35)))⟩])
    .ret))))
  res := [.tmp 4]
theorem c17 : CmpF Tryd.prog 17 a17 := chkF_cmp (F := Tryd.f17) (by kernel_rfl) mixed (by kernel_rfl)
/-- hansard/hansardref08.SameLink -/
def a18 : AF where
  nt := 33
  body := (.seq (.region none [
      ⟨(some 2), none, (.op (.box true (.tmp 0)))⟩,
      ⟨(some 3), none, (.op (.box true (.tmp 1)))⟩,
      ⟨(some 4), none, (.op (.mov (.dat (.lit (.bool false)))))⟩])
    (.seq (.region none [
      ⟨(some 5), none, (.op (.field 0 1 false (.tmp 2)))⟩,
      ⟨(some 6), none, (.op (.load 1 false (.tmp 5)))⟩,
      ⟨(some 7), none, (.op (.field 0 1 false (.tmp 3)))⟩,
      ⟨(some 8), none, (.op (.load 1 false (.tmp 7)))⟩,
      ⟨(some 9), none, (.op (.arith .eql (.tmp 6) (.tmp 8)))⟩,
      ⟨(some 10), none, (.op (.mov (.tmp 9)))⟩,
      ⟨(some 11), (some (10, true)), (.op (.field 1 1 false (.tmp 2)))⟩,
      ⟨(some 12), (some (10, true)), (.op (.load 1 false (.tmp 11)))⟩,
      ⟨(some 13), (some (10, true)), (.op (.field 1 1 false (.tmp 3)))⟩,
      ⟨(some 14), (some (10, true)), (.op (.load 1 false (.tmp 13)))⟩,
      ⟨(some 15), (some (10, true)), (.op (.arith .eql (.tmp 12) (.tmp 14)))⟩,
      ⟨(some 16), none, (.op (.pick (.tmp 10) (.tmp 15) (.dat (.lit (.bool false)))))⟩,
      ⟨(some 17), none, (.op (.mov (.tmp 16)))⟩,
      ⟨(some 18), (some (17, true)), (.op (.field 2 32 true (.tmp 2)))⟩,
      ⟨(some 19), (some (17, true)), (.op (.load 32 true (.tmp 18)))⟩,
      ⟨(some 20), (some (17, true)), (.op (.field 2 32 true (.tmp 3)))⟩,
      ⟨(some 21), (some (17, true)), (.op (.load 32 true (.tmp 20)))⟩,
      ⟨(some 22), (some (17, true)), (.op (.ext (.eqrow false [.int .u8, .int .u8, .int .u8, .int .u8, .int .u8, .int .u8, .int .u8, .int .u8, .int .u8, .int .u8, .int .u8, .int .u8, .int .u8, .int .u8, .int .u8, .int .u8, .int .u8, .int .u8, .int .u8, .int .u8, .int .u8, .int .u8, .int .u8, .int .u8, .int .u8, .int .u8, .int .u8, .int .u8, .int .u8, .int .u8, .int .u8, .int .u8]) [(.tmp 19), (.tmp 21)]))⟩,
      ⟨(some 23), none, (.op (.pick (.tmp 17) (.tmp 22) (.dat (.lit (.bool false)))))⟩,
      ⟨(some 24), none, (.op (.mov (.tmp 23)))⟩,
      ⟨(some 25), (some (24, true)), (.op (.field 34 1 false (.tmp 2)))⟩,
      ⟨(some 26), (some (24, true)), (.op (.load 1 false (.tmp 25)))⟩,
      ⟨(some 27), (some (24, true)), (.op (.ext .bytesStr [(.tmp 26)]))⟩,
      ⟨(some 28), (some (24, true)), (.op (.field 34 1 false (.tmp 3)))⟩,
      ⟨(some 29), (some (24, true)), (.op (.load 1 false (.tmp 28)))⟩,
      ⟨(some 30), (some (24, true)), (.op (.ext .bytesStr [(.tmp 29)]))⟩,
      ⟨(some 31), (some (24, true)), (.op (.arith .eql (.tmp 27) (.tmp 30)))⟩,
      ⟨(some 32), none, (.op (.pick (.tmp 24) (.tmp 31) (.dat (.lit (.bool false)))))⟩,
      ⟨(some 4), none, (.op (.mov (.tmp 32)))⟩])
    .ret))
  res := [.tmp 4]
theorem c18 : CmpF Tryd.prog 18 a18 := chkF_cmp (F := Tryd.f18) (by kernel_rfl) mixed (by kernel_rfl)
/-- hansard/digest.Tagged -/
def a19 : AF where
  nt := 14
  body := (.seq (.region none [
      ⟨(some 4), none, (.op (.alloc true [.lit (.int .u8 0), .lit (.int .u8 0), .lit (.int .u8 0), .lit (.int .u8 0), .lit (.int .u8 0), .lit (.int .u8 0), .lit (.int .u8 0), .lit (.int .u8 0), .lit (.int .u8 0), .lit (.int .u8 0), .lit (.int .u8 0), .lit (.int .u8 0), .lit (.int .u8 0), .lit (.int .u8 0), .lit (.int .u8 0), .lit (.int .u8 0), .lit (.int .u8 0), .lit (.int .u8 0), .lit (.int .u8 0), .lit (.int .u8 0), .lit (.int .u8 0), .lit (.int .u8 0), .lit (.int .u8 0), .lit (.int .u8 0), .lit (.int .u8 0), .lit (.int .u8 0), .lit (.int .u8 0), .lit (.int .u8 0), .lit (.int .u8 0), .lit (.int .u8 0), .lit (.int .u8 0), .lit (.int .u8 0)]))⟩])
    (.seq (.region none [
      ⟨(some 6), none, (.op (.mov (.tmp 0)))⟩,
      ⟨(some 7), none, (.op (.ext .strBytes [(.tmp 6)]))⟩,
      ⟨(some 8), none, (.call (.dat (.fn (.func 32) [] [])) [(.tmp 7)])⟩,
      ⟨(some 5), none, (.op (.alloc true [.lit (.int .u8 0), .lit (.int .u8 0), .lit (.int .u8 0), .lit (.int .u8 0), .lit (.int .u8 0), .lit (.int .u8 0), .lit (.int .u8 0), .lit (.int .u8 0), .lit (.int .u8 0), .lit (.int .u8 0), .lit (.int .u8 0), .lit (.int .u8 0), .lit (.int .u8 0), .lit (.int .u8 0), .lit (.int .u8 0), .lit (.int .u8 0), .lit (.int .u8 0), .lit (.int .u8 0), .lit (.int .u8 0), .lit (.int .u8 0), .lit (.int .u8 0), .lit (.int .u8 0), .lit (.int .u8 0), .lit (.int .u8 0), .lit (.int .u8 0), .lit (.int .u8 0), .lit (.int .u8 0), .lit (.int .u8 0), .lit (.int .u8 0), .lit (.int .u8 0), .lit (.int .u8 0), .lit (.int .u8 0)]))⟩,
      ⟨none, none, (.op (.store 32 (.tmp 5) (.tmp 8)))⟩])
    (.seq (.region none [
      ⟨(some 9), none, (.op (.ext (.sliceZ 32 1) [(.tmp 5)]))⟩,
      ⟨(some 10), none, (.op (.mov (.tmp 1)))⟩,
      ⟨(some 11), none, (.op (.mkslice 1 [(.tmp 9), (.tmp 10)]))⟩,
      ⟨(some 12), none, (.call (.dat (.fn (.func 33) [] [])) [(.tmp 11)])⟩,
      ⟨(some 13), none, (.call (.dat (.fn (.func 32) [] [])) [(.tmp 12)])⟩,
      ⟨none, none, (.op (.store 32 (.tmp 4) (.tmp 13)))⟩])
    .ret)))
  res := [.cell 4 32 true]
theorem c19 : CmpF Tryd.prog 19 a19 := chkF_cmp (F := Tryd.f19) (by kernel_rfl) mixed (by kernel_rfl)
/-- hansard/hansardref08.Check -/
def a21 : AF where
  nt := 56
  body := (.seq (.region none [
      ⟨(some 2), none, (.op (.mov (.dat (.lit (.int .i64 0)))))⟩])
    (.seq (.seq (.region none [
      ⟨(some 5), none, (.op (.mov (.tmp 0)))⟩,
      ⟨(some 6), none, (.op (.len (.tmp 5)))⟩,
      ⟨(some 7), none, (.op (.arith .gtr (.tmp 6) (.dat (.lit (.int .i64 1024)))))⟩])
    (.cond (.tmp 7)
      (.seq (.region none [
        ⟨(some 2), none, (.op (.mov (.dat (.lit (.int .i64 2)))))⟩])
      .ret)
      .skip))
    (.seq (.seq (.region none [
      ⟨(some 3), none, (.op (.mov (.dat (.lit (.int .i64 0)))))⟩])
    (.block 0
      (.loop
        (.seq (.seq (.region none [
          ⟨(some 8), none, (.op (.mov (.tmp 3)))⟩,
          ⟨(some 9), none, (.op (.mov (.tmp 0)))⟩,
          ⟨(some 10), none, (.op (.len (.tmp 9)))⟩,
          ⟨(some 11), none, (.op (.arith .lss (.tmp 8) (.tmp 10)))⟩])
        (.cond (.tmp 11)
          .skip
          (.exit 0)))
        (.seq (.block 1
          (.seq (.region none [
            ⟨(some 14), none, (.op (.mov (.tmp 0)))⟩,
            ⟨(some 15), none, (.op (.mov (.tmp 3)))⟩,
            ⟨(some 16), none, (.op (.index 35 (.tmp 14) (.tmp 15)))⟩,
            ⟨(some 17), none, (.op (.load 35 true (.tmp 16)))⟩,
            ⟨(some 4), none, (.op (.alloc true [.lit (.int .i64 0), .lit (.int .i64 0), .lit (.int .u8 0), .lit (.int .u8 0), .lit (.int .u8 0), .lit (.int .u8 0), .lit (.int .u8 0), .lit (.int .u8 0), .lit (.int .u8 0), .lit (.int .u8 0), .lit (.int .u8 0), .lit (.int .u8 0), .lit (.int .u8 0), .lit (.int .u8 0), .lit (.int .u8 0), .lit (.int .u8 0), .lit (.int .u8 0), .lit (.int .u8 0), .lit (.int .u8 0), .lit (.int .u8 0), .lit (.int .u8 0), .lit (.int .u8 0), .lit (.int .u8 0), .lit (.int .u8 0), .lit (.int .u8 0), .lit (.int .u8 0), .lit (.int .u8 0), .lit (.int .u8 0), .lit (.int .u8 0), .lit (.int .u8 0), .lit (.int .u8 0), .lit (.int .u8 0), .lit (.int .u8 0), .lit (.int .u8 0), .nil 1]))⟩,
            ⟨none, none, (.op (.store 35 (.tmp 4) (.tmp 17)))⟩])
          (.seq (.region (some [[], [0], [0, 1], [0, 1, 2], [0, 1, 2, 3], [0, 1, 2, 3, 4], [0, 1, 2, 3, 4, 5], [0, 1, 2, 3, 4, 5, 6], [0, 1, 2, 3, 4, 5, 6, 7], [0, 1, 2, 3, 4, 5, 6, 7, 8], [0, 1, 2, 3, 4, 5, 6, 7, 8, 9], [0, 1, 2, 3, 4, 5, 6, 7, 8], [0, 1, 2, 3, 4, 5, 6, 7, 8, 11], [0, 1, 2, 3, 4, 5, 6, 7, 8, 11, 12], [0, 1, 2, 3, 4, 5, 6, 7, 8, 11, 12, 13], [0, 1, 2, 3, 4, 5, 6, 7, 8, 9, 10, 11, 12, 13, 14], [0, 1, 2, 3, 4, 5, 6, 7, 8, 9, 10, 11, 12, 13, 14, 15], [0, 1, 2, 3, 4, 5, 6, 7, 8, 9, 10, 11, 12, 13, 14, 15, 16], [0, 1, 2, 3, 4, 5, 6, 7, 8, 9, 10, 11, 12, 13, 14, 15, 16, 17], [0, 1, 2, 3, 4, 5, 6, 7, 8, 9, 10, 11, 12, 13, 14, 15, 16, 17, 18], [0, 1, 2, 3, 4, 5, 6, 7, 8, 9, 10, 11, 12, 13, 14, 15, 16, 17], [0, 1, 2, 3, 4, 5, 6, 7, 8, 9, 10, 11, 12, 13, 14, 15, 16, 17, 18, 19, 20], [0, 1, 2, 3, 4, 5, 6, 7, 8, 9, 10, 11, 12, 13, 14, 15, 16, 17, 18, 19, 20, 21], [0, 1, 2, 3, 4, 5, 6, 7, 8, 9, 10, 11, 12, 13, 14, 15, 16, 17, 18, 19, 20, 21, 22], [0, 1, 2, 3, 4, 5, 6, 7, 8, 9, 10, 11, 12, 13, 14, 15, 16, 17, 18, 19, 20, 21, 22, 23], [0, 1, 2, 3, 4, 5, 6, 7, 8, 9, 10, 11, 12, 13, 14, 15, 16, 17, 18, 19, 20, 21, 22, 23, 24], [0, 1, 2, 3, 4, 5, 6, 7, 8, 9, 10, 11, 12, 13, 14, 15, 16, 17, 18, 19, 20, 21, 22, 23, 24, 25], [0, 1, 2, 3, 4, 5, 6, 7, 8, 9, 10, 11, 12, 13, 14, 15, 16, 17, 18, 19, 20, 21, 22, 23, 24, 25, 26], [0, 1, 2, 3, 4, 5, 6, 7, 8, 9, 10, 11, 12, 13, 14, 15, 16, 17, 18, 19, 20, 21, 22, 23, 24, 25, 26, 27], [0, 1, 2, 3, 4, 5, 6, 7, 8, 9, 10, 11, 12, 13, 14, 15, 16, 17, 18, 19, 20, 21, 22, 23, 24, 25, 26, 27, 28], [0, 1, 2, 3, 4, 5, 6, 7, 8, 9, 10, 11, 12, 13, 14, 15, 16, 17, 18, 19, 20, 21, 22, 23, 24, 25, 26, 27, 28, 29], [0, 1, 2, 3, 4, 5, 6, 7, 8, 9, 10, 11, 12, 13, 14, 15, 16, 17, 18, 19, 20, 21, 22, 23, 24, 25, 26, 27, 28, 29, 30], [0, 1, 2, 3, 4, 5, 6, 7, 8, 9, 10, 11, 12, 13, 14, 15, 16, 17, 18, 19, 20, 21, 22, 23, 24, 25, 26, 27, 28, 29], [0, 1, 2, 3, 4, 5, 6, 7, 8, 9, 10, 11, 12, 13, 14, 15, 16, 17, 18, 19, 20, 21, 22, 23, 24, 25, 26, 27, 28, 29], [0, 1, 2, 3, 4, 5, 6, 7, 8, 9, 10, 11, 12, 13, 14, 15, 16, 17, 18, 19, 20, 21, 22, 23, 24, 25, 26, 27, 28, 29, 32, 33], [0, 1, 2, 3, 4, 5, 6, 7, 8, 9, 10, 11, 12, 13, 14, 15, 16, 17, 18, 19, 20, 21, 22, 23, 24, 25, 26, 27, 28, 29, 32, 33, 34], [0, 1, 2, 3, 4, 5, 6, 7, 8, 9, 10, 11, 12, 13, 14, 15, 16, 17, 18, 19, 20, 21, 22, 23, 24, 25, 26, 27, 28, 29, 30, 31, 32, 33, 34, 35], [0, 1, 2, 3, 4, 5, 6, 7, 8, 9, 10, 11, 12, 13, 14, 15, 16, 17, 18, 19, 20, 21, 22, 23, 24, 25, 26, 27, 28, 29, 30, 31, 32, 33, 34, 35, 36]]) [
            ⟨(some 18), none, (.op (.field 0 1 false (.tmp 4)))⟩,
            ⟨(some 19), none, (.op (.load 1 false (.tmp 18)))⟩,
            ⟨(some 20), none, (.op (.arith .lss (.tmp 19) (.dat (.lit (.int .i64 0)))))⟩,
            ⟨(some 21), none, (.op (.mov (.tmp 20)))⟩,
            ⟨(some 22), (some (21, false)), (.op (.field 0 1 false (.tmp 4)))⟩,
            ⟨(some 23), (some (21, false)), (.op (.load 1 false (.tmp 22)))⟩,
            ⟨(some 24), (some (21, false)), (.op (.arith .geq (.tmp 23) (.dat (.lit (.int .i64 24)))))⟩,
            ⟨(some 25), none, (.op (.pick (.tmp 21) (.dat (.lit (.bool true))) (.tmp 24)))⟩,
            ⟨(some 26), none, (.op (.mov (.tmp 25)))⟩,
            ⟨(some 27), (some (26, false)), (.op (.field 0 1 false (.tmp 4)))⟩,
            ⟨(some 28), (some (26, false)), (.op (.load 1 false (.tmp 27)))⟩,
            ⟨(some 29), (some (26, false)), (.op (.mov (.tmp 0)))⟩,
            ⟨(some 30), (some (26, false)), (.op (.index 35 (.tmp 29) (.dat (.lit (.int .i64 0)))))⟩,
            ⟨(some 31), (some (26, false)), (.op (.field 0 1 false (.tmp 30)))⟩,
            ⟨(some 32), (some (26, false)), (.op (.load 1 false (.tmp 31)))⟩,
            ⟨(some 33), (some (26, false)), (.op (.arith .neq (.tmp 28) (.tmp 32)))⟩,
            ⟨(some 34), none, (.op (.pick (.tmp 26) (.dat (.lit (.bool true))) (.tmp 33)))⟩,
            ⟨(some 35), none, (.op (.mov (.tmp 34)))⟩,
            ⟨(some 36), (some (35, false)), (.op (.field 1 1 false (.tmp 4)))⟩,
            ⟨(some 37), (some (35, false)), (.op (.load 1 false (.tmp 36)))⟩,
            ⟨(some 38), (some (35, false)), (.op (.mov (.tmp 3)))⟩,
            ⟨(some 39), (some (35, false)), (.op (.arith .neq (.tmp 37) (.tmp 38)))⟩,
            ⟨(some 40), none, (.op (.pick (.tmp 35) (.dat (.lit (.bool true))) (.tmp 39)))⟩,
            ⟨(some 41), none, (.op (.mov (.tmp 40)))⟩,
            ⟨(some 42), (some (41, false)), (.op (.field 34 1 false (.tmp 4)))⟩,
            ⟨(some 43), (some (41, false)), (.op (.load 1 false (.tmp 42)))⟩,
            ⟨(some 44), (some (41, false)), (.op (.len (.tmp 43)))⟩,
            ⟨(some 45), (some (41, false)), (.op (.arith .gtr (.tmp 44) (.dat (.lit (.int .i64 65536)))))⟩,
            ⟨(some 46), none, (.op (.pick (.tmp 41) (.dat (.lit (.bool true))) (.tmp 45)))⟩,
            ⟨(some 47), none, (.op (.mov (.tmp 46)))⟩,
            ⟨(some 48), (some (47, false)), (.op (.field 2 32 true (.tmp 4)))⟩,
            ⟨(some 49), (some (47, false)), (.op (.load 32 true (.tmp 48)))⟩,
            ⟨(some 50), (some (47, false)), (.op (.mov (.tmp 0)))⟩,
            ⟨(some 51), (some (47, false)), (.op (.mov (.tmp 3)))⟩,
            ⟨(some 52), (some (47, false)), (.op (.slice 35 (.tmp 50) none (some (.tmp 51))))⟩,
            ⟨(some 53), (some (47, false)), (.call (.dat (.fn (.func 22) [] [])) [(.tmp 52)])⟩,
            ⟨(some 54), (some (47, false)), (.op (.ext (.eqrow true [.int .u8, .int .u8, .int .u8, .int .u8, .int .u8, .int .u8, .int .u8, .int .u8, .int .u8, .int .u8, .int .u8, .int .u8, .int .u8, .int .u8, .int .u8, .int .u8, .int .u8, .int .u8, .int .u8, .int .u8, .int .u8, .int .u8, .int .u8, .int .u8, .int .u8, .int .u8, .int .u8, .int .u8, .int .u8, .int .u8, .int .u8, .int .u8]) [(.tmp 49), (.tmp 53)]))⟩,
            ⟨(some 55), none, (.op (.pick (.tmp 47) (.dat (.lit (.bool true))) (.tmp 54)))⟩])
          (.cond (.tmp 55)
            (.seq (.region none [
              ⟨(some 2), none, (.op (.mov (.dat (.lit (.int .i64 80)))))⟩])
            .ret)
            .skip))))
        (.region none [
          ⟨(some 12), none, (.op (.mov (.tmp 3)))⟩,
          ⟨(some 13), none, (.op (.arith .add (.tmp 12) (.dat (.lit (.int .i64 1)))))⟩,
          ⟨(some 3), none, (.op (.mov (.tmp 13)))⟩]))))))
    (.seq (.region none [
      ⟨(some 2), none, (.op (.mov (.dat (.lit (.int .i64 0)))))⟩])
    .ret))))
  res := [.tmp 2]
theorem c21 : CmpF Tryd.prog 21 a21 := chkF_cmp (F := Tryd.f21) (by kernel_rfl) mixed (by kernel_rfl)
/-- hansard/hansardref08.Head -/
def a22 : AF where
  nt := 13
  body := (.seq (.region none [
      ⟨(some 2), none, (.op (.alloc true [.lit (.int .u8 0), .lit (.int .u8 0), .lit (.int .u8 0), .lit (.int .u8 0), .lit (.int .u8 0), .lit (.int .u8 0), .lit (.int .u8 0), .lit (.int .u8 0), .lit (.int .u8 0), .lit (.int .u8 0), .lit (.int .u8 0), .lit (.int .u8 0), .lit (.int .u8 0), .lit (.int .u8 0), .lit (.int .u8 0), .lit (.int .u8 0), .lit (.int .u8 0), .lit (.int .u8 0), .lit (.int .u8 0), .lit (.int .u8 0), .lit (.int .u8 0), .lit (.int .u8 0), .lit (.int .u8 0), .lit (.int .u8 0), .lit (.int .u8 0), .lit (.int .u8 0), .lit (.int .u8 0), .lit (.int .u8 0), .lit (.int .u8 0), .lit (.int .u8 0), .lit (.int .u8 0), .lit (.int .u8 0)]))⟩])
    (.seq (.region none [
      ⟨(some 6), none, (.op (.mov (.tmp 0)))⟩,
      ⟨(some 7), none, (.call (.dat (.fn (.func 31) [] [])) [(.tmp 6)])⟩,
      ⟨(some 5), none, (.op (.mov (.tmp 7)))⟩,
      ⟨(some 8), none, (.op (.extract (.tmp 5) 0))⟩,
      ⟨(some 9), none, (.op (.extract (.tmp 5) 1))⟩,
      ⟨(some 3), none, (.op (.mov (.tmp 8)))⟩,
      ⟨(some 4), none, (.op (.mov (.tmp 9)))⟩])
    (.seq (.region none [
      ⟨(some 10), none, (.op (.mov (.tmp 3)))⟩,
      ⟨(some 11), none, (.op (.mov (.tmp 4)))⟩,
      ⟨(some 12), none, (.call (.dat (.fn (.func 34) [] [])) [(.tmp 10), (.tmp 11)])⟩,
      ⟨none, none, (.op (.store 32 (.tmp 2) (.tmp 12)))⟩])
    .ret)))
  res := [.cell 2 32 true]
theorem c22 : CmpF Tryd.prog 22 a22 := chkF_cmp (F := Tryd.f22) (by kernel_rfl) mixed (by kernel_rfl)
/-- hansard/chain.differ(hansard/api.Link) -/
def a23 : AF where
  nt := 30
  body := (.seq (.region none [
      ⟨(some 6), none, (.op (.mov (.dat (.lit (.int .i64 0)))))⟩,
      ⟨(some 7), none, (.op (.mov (.dat (.lit (.bool false)))))⟩])
    (.seq (.seq (.region none [
      ⟨(some 9), none, (.op (.mov (.tmp 0)))⟩,
      ⟨(some 10), none, (.op (.len (.tmp 9)))⟩,
      ⟨(some 11), none, (.op (.mov (.tmp 1)))⟩,
      ⟨(some 12), none, (.op (.len (.tmp 11)))⟩,
      ⟨(some 13), none, (.op (.minmax false (.tmp 10) (.tmp 12)))⟩,
      ⟨(some 14), none, (.op (.mov (.dat (.lit (.int .i64 0)))))⟩])
    (.block 0
      (.loop
        (.seq (.region none [
          ⟨(some 15), none, (.op (.arith .lss (.tmp 14) (.tmp 13)))⟩])
        (.seq (.cond (.tmp 15)
          .skip
          (.exit 0))
        (.seq (.block 1
          (.seq (.region none [
            ⟨(some 16), none, (.op (.mov (.tmp 14)))⟩,
            ⟨(some 8), none, (.op (.mov (.tmp 16)))⟩])
          (.seq (.region (some [[], [], [], [1, 2], [1, 2, 3], [], [], [5, 6], [5, 6, 7], [0, 1, 2, 3, 4, 5, 6, 7, 8], [0, 1, 2, 3, 4, 5, 6, 7, 8, 9]]) [
            ⟨(some 17), none, (.op (.mov (.tmp 2)))⟩,
            ⟨(some 18), none, (.op (.mov (.tmp 0)))⟩,
            ⟨(some 19), none, (.op (.mov (.tmp 8)))⟩,
            ⟨(some 20), none, (.op (.index 35 (.tmp 18) (.tmp 19)))⟩,
            ⟨(some 21), none, (.op (.load 35 true (.tmp 20)))⟩,
            ⟨(some 22), none, (.op (.mov (.tmp 1)))⟩,
            ⟨(some 23), none, (.op (.mov (.tmp 8)))⟩,
            ⟨(some 24), none, (.op (.index 35 (.tmp 22) (.tmp 23)))⟩,
            ⟨(some 25), none, (.op (.load 35 true (.tmp 24)))⟩,
            ⟨(some 26), none, (.call (.tmp 17) [(.tmp 21), (.tmp 25)])⟩,
            ⟨(some 27), none, (.op (.not (.tmp 26)))⟩])
          (.cond (.tmp 27)
            (.seq (.region none [
              ⟨(some 28), none, (.op (.mov (.tmp 8)))⟩,
              ⟨(some 6), none, (.op (.mov (.tmp 28)))⟩,
              ⟨(some 7), none, (.op (.mov (.dat (.lit (.bool true)))))⟩])
            .ret)
            .skip))))
        (.region none [
          ⟨(some 29), none, (.op (.arith .add (.tmp 14) (.dat (.lit (.int .i64 1)))))⟩,
          ⟨(some 14), none, (.op (.mov (.tmp 29)))⟩])))))))
    (.seq (.region none [
      ⟨(some 6), none, (.op (.mov (.dat (.lit (.int .i64 0)))))⟩,
      ⟨(some 7), none, (.op (.mov (.dat (.lit (.bool false)))))⟩])
    .ret)))
  res := [.tmp 6, .tmp 7]
theorem c23 : CmpF Tryd.prog 23 a23 := chkF_cmp (F := Tryd.f23) (by kernel_rfl) mixed (by kernel_rfl)
/-- hansard/chain.Part$1 -/
def a24 : AF where
  nt := 31
  body := (.seq (.region none [
      ⟨(some 2), none, (.op (.box true (.tmp 0)))⟩,
      ⟨(some 3), none, (.op (.box true (.tmp 1)))⟩,
      ⟨(some 4), none, (.op (.mov (.dat (.lit (.bool false)))))⟩])
    (.seq (.region none [
      ⟨(some 5), none, (.op (.field 0 1 false (.tmp 2)))⟩,
      ⟨(some 6), none, (.op (.load 1 false (.tmp 5)))⟩,
      ⟨(some 7), none, (.op (.field 0 1 false (.tmp 3)))⟩,
      ⟨(some 8), none, (.op (.load 1 false (.tmp 7)))⟩,
      ⟨(some 9), none, (.op (.arith .eql (.tmp 6) (.tmp 8)))⟩,
      ⟨(some 10), none, (.op (.mov (.tmp 9)))⟩,
      ⟨(some 11), (some (10, true)), (.op (.field 1 1 false (.tmp 2)))⟩,
      ⟨(some 12), (some (10, true)), (.op (.load 1 false (.tmp 11)))⟩,
      ⟨(some 13), (some (10, true)), (.op (.field 1 1 false (.tmp 3)))⟩,
      ⟨(some 14), (some (10, true)), (.op (.load 1 false (.tmp 13)))⟩,
      ⟨(some 15), (some (10, true)), (.op (.arith .eql (.tmp 12) (.tmp 14)))⟩,
      ⟨(some 16), none, (.op (.pick (.tmp 10) (.tmp 15) (.dat (.lit (.bool false)))))⟩,
      ⟨(some 17), none, (.op (.mov (.tmp 16)))⟩,
      ⟨(some 18), (some (17, true)), (.op (.field 2 32 true (.tmp 2)))⟩,
      ⟨(some 19), (some (17, true)), (.op (.load 32 true (.tmp 18)))⟩,
      ⟨(some 20), (some (17, true)), (.op (.field 2 32 true (.tmp 3)))⟩,
      ⟨(some 21), (some (17, true)), (.op (.load 32 true (.tmp 20)))⟩,
      ⟨(some 22), (some (17, true)), (.op (.ext (.eqrow false [.int .u8, .int .u8, .int .u8, .int .u8, .int .u8, .int .u8, .int .u8, .int .u8, .int .u8, .int .u8, .int .u8, .int .u8, .int .u8, .int .u8, .int .u8, .int .u8, .int .u8, .int .u8, .int .u8, .int .u8, .int .u8, .int .u8, .int .u8, .int .u8, .int .u8, .int .u8, .int .u8, .int .u8, .int .u8, .int .u8, .int .u8, .int .u8]) [(.tmp 19), (.tmp 21)]))⟩,
      ⟨(some 23), none, (.op (.pick (.tmp 17) (.tmp 22) (.dat (.lit (.bool false)))))⟩,
      ⟨(some 24), none, (.op (.mov (.tmp 23)))⟩,
      ⟨(some 25), (some (24, true)), (.op (.field 34 1 false (.tmp 2)))⟩,
      ⟨(some 26), (some (24, true)), (.op (.load 1 false (.tmp 25)))⟩,
      ⟨(some 27), (some (24, true)), (.op (.field 34 1 false (.tmp 3)))⟩,
      ⟨(some 28), (some (24, true)), (.op (.load 1 false (.tmp 27)))⟩,
      ⟨(some 29), (some (24, true)), (.call (.dat (.fn (.func 25) [] [])) [(.tmp 26), (.tmp 28)])⟩,
      ⟨(some 30), none, (.op (.pick (.tmp 24) (.tmp 29) (.dat (.lit (.bool false)))))⟩,
      ⟨(some 4), none, (.op (.mov (.tmp 30)))⟩])
    .ret))
  res := [.tmp 4]
theorem c24 : CmpF Tryd.prog 24 a24 := chkF_cmp (F := Tryd.f24) (by kernel_rfl) mixed (by kernel_rfl)
end Go.Proofs.YtfegfnekphobmaaDoor
end
