/- Part of the proof: S1. -/
import Derived.Test.YtlfpnfjibgeehaaDoorProg
import Derived.KernelRfl
import Derived.Test.YtlfpnfjibgeehaaDoorE
set_option linter.unnecessarySimpa false
set_option linter.unusedVariables false
set_option linter.unusedSimpArgs false
section
namespace Go.Proofs.YtlfpnfjibgeehaaDoor
open Go Go.Proofs.YtlfpnfjibgeehaaDoor.AL
theorem mixed : Tryd.prog.follows .mixedOrders = true := by kernel_rfl
/-- gosem.cut.init -/
def a2 : AF where
  nt := 1
  body := (.region none [
      ⟨(some 0), none, (.call (.dat (.fn (.func 1) [] [])) [])⟩])
  res := []
theorem c2 : CmpF Tryd.prog 2 a2 := chkF_cmp (F := Tryd.f2) (by kernel_rfl) mixed (by kernel_rfl)
/-- hansard/hansardlaw19.PermitsSpec -/
def a3 : AF where
  nt := 71
  body := (.seq (.region none [
      ⟨(some 4), none, (.op (.box true (.tmp 0)))⟩,
      ⟨(some 5), none, (.op (.box true (.tmp 1)))⟩,
      ⟨(some 7), none, (.op (.box true (.tmp 3)))⟩,
      ⟨(some 8), none, (.op (.mov (.dat (.lit (.bool false)))))⟩])
    (.seq (.seq (.region none [
      ⟨(some 17), none, (.call (.dat (.fn (.func 14) [] [])) [])⟩,
      ⟨(some 18), none, (.op (.not (.tmp 17)))⟩])
    (.cond (.tmp 18)
      (.seq (.region none [
        ⟨(some 8), none, (.op (.mov (.dat (.lit (.bool false)))))⟩])
      .ret)
      .skip))
    (.seq (.seq (.region none [
      ⟨(some 19), none, (.op (.load 2 true (.tmp 4)))⟩,
      ⟨(some 20), none, (.op (.load 4 true (.tmp 7)))⟩,
      ⟨(some 21), none, (.call (.dat (.fn (.func 15) [] [])) [(.tmp 19), (.tmp 20)])⟩,
      ⟨(some 22), none, (.op (.not (.tmp 21)))⟩])
    (.cond (.tmp 22)
      (.seq (.region none [
        ⟨(some 8), none, (.op (.mov (.dat (.lit (.bool true)))))⟩])
      .ret)
      .skip))
    (.seq (.region none [
      ⟨(some 24), none, (.op (.load 2 true (.tmp 4)))⟩,
      ⟨(some 25), none, (.op (.load 1 true (.tmp 5)))⟩,
      ⟨(some 26), none, (.op (.mov (.tmp 2)))⟩,
      ⟨(some 27), none, (.op (.load 4 true (.tmp 7)))⟩,
      ⟨(some 28), none, (.call (.dat (.fn (.func 16) [] [])) [(.tmp 24), (.tmp 25), (.tmp 26), (.tmp 27)])⟩,
      ⟨(some 23), none, (.op (.mov (.tmp 28)))⟩,
      ⟨(some 29), none, (.op (.extract (.tmp 23) 0))⟩,
      ⟨(some 30), none, (.op (.extract (.tmp 23) 1))⟩,
      ⟨(some 9), none, (.op (.mov (.tmp 29)))⟩,
      ⟨(some 10), none, (.op (.mov (.tmp 30)))⟩])
    (.seq (.region none [
      ⟨(some 32), none, (.op (.load 2 true (.tmp 4)))⟩,
      ⟨(some 33), none, (.op (.load 1 true (.tmp 5)))⟩,
      ⟨(some 34), none, (.op (.mov (.tmp 2)))⟩,
      ⟨(some 35), none, (.op (.load 4 true (.tmp 7)))⟩,
      ⟨(some 36), none, (.call (.dat (.fn (.func 17) [] [])) [(.tmp 32), (.tmp 33), (.tmp 34), (.tmp 35)])⟩,
      ⟨(some 31), none, (.op (.mov (.tmp 36)))⟩,
      ⟨(some 37), none, (.op (.extract (.tmp 31) 0))⟩,
      ⟨(some 38), none, (.op (.extract (.tmp 31) 1))⟩,
      ⟨(some 11), none, (.op (.mov (.tmp 37)))⟩,
      ⟨(some 12), none, (.op (.mov (.tmp 38)))⟩])
    (.seq (.region none [
      ⟨(some 40), none, (.op (.load 2 true (.tmp 4)))⟩,
      ⟨(some 41), none, (.op (.load 1 true (.tmp 5)))⟩,
      ⟨(some 42), none, (.op (.mov (.tmp 2)))⟩,
      ⟨(some 43), none, (.call (.dat (.fn (.func 18) [] [])) [(.tmp 40), (.tmp 41), (.tmp 42)])⟩,
      ⟨(some 39), none, (.op (.mov (.tmp 43)))⟩,
      ⟨(some 44), none, (.op (.extract (.tmp 39) 0))⟩,
      ⟨(some 45), none, (.op (.extract (.tmp 39) 1))⟩,
      ⟨(some 13), none, (.op (.mov (.tmp 44)))⟩,
      ⟨(some 14), none, (.op (.mov (.tmp 45)))⟩])
    (.seq (.region none [
      ⟨(some 47), none, (.op (.load 2 true (.tmp 4)))⟩,
      ⟨(some 48), none, (.op (.load 1 true (.tmp 5)))⟩,
      ⟨(some 49), none, (.op (.mov (.tmp 2)))⟩,
      ⟨(some 50), none, (.call (.dat (.fn (.func 19) [] [])) [(.tmp 47), (.tmp 48), (.tmp 49)])⟩,
      ⟨(some 46), none, (.op (.mov (.tmp 50)))⟩,
      ⟨(some 51), none, (.op (.extract (.tmp 46) 0))⟩,
      ⟨(some 52), none, (.op (.extract (.tmp 46) 1))⟩,
      ⟨(some 15), none, (.op (.mov (.tmp 51)))⟩,
      ⟨(some 16), none, (.op (.mov (.tmp 52)))⟩])
    (.seq (.region none [
      ⟨(some 53), none, (.op (.mov (.tmp 9)))⟩,
      ⟨(some 54), none, (.op (.mov (.tmp 11)))⟩,
      ⟨(some 55), none, (.op (.ext (.eqBool false) [(.tmp 53), (.tmp 54)]))⟩,
      ⟨(some 56), none, (.op (.mov (.tmp 55)))⟩,
      ⟨(some 57), (some (56, true)), (.op (.mov (.tmp 10)))⟩,
      ⟨(some 58), (some (56, true)), (.op (.mov (.tmp 12)))⟩,
      ⟨(some 59), (some (56, true)), (.op (.arith .eql (.tmp 57) (.tmp 58)))⟩,
      ⟨(some 60), none, (.op (.pick (.tmp 56) (.tmp 59) (.dat (.lit (.bool false)))))⟩,
      ⟨(some 61), none, (.op (.mov (.tmp 60)))⟩,
      ⟨(some 62), (some (61, true)), (.op (.mov (.tmp 13)))⟩,
      ⟨(some 63), (some (61, true)), (.op (.mov (.tmp 15)))⟩,
      ⟨(some 64), (some (61, true)), (.op (.arith .eql (.tmp 62) (.tmp 63)))⟩,
      ⟨(some 65), none, (.op (.pick (.tmp 61) (.tmp 64) (.dat (.lit (.bool false)))))⟩,
      ⟨(some 66), none, (.op (.mov (.tmp 65)))⟩,
      ⟨(some 67), (some (66, true)), (.op (.mov (.tmp 14)))⟩,
      ⟨(some 68), (some (66, true)), (.op (.mov (.tmp 16)))⟩,
      ⟨(some 69), (some (66, true)), (.op (.arith .eql (.tmp 67) (.tmp 68)))⟩,
      ⟨(some 70), none, (.op (.pick (.tmp 66) (.tmp 69) (.dat (.lit (.bool false)))))⟩,
      ⟨(some 8), none, (.op (.mov (.tmp 70)))⟩])
    .ret))))))))
  res := [.tmp 8]
theorem c3 : CmpF Tryd.prog 3 a3 := chkF_cmp (F := Tryd.f3) (by kernel_rfl) mixed (by kernel_rfl)
/-- hansard/hansardlaw19.PermitsChangeSpec -/
def a4 : AF where
  nt := 52
  body := (.seq (.region none [
      ⟨(some 4), none, (.op (.box true (.tmp 0)))⟩,
      ⟨(some 5), none, (.op (.box true (.tmp 1)))⟩,
      ⟨(some 8), none, (.op (.mov (.dat (.lit (.bool false)))))⟩])
    (.seq (.seq (.region none [
      ⟨(some 15), none, (.call (.dat (.fn (.func 14) [] [])) [])⟩,
      ⟨(some 16), none, (.op (.not (.tmp 15)))⟩])
    (.cond (.tmp 16)
      (.seq (.region none [
        ⟨(some 8), none, (.op (.mov (.dat (.lit (.bool false)))))⟩])
      .ret)
      .skip))
    (.seq (.seq (.region none [
      ⟨(some 17), none, (.op (.load 2 true (.tmp 4)))⟩,
      ⟨(some 18), none, (.op (.build [.lit (.int .i64 0), .lit (.int .i64 0), .lit (.int .i64 0), .nil 5] []))⟩,
      ⟨(some 19), none, (.call (.dat (.fn (.func 15) [] [])) [(.tmp 17), (.tmp 18)])⟩,
      ⟨(some 20), none, (.op (.not (.tmp 19)))⟩])
    (.cond (.tmp 20)
      (.seq (.region none [
        ⟨(some 8), none, (.op (.mov (.dat (.lit (.bool true)))))⟩])
      .ret)
      .skip))
    (.seq (.region none [
      ⟨(some 22), none, (.op (.load 2 true (.tmp 4)))⟩,
      ⟨(some 23), none, (.op (.load 1 true (.tmp 5)))⟩,
      ⟨(some 24), none, (.op (.mov (.tmp 2)))⟩,
      ⟨(some 25), none, (.op (.mov (.tmp 3)))⟩,
      ⟨(some 26), none, (.call (.dat (.fn (.func 20) [] [])) [(.tmp 22), (.tmp 23), (.tmp 24), (.tmp 25)])⟩,
      ⟨(some 21), none, (.op (.mov (.tmp 26)))⟩,
      ⟨(some 27), none, (.op (.extract (.tmp 21) 0))⟩,
      ⟨(some 28), none, (.op (.extract (.tmp 21) 1))⟩,
      ⟨(some 29), none, (.op (.extract (.tmp 21) 2))⟩,
      ⟨(some 9), none, (.op (.alloc true [.lit (.int .i64 0), .lit (.int .i64 0), .lit (.int .i64 0), .nil 5]))⟩,
      ⟨none, none, (.op (.store 4 (.tmp 9) (.tmp 27)))⟩,
      ⟨(some 10), none, (.op (.mov (.tmp 28)))⟩,
      ⟨(some 11), none, (.op (.mov (.tmp 29)))⟩])
    (.seq (.region none [
      ⟨(some 31), none, (.op (.load 2 true (.tmp 4)))⟩,
      ⟨(some 32), none, (.op (.load 1 true (.tmp 5)))⟩,
      ⟨(some 33), none, (.op (.mov (.tmp 2)))⟩,
      ⟨(some 34), none, (.op (.mov (.tmp 3)))⟩,
      ⟨(some 35), none, (.call (.dat (.fn (.func 21) [] [])) [(.tmp 31), (.tmp 32), (.tmp 33), (.tmp 34)])⟩,
      ⟨(some 30), none, (.op (.mov (.tmp 35)))⟩,
      ⟨(some 36), none, (.op (.extract (.tmp 30) 0))⟩,
      ⟨(some 37), none, (.op (.extract (.tmp 30) 1))⟩,
      ⟨(some 38), none, (.op (.extract (.tmp 30) 2))⟩,
      ⟨(some 12), none, (.op (.alloc true [.lit (.int .i64 0), .lit (.int .i64 0), .lit (.int .i64 0), .nil 5]))⟩,
      ⟨none, none, (.op (.store 4 (.tmp 12) (.tmp 36)))⟩,
      ⟨(some 13), none, (.op (.mov (.tmp 37)))⟩,
      ⟨(some 14), none, (.op (.mov (.tmp 38)))⟩])
    (.seq (.region none [
      ⟨(some 39), none, (.op (.load 4 true (.tmp 9)))⟩,
      ⟨(some 40), none, (.op (.load 4 true (.tmp 12)))⟩,
      ⟨(some 41), none, (.call (.dat (.fn (.func 22) [] [])) [(.tmp 39), (.tmp 40)])⟩,
      ⟨(some 42), none, (.op (.mov (.tmp 41)))⟩,
      ⟨(some 43), (some (42, true)), (.op (.mov (.tmp 10)))⟩,
      ⟨(some 44), (some (42, true)), (.op (.mov (.tmp 13)))⟩,
      ⟨(some 45), (some (42, true)), (.op (.ext (.eqBool false) [(.tmp 43), (.tmp 44)]))⟩,
      ⟨(some 46), none, (.op (.pick (.tmp 42) (.tmp 45) (.dat (.lit (.bool false)))))⟩,
      ⟨(some 47), none, (.op (.mov (.tmp 46)))⟩,
      ⟨(some 48), (some (47, true)), (.op (.mov (.tmp 11)))⟩,
      ⟨(some 49), (some (47, true)), (.op (.mov (.tmp 14)))⟩,
      ⟨(some 50), (some (47, true)), (.op (.arith .eql (.tmp 48) (.tmp 49)))⟩,
      ⟨(some 51), none, (.op (.pick (.tmp 47) (.tmp 50) (.dat (.lit (.bool false)))))⟩,
      ⟨(some 8), none, (.op (.mov (.tmp 51)))⟩])
    .ret))))))
  res := [.tmp 8]
theorem c4 : CmpF Tryd.prog 4 a4 := chkF_cmp (F := Tryd.f4) (by kernel_rfl) mixed (by kernel_rfl)
/-- hansard/hansardlaw19.PermitsRemain -/
def a5 : AF where
  nt := 147
  body := (.seq (.region none [
      ⟨(some 4), none, (.op (.box true (.tmp 0)))⟩,
      ⟨(some 5), none, (.op (.box true (.tmp 1)))⟩,
      ⟨(some 8), none, (.op (.mov (.dat (.lit (.bool false)))))⟩])
    (.seq (.seq (.region none [
      ⟨(some 21), none, (.call (.dat (.fn (.func 14) [] [])) [])⟩,
      ⟨(some 22), none, (.op (.not (.tmp 21)))⟩])
    (.cond (.tmp 22)
      (.seq (.region none [
        ⟨(some 8), none, (.op (.mov (.dat (.lit (.bool false)))))⟩])
      .ret)
      .skip))
    (.seq (.seq (.region none [
      ⟨(some 23), none, (.op (.load 2 true (.tmp 4)))⟩,
      ⟨(some 24), none, (.op (.build [.lit (.int .i64 0), .lit (.int .i64 0), .lit (.int .i64 0), .nil 5] []))⟩,
      ⟨(some 25), none, (.call (.dat (.fn (.func 15) [] [])) [(.tmp 23), (.tmp 24)])⟩,
      ⟨(some 26), none, (.op (.not (.tmp 25)))⟩,
      ⟨(some 27), none, (.op (.mov (.tmp 26)))⟩,
      ⟨(some 28), (some (27, false)), (.op (.mov (.tmp 3)))⟩,
      ⟨(some 29), (some (27, false)), (.op (.len (.tmp 28)))⟩,
      ⟨(some 30), (some (27, false)), (.op (.arith .gtr (.tmp 29) (.dat (.lit (.int .i64 6)))))⟩,
      ⟨(some 31), none, (.op (.pick (.tmp 27) (.dat (.lit (.bool true))) (.tmp 30)))⟩])
    (.cond (.tmp 31)
      (.seq (.region none [
        ⟨(some 8), none, (.op (.mov (.dat (.lit (.bool true)))))⟩])
      .ret)
      .skip))
    (.seq (.region none [
      ⟨(some 33), none, (.op (.load 2 true (.tmp 4)))⟩,
      ⟨(some 34), none, (.op (.load 1 true (.tmp 5)))⟩,
      ⟨(some 35), none, (.op (.mov (.tmp 2)))⟩,
      ⟨(some 36), none, (.call (.dat (.fn (.func 18) [] [])) [(.tmp 33), (.tmp 34), (.tmp 35)])⟩,
      ⟨(some 32), none, (.op (.mov (.tmp 36)))⟩,
      ⟨(some 37), none, (.op (.extract (.tmp 32) 0))⟩,
      ⟨(some 38), none, (.op (.extract (.tmp 32) 1))⟩,
      ⟨(some 9), none, (.op (.mov (.tmp 37)))⟩,
      ⟨(some 10), none, (.op (.mov (.tmp 38)))⟩])
    (.seq (.seq (.region none [
      ⟨(some 39), none, (.op (.mov (.tmp 10)))⟩,
      ⟨(some 40), none, (.op (.arith .neq (.tmp 39) (.dat (.lit (.int .i64 0)))))⟩])
    (.cond (.tmp 40)
      (.seq (.region none [
        ⟨(some 41), none, (.op (.mov (.tmp 9)))⟩,
        ⟨(some 42), none, (.op (.arith .eql (.tmp 41) (.dat (.lit (.int .i64 0)))))⟩,
        ⟨(some 8), none, (.op (.mov (.tmp 42)))⟩])
      .ret)
      .skip))
    (.seq (.seq (.region none [
      ⟨(some 43), none, (.op (.mov (.tmp 9)))⟩,
      ⟨(some 44), none, (.op (.arith .lss (.tmp 43) (.dat (.lit (.int .i64 0)))))⟩,
      ⟨(some 45), none, (.op (.mov (.tmp 44)))⟩,
      ⟨(some 46), (some (45, false)), (.op (.mov (.tmp 9)))⟩,
      ⟨(some 47), (some (45, false)), (.op (.field 0 1 false (.tmp 4)))⟩,
      ⟨(some 48), (some (45, false)), (.op (.load 1 false (.tmp 47)))⟩,
      ⟨(some 49), (some (45, false)), (.op (.len (.tmp 48)))⟩,
      ⟨(some 50), (some (45, false)), (.op (.arith .gtr (.tmp 46) (.tmp 49)))⟩,
      ⟨(some 51), none, (.op (.pick (.tmp 45) (.dat (.lit (.bool true))) (.tmp 50)))⟩])
    (.cond (.tmp 51)
      (.seq (.region none [
        ⟨(some 8), none, (.op (.mov (.dat (.lit (.bool false)))))⟩])
      .ret)
      .skip))
    (.seq (.region none [
      ⟨(some 52), none, (.op (.load 2 true (.tmp 4)))⟩,
      ⟨(some 11), none, (.op (.alloc true [.nil 5, .lit (.int .i64 0)]))⟩,
      ⟨none, none, (.op (.store 2 (.tmp 11) (.tmp 52)))⟩])
    (.seq (.region none [
      ⟨(some 53), none, (.op (.mov (.tmp 2)))⟩,
      ⟨(some 54), none, (.op (.mov (.tmp 9)))⟩,
      ⟨(some 12), none, (.op (.mov (.tmp 53)))⟩,
      ⟨(some 13), none, (.op (.mov (.tmp 54)))⟩])
    (.seq (.seq (.region none [
      ⟨(some 14), none, (.op (.mov (.dat (.lit (.int .i64 0)))))⟩])
    (.block 0
      (.loop
        (.seq (.seq (.region none [
          ⟨(some 55), none, (.op (.mov (.tmp 14)))⟩,
          ⟨(some 56), none, (.op (.mov (.tmp 3)))⟩,
          ⟨(some 57), none, (.op (.len (.tmp 56)))⟩,
          ⟨(some 58), none, (.op (.arith .lss (.tmp 55) (.tmp 57)))⟩])
        (.cond (.tmp 58)
          .skip
          (.exit 0)))
        (.seq (.block 1
          (.seq (.seq (.region none [
            ⟨(some 61), none, (.op (.mov (.tmp 3)))⟩,
            ⟨(some 62), none, (.op (.mov (.tmp 14)))⟩,
            ⟨(some 63), none, (.op (.index 5 (.tmp 61) (.tmp 62)))⟩,
            ⟨(some 64), none, (.op (.field 1 4 true (.tmp 63)))⟩,
            ⟨(some 65), none, (.op (.field 3 1 false (.tmp 64)))⟩,
            ⟨(some 66), none, (.op (.load 1 false (.tmp 65)))⟩,
            ⟨(some 67), none, (.op (.len (.tmp 66)))⟩,
            ⟨(some 68), none, (.op (.arith .gtr (.tmp 67) (.dat (.lit (.int .i64 5)))))⟩])
          (.cond (.tmp 68)
            (.seq (.region none [
              ⟨(some 8), none, (.op (.mov (.dat (.lit (.bool true)))))⟩])
            .ret)
            .skip))
          (.seq (.region none [
            ⟨(some 69), none, (.op (.mov (.tmp 12)))⟩,
            ⟨(some 70), none, (.op (.mov (.tmp 3)))⟩,
            ⟨(some 71), none, (.op (.mov (.tmp 14)))⟩,
            ⟨(some 72), none, (.op (.index 5 (.tmp 70) (.tmp 71)))⟩,
            ⟨(some 73), none, (.op (.field 0 1 false (.tmp 72)))⟩,
            ⟨(some 74), none, (.op (.load 1 false (.tmp 73)))⟩,
            ⟨(some 75), none, (.op (.conv .i64 (.tmp 74)))⟩,
            ⟨(some 76), none, (.op (.arith .add (.tmp 69) (.tmp 75)))⟩,
            ⟨(some 77), none, (.op (.minmax false (.tmp 76) (.dat (.lit (.int .i64 1099511627775)))))⟩,
            ⟨(some 12), none, (.op (.mov (.tmp 77)))⟩])
          (.seq (.region (some [[], [], [], [], [], [3, 4], [3, 4, 5], [3, 4, 5, 6], [0, 1, 2, 3, 4, 5, 6, 7], [0, 1, 2, 3, 4, 5, 6, 7, 8], [0, 1, 2, 3, 4, 5, 6, 7, 8, 9], [0, 1, 2, 3, 4, 5, 6, 7, 8, 9], [0, 1, 2, 3, 4, 5, 6, 7, 8, 9, 10], [0, 1, 2, 3, 4, 5, 6, 7, 8, 9, 10, 11, 12]]) [
            ⟨(some 79), none, (.op (.load 2 true (.tmp 11)))⟩,
            ⟨(some 80), none, (.op (.load 1 true (.tmp 5)))⟩,
            ⟨(some 81), none, (.op (.mov (.tmp 12)))⟩,
            ⟨(some 82), none, (.op (.mov (.tmp 3)))⟩,
            ⟨(some 83), none, (.op (.mov (.tmp 14)))⟩,
            ⟨(some 84), none, (.op (.index 5 (.tmp 82) (.tmp 83)))⟩,
            ⟨(some 85), none, (.op (.field 1 4 true (.tmp 84)))⟩,
            ⟨(some 86), none, (.op (.load 4 true (.tmp 85)))⟩,
            ⟨(some 87), none, (.call (.dat (.fn (.func 16) [] [])) [(.tmp 79), (.tmp 80), (.tmp 81), (.tmp 86)])⟩,
            ⟨(some 78), none, (.op (.mov (.tmp 87)))⟩,
            ⟨(some 88), none, (.op (.extract (.tmp 78) 0))⟩,
            ⟨(some 89), none, (.op (.extract (.tmp 78) 1))⟩,
            ⟨(some 15), none, (.op (.mov (.tmp 88)))⟩,
            ⟨(some 16), none, (.op (.mov (.tmp 89)))⟩])
          (.seq (.seq (.region none [
            ⟨(some 90), none, (.op (.mov (.tmp 16)))⟩,
            ⟨(some 91), none, (.op (.arith .neq (.tmp 90) (.dat (.lit (.int .i64 0)))))⟩])
          (.cond (.tmp 91)
            (.seq (.region none [
              ⟨(some 8), none, (.op (.mov (.dat (.lit (.bool false)))))⟩])
            .ret)
            .skip))
          (.seq (.seq (.region none [
            ⟨(some 92), none, (.op (.mov (.tmp 15)))⟩])
          (.cond (.tmp 92)
            (.seq (.region (some [[], [], [], [1, 2], [1, 2, 3], [1, 2, 3, 4], [0, 1, 2, 3, 4, 5], [0, 1, 2, 3, 4, 5, 6], [0, 1, 2, 3, 4, 5, 6, 7], [0, 1, 2, 3, 4, 5, 6, 7], [], [0, 1, 2, 3, 4, 5, 6, 7, 8, 10], [0, 1, 2, 3, 4, 5, 6, 7, 8, 9, 10, 11]]) [
              ⟨(some 94), none, (.op (.load 2 true (.tmp 11)))⟩,
              ⟨(some 95), none, (.op (.mov (.tmp 3)))⟩,
              ⟨(some 96), none, (.op (.mov (.tmp 14)))⟩,
              ⟨(some 97), none, (.op (.index 5 (.tmp 95) (.tmp 96)))⟩,
              ⟨(some 98), none, (.op (.field 1 4 true (.tmp 97)))⟩,
              ⟨(some 99), none, (.op (.load 4 true (.tmp 98)))⟩,
              ⟨(some 100), none, (.call (.dat (.fn (.func 23) [] [])) [(.tmp 94), (.tmp 99)])⟩,
              ⟨(some 93), none, (.op (.mov (.tmp 100)))⟩,
              ⟨(some 101), none, (.op (.extract (.tmp 93) 0))⟩,
              ⟨(some 102), none, (.op (.extract (.tmp 93) 1))⟩,
              ⟨(some 17), none, (.op (.alloc true [.nil 5, .lit (.int .i64 0)]))⟩,
              ⟨none, none, (.op (.store 2 (.tmp 17) (.tmp 101)))⟩,
              ⟨(some 18), none, (.op (.mov (.tmp 102)))⟩])
            (.seq (.seq (.region none [
              ⟨(some 103), none, (.op (.mov (.tmp 18)))⟩,
              ⟨(some 104), none, (.op (.arith .neq (.tmp 103) (.dat (.lit (.int .i64 0)))))⟩])
            (.cond (.tmp 104)
              (.seq (.region none [
                ⟨(some 8), none, (.op (.mov (.dat (.lit (.bool false)))))⟩])
              .ret)
              .skip))
            (.region none [
              ⟨(some 105), none, (.op (.load 2 true (.tmp 17)))⟩,
              ⟨none, none, (.op (.store 2 (.tmp 11) (.tmp 105)))⟩])))
            .skip))
          (.seq (.region none [
            ⟨(some 107), none, (.op (.load 2 true (.tmp 11)))⟩,
            ⟨(some 108), none, (.op (.load 1 true (.tmp 5)))⟩,
            ⟨(some 109), none, (.op (.mov (.tmp 12)))⟩,
            ⟨(some 110), none, (.call (.dat (.fn (.func 18) [] [])) [(.tmp 107), (.tmp 108), (.tmp 109)])⟩,
            ⟨(some 106), none, (.op (.mov (.tmp 110)))⟩,
            ⟨(some 111), none, (.op (.extract (.tmp 106) 0))⟩,
            ⟨(some 112), none, (.op (.extract (.tmp 106) 1))⟩,
            ⟨(some 19), none, (.op (.mov (.tmp 111)))⟩,
            ⟨(some 20), none, (.op (.mov (.tmp 112)))⟩])
          (.seq (.seq (.region (some [[], [0], [0, 1], [0, 1, 2], [0, 1, 2], [0, 1, 2, 3, 4], [0, 1, 2, 3, 4, 5], [0, 1, 2, 3, 4, 5, 6], [0, 1, 2, 3, 4, 5, 6, 7], [0, 1, 2, 3, 4, 5, 6, 7], [0, 1, 2, 3, 4, 5, 6, 7, 9], [0, 1, 2, 3, 4, 5, 6, 7, 9, 10], [0, 1, 2, 3, 4, 5, 6, 7, 8, 9, 10, 11], [0, 1, 2, 3, 4, 5, 6, 7, 8, 9, 10, 11, 12], [0, 1, 2, 3, 4, 5, 6, 7, 8, 9, 10, 11, 12, 13], [0, 1, 2, 3, 4, 5, 6, 7, 8, 9, 10, 11, 12, 13, 14], [0, 1, 2, 3, 4, 5, 6, 7, 8, 9, 10, 11, 12, 13, 14, 15], [0, 1, 2, 3, 4, 5, 6, 7, 8, 9, 10, 11, 12, 13, 14, 15, 16], [0, 1, 2, 3, 4, 5, 6, 7, 8, 9, 10, 11, 12, 13, 14], [0, 1, 2, 3, 4, 5, 6, 7, 8, 9, 10, 11, 12, 13, 14, 15, 16, 17, 18], [0, 1, 2, 3, 4, 5, 6, 7, 8, 9, 10, 11, 12, 13, 14, 15, 16, 17, 18, 19], [0, 1, 2, 3, 4, 5, 6, 7, 8, 9, 10, 11, 12, 13, 14, 15, 16, 17, 18, 19, 20], [0, 1, 2, 3, 4, 5, 6, 7, 8, 9, 10, 11, 12, 13, 14, 15, 16, 17, 18, 19, 20, 21], [0, 1, 2, 3, 4, 5, 6, 7, 8, 9, 10, 11, 12, 13, 14, 15, 16, 17, 18, 19, 20, 21, 22], [0, 1, 2, 3, 4, 5, 6, 7, 8, 9, 10, 11, 12, 13, 14, 15, 16, 17, 18, 19, 20, 21], [0, 1, 2, 3, 4, 5, 6, 7, 8, 9, 10, 11, 12, 13, 14, 15, 16, 17, 18, 19, 20, 21, 22, 23, 24], [0, 1, 2, 3, 4, 5, 6, 7, 8, 9, 10, 11, 12, 13, 14, 15, 16, 17, 18, 19, 20, 21], [0, 1, 2, 3, 4, 5, 6, 7, 8, 9, 10, 11, 12, 13, 14, 15, 16, 17, 18, 19, 20, 21, 26], [0, 1, 2, 3, 4, 5, 6, 7, 8, 9, 10, 11, 12, 13, 14, 15, 16, 17, 18, 19, 20, 21], [0, 1, 2, 3, 4, 5, 6, 7, 8, 9, 10, 11, 12, 13, 14, 15, 16, 17, 18, 19, 20, 21, 26, 27, 28], [0, 1, 2, 3, 4, 5, 6, 7, 8, 9, 10, 11, 12, 13, 14, 15, 16, 17, 18, 19, 20, 21, 22, 23, 24, 25, 26, 27, 28, 29], [0, 1, 2, 3, 4, 5, 6, 7, 8, 9, 10, 11, 12, 13, 14, 15, 16, 17, 18, 19, 20, 21, 22, 23, 24, 25, 26, 27, 28, 29, 30], [0, 1, 2, 3, 4, 5, 6, 7, 8, 9, 10, 11, 12, 13, 14, 15, 16, 17, 18, 19, 20, 21, 22, 23, 24, 25, 26, 27, 28, 29, 30, 31]]) [
            ⟨(some 113), none, (.op (.mov (.tmp 20)))⟩,
            ⟨(some 114), none, (.op (.arith .neq (.tmp 113) (.dat (.lit (.int .i64 0)))))⟩,
            ⟨(some 115), none, (.op (.mov (.tmp 114)))⟩,
            ⟨(some 116), (some (115, false)), (.op (.mov (.tmp 19)))⟩,
            ⟨(some 117), (some (115, false)), (.op (.mov (.tmp 13)))⟩,
            ⟨(some 118), (some (115, false)), (.op (.arith .lss (.tmp 116) (.tmp 117)))⟩,
            ⟨(some 119), none, (.op (.pick (.tmp 115) (.dat (.lit (.bool true))) (.tmp 118)))⟩,
            ⟨(some 120), none, (.op (.mov (.tmp 119)))⟩,
            ⟨(some 121), (some (120, false)), (.op (.mov (.tmp 19)))⟩,
            ⟨(some 122), (some (120, false)), (.op (.field 0 1 false (.tmp 11)))⟩,
            ⟨(some 123), (some (120, false)), (.op (.load 1 false (.tmp 122)))⟩,
            ⟨(some 124), (some (120, false)), (.op (.len (.tmp 123)))⟩,
            ⟨(some 125), (some (120, false)), (.op (.arith .gtr (.tmp 121) (.tmp 124)))⟩,
            ⟨(some 126), none, (.op (.pick (.tmp 120) (.dat (.lit (.bool true))) (.tmp 125)))⟩,
            ⟨(some 127), none, (.op (.mov (.tmp 126)))⟩,
            ⟨(some 128), (some (127, false)), (.op (.field 0 1 false (.tmp 11)))⟩,
            ⟨(some 129), (some (127, false)), (.op (.load 1 false (.tmp 128)))⟩,
            ⟨(some 130), (some (127, false)), (.op (.len (.tmp 129)))⟩,
            ⟨(some 131), (some (127, false)), (.op (.mov (.tmp 9)))⟩,
            ⟨(some 132), (some (127, false)), (.op (.arith .lss (.tmp 130) (.tmp 131)))⟩,
            ⟨(some 133), none, (.op (.pick (.tmp 127) (.dat (.lit (.bool true))) (.tmp 132)))⟩,
            ⟨(some 134), none, (.op (.mov (.tmp 133)))⟩,
            ⟨(some 135), (some (134, false)), (.op (.field 0 1 false (.tmp 11)))⟩,
            ⟨(some 136), (some (134, false)), (.op (.load 1 false (.tmp 135)))⟩,
            ⟨(some 137), (some (134, false)), (.op (.mov (.tmp 9)))⟩,
            ⟨(some 138), (some (134, false)), (.op (.slice 5 (.tmp 136) none (some (.tmp 137))))⟩,
            ⟨(some 139), (some (134, false)), (.op (.field 0 1 false (.tmp 4)))⟩,
            ⟨(some 140), (some (134, false)), (.op (.load 1 false (.tmp 139)))⟩,
            ⟨(some 141), (some (134, false)), (.op (.mov (.tmp 9)))⟩,
            ⟨(some 142), (some (134, false)), (.op (.slice 5 (.tmp 140) none (some (.tmp 141))))⟩,
            ⟨(some 143), (some (134, false)), (.call (.dat (.fn (.func 24) [] [])) [(.tmp 138), (.tmp 142)])⟩,
            ⟨(some 144), (some (134, false)), (.op (.not (.tmp 143)))⟩,
            ⟨(some 145), none, (.op (.pick (.tmp 134) (.dat (.lit (.bool true))) (.tmp 144)))⟩])
          (.cond (.tmp 145)
            (.seq (.region none [
              ⟨(some 8), none, (.op (.mov (.dat (.lit (.bool false)))))⟩])
            .ret)
            .skip))
          (.region none [
            ⟨(some 146), none, (.op (.mov (.tmp 19)))⟩,
            ⟨(some 13), none, (.op (.mov (.tmp 146)))⟩])))))))))
        (.region none [
          ⟨(some 59), none, (.op (.mov (.tmp 14)))⟩,
          ⟨(some 60), none, (.op (.arith .add (.tmp 59) (.dat (.lit (.int .i64 1)))))⟩,
          ⟨(some 14), none, (.op (.mov (.tmp 60)))⟩]))))))
    (.seq (.region none [
      ⟨(some 8), none, (.op (.mov (.dat (.lit (.bool true)))))⟩])
    .ret))))))))))
  res := [.tmp 8]
theorem c5 : CmpF Tryd.prog 5 a5 := chkF_cmp (F := Tryd.f5) (by kernel_rfl) mixed (by kernel_rfl)
/-- hansard/hansardlaw19.PermitsChange -/
def a6 : AF where
  nt := 150
  body := (.seq (.region none [
      ⟨(some 3), none, (.op (.box true (.tmp 0)))⟩,
      ⟨(some 4), none, (.op (.box true (.tmp 1)))⟩,
      ⟨(some 6), none, (.op (.mov (.dat (.lit (.bool false)))))⟩])
    (.seq (.seq (.region none [
      ⟨(some 19), none, (.call (.dat (.fn (.func 14) [] [])) [])⟩,
      ⟨(some 20), none, (.op (.not (.tmp 19)))⟩])
    (.cond (.tmp 20)
      (.seq (.region none [
        ⟨(some 6), none, (.op (.mov (.dat (.lit (.bool false)))))⟩])
      .ret)
      .skip))
    (.seq (.seq (.region none [
      ⟨(some 21), none, (.op (.load 2 true (.tmp 3)))⟩,
      ⟨(some 22), none, (.op (.build [.lit (.int .i64 0), .lit (.int .i64 0), .lit (.int .i64 0), .nil 5] []))⟩,
      ⟨(some 23), none, (.call (.dat (.fn (.func 15) [] [])) [(.tmp 21), (.tmp 22)])⟩,
      ⟨(some 24), none, (.op (.not (.tmp 23)))⟩])
    (.cond (.tmp 24)
      (.seq (.region none [
        ⟨(some 6), none, (.op (.mov (.dat (.lit (.bool true)))))⟩])
      .ret)
      .skip))
    (.seq (.region none [
      ⟨(some 26), none, (.op (.load 2 true (.tmp 3)))⟩,
      ⟨(some 27), none, (.op (.load 1 true (.tmp 4)))⟩,
      ⟨(some 28), none, (.op (.mov (.tmp 2)))⟩,
      ⟨(some 29), none, (.call (.dat (.fn (.func 18) [] [])) [(.tmp 26), (.tmp 27), (.tmp 28)])⟩,
      ⟨(some 25), none, (.op (.mov (.tmp 29)))⟩,
      ⟨(some 30), none, (.op (.extract (.tmp 25) 0))⟩,
      ⟨(some 31), none, (.op (.extract (.tmp 25) 1))⟩,
      ⟨(some 7), none, (.op (.mov (.tmp 30)))⟩,
      ⟨(some 8), none, (.op (.mov (.tmp 31)))⟩])
    (.seq (.seq (.region none [
      ⟨(some 32), none, (.op (.mov (.tmp 8)))⟩,
      ⟨(some 33), none, (.op (.arith .neq (.tmp 32) (.dat (.lit (.int .i64 0)))))⟩])
    (.cond (.tmp 33)
      (.seq (.region none [
        ⟨(some 34), none, (.op (.mov (.tmp 7)))⟩,
        ⟨(some 35), none, (.op (.arith .eql (.tmp 34) (.dat (.lit (.int .i64 0)))))⟩,
        ⟨(some 6), none, (.op (.mov (.tmp 35)))⟩])
      .ret)
      .skip))
    (.seq (.seq (.region none [
      ⟨(some 9), none, (.op (.mov (.dat (.lit (.int .i64 0)))))⟩])
    (.block 0
      (.loop
        (.seq (.seq (.region none [
          ⟨(some 36), none, (.op (.mov (.tmp 9)))⟩,
          ⟨(some 37), none, (.op (.field 0 1 false (.tmp 3)))⟩,
          ⟨(some 38), none, (.op (.load 1 false (.tmp 37)))⟩,
          ⟨(some 39), none, (.op (.len (.tmp 38)))⟩,
          ⟨(some 40), none, (.op (.arith .lss (.tmp 36) (.tmp 39)))⟩])
        (.cond (.tmp 40)
          .skip
          (.exit 0)))
        (.seq (.block 1
          (.seq (.region none [
            ⟨(some 44), none, (.op (.load 2 true (.tmp 3)))⟩,
            ⟨(some 45), none, (.op (.load 1 true (.tmp 4)))⟩,
            ⟨(some 46), none, (.op (.mov (.tmp 2)))⟩,
            ⟨(some 47), none, (.op (.mov (.tmp 9)))⟩,
            ⟨(some 48), none, (.call (.dat (.fn (.func 20) [] [])) [(.tmp 44), (.tmp 45), (.tmp 46), (.tmp 47)])⟩,
            ⟨(some 43), none, (.op (.mov (.tmp 48)))⟩,
            ⟨(some 49), none, (.op (.extract (.tmp 43) 0))⟩,
            ⟨(some 50), none, (.op (.extract (.tmp 43) 1))⟩,
            ⟨(some 51), none, (.op (.extract (.tmp 43) 2))⟩,
            ⟨(some 10), none, (.op (.alloc true [.lit (.int .i64 0), .lit (.int .i64 0), .lit (.int .i64 0), .nil 5]))⟩,
            ⟨none, none, (.op (.store 4 (.tmp 10) (.tmp 49)))⟩,
            ⟨(some 11), none, (.op (.mov (.tmp 50)))⟩,
            ⟨(some 12), none, (.op (.mov (.tmp 51)))⟩])
          (.seq (.seq (.region none [
            ⟨(some 52), none, (.op (.mov (.tmp 12)))⟩,
            ⟨(some 53), none, (.op (.arith .neq (.tmp 52) (.dat (.lit (.int .i64 0)))))⟩,
            ⟨(some 54), none, (.op (.mov (.tmp 53)))⟩,
            ⟨(some 55), (some (54, false)), (.op (.mov (.tmp 11)))⟩,
            ⟨(some 56), (some (54, false)), (.op (.mov (.tmp 9)))⟩,
            ⟨(some 57), (some (54, false)), (.op (.mov (.tmp 7)))⟩,
            ⟨(some 58), (some (54, false)), (.op (.arith .geq (.tmp 56) (.tmp 57)))⟩,
            ⟨(some 59), (some (54, false)), (.op (.ext (.eqBool true) [(.tmp 55), (.tmp 58)]))⟩,
            ⟨(some 60), none, (.op (.pick (.tmp 54) (.dat (.lit (.bool true))) (.tmp 59)))⟩])
          (.cond (.tmp 60)
            (.seq (.region none [
              ⟨(some 6), none, (.op (.mov (.dat (.lit (.bool false)))))⟩])
            .ret)
            .skip))
          (.seq (.seq (.region none [
            ⟨(some 61), none, (.op (.mov (.tmp 11)))⟩,
            ⟨(some 62), none, (.op (.not (.tmp 61)))⟩])
          (.cond (.tmp 62)
            (.exit 1)
            .skip))
          (.seq (.region none [
            ⟨(some 64), none, (.op (.load 2 true (.tmp 3)))⟩,
            ⟨(some 65), none, (.op (.load 1 true (.tmp 4)))⟩,
            ⟨(some 66), none, (.op (.mov (.tmp 2)))⟩,
            ⟨(some 67), none, (.op (.load 4 true (.tmp 10)))⟩,
            ⟨(some 68), none, (.call (.dat (.fn (.func 16) [] [])) [(.tmp 64), (.tmp 65), (.tmp 66), (.tmp 67)])⟩,
            ⟨(some 63), none, (.op (.mov (.tmp 68)))⟩,
            ⟨(some 69), none, (.op (.extract (.tmp 63) 0))⟩,
            ⟨(some 70), none, (.op (.extract (.tmp 63) 1))⟩,
            ⟨(some 13), none, (.op (.mov (.tmp 69)))⟩,
            ⟨(some 14), none, (.op (.mov (.tmp 70)))⟩])
          (.seq (.region none [
            ⟨(some 72), none, (.op (.load 2 true (.tmp 3)))⟩,
            ⟨(some 73), none, (.op (.load 4 true (.tmp 10)))⟩,
            ⟨(some 74), none, (.call (.dat (.fn (.func 23) [] [])) [(.tmp 72), (.tmp 73)])⟩,
            ⟨(some 71), none, (.op (.mov (.tmp 74)))⟩,
            ⟨(some 75), none, (.op (.extract (.tmp 71) 0))⟩,
            ⟨(some 76), none, (.op (.extract (.tmp 71) 1))⟩,
            ⟨(some 15), none, (.op (.alloc true [.nil 5, .lit (.int .i64 0)]))⟩,
            ⟨none, none, (.op (.store 2 (.tmp 15) (.tmp 75)))⟩,
            ⟨(some 16), none, (.op (.mov (.tmp 76)))⟩])
          (.seq (.seq (.region (some [[], [0], [0, 1], [0, 1, 2], [0, 1, 2, 3], [0, 1, 2, 3, 4], [0, 1, 2, 3, 4, 5], [0, 1, 2, 3, 4, 5, 6], [0, 1, 2, 3, 4, 5, 6, 7], [0, 1, 2, 3, 4, 5, 6, 7, 8], [0, 1, 2, 3, 4, 5, 6, 7, 8, 9], [0, 1, 2, 3, 4, 5, 6, 7, 8, 9, 10], [0, 1, 2, 3, 4, 5, 6, 7, 8, 9, 10, 11], [0, 1, 2, 3, 4, 5, 6, 7, 8, 9, 10, 11, 12], [0, 1, 2, 3, 4, 5, 6, 7, 8, 9, 10], [0, 1, 2, 3, 4, 5, 6, 7, 8, 9, 10, 14], [0, 1, 2, 3, 4, 5, 6, 7, 8, 9, 10, 14, 15], [0, 1, 2, 3, 4, 5, 6, 7, 8, 9, 10, 11, 12, 13, 14, 15, 16], [0, 1, 2, 3, 4, 5, 6, 7, 8, 9, 10, 11, 12, 13, 14, 15, 16, 17], [0, 1, 2, 3, 4, 5, 6, 7, 8, 9, 10, 11, 12, 13, 14, 15, 16, 17, 18], [0, 1, 2, 3, 4, 5, 6, 7, 8, 9, 10, 11, 12, 13, 14, 15, 16, 17, 18, 19], [0, 1, 2, 3, 4, 5, 6, 7, 8, 9, 10, 11, 12, 13, 14, 15, 16, 17, 18, 19, 20], [0, 1, 2, 3, 4, 5, 6, 7, 8, 9, 10, 11, 12, 13, 14, 15, 16, 17, 18, 19], [0, 1, 2, 3, 4, 5, 6, 7, 8, 9, 10, 11, 12, 13, 14, 15, 16, 17, 18, 19, 20, 21, 22], [0, 1, 2, 3, 4, 5, 6, 7, 8, 9, 10, 11, 12, 13, 14, 15, 16, 17, 18, 19, 20, 21, 22, 23], [0, 1, 2, 3, 4, 5, 6, 7, 8, 9, 10, 11, 12, 13, 14, 15, 16, 17, 18, 19, 20, 21, 22, 23, 24], [0, 1, 2, 3, 4, 5, 6, 7, 8, 9, 10, 11, 12, 13, 14, 15, 16, 17, 18, 19], [0, 1, 2, 3, 4, 5, 6, 7, 8, 9, 10, 11, 12, 13, 14, 15, 16, 17, 18, 19, 26], [0, 1, 2, 3, 4, 5, 6, 7, 8, 9, 10, 11, 12, 13, 14, 15, 16, 17, 18, 19], [0, 1, 2, 3, 4, 5, 6, 7, 8, 9, 10, 11, 12, 13, 14, 15, 16, 17, 18, 19, 26, 27, 28], [0, 1, 2, 3, 4, 5, 6, 7, 8, 9, 10, 11, 12, 13, 14, 15, 16, 17, 18, 19, 26, 27, 28, 29], [0, 1, 2, 3, 4, 5, 6, 7, 8, 9, 10, 11, 12, 13, 14, 15, 16, 17, 18, 19, 26, 27, 28, 29, 30], [0, 1, 2, 3, 4, 5, 6, 7, 8, 9, 10, 11, 12, 13, 14, 15, 16, 17, 18, 19, 20, 21, 22, 23, 24, 25, 26, 27, 28, 29, 30, 31], [0, 1, 2, 3, 4, 5, 6, 7, 8, 9, 10, 11, 12, 13, 14, 15, 16, 17, 18, 19, 20, 21, 22, 23, 24, 25, 26, 27, 28, 29, 30, 31, 32]]) [
            ⟨(some 77), none, (.op (.mov (.tmp 14)))⟩,
            ⟨(some 78), none, (.op (.arith .neq (.tmp 77) (.dat (.lit (.int .i64 0)))))⟩,
            ⟨(some 79), none, (.op (.mov (.tmp 78)))⟩,
            ⟨(some 80), (some (79, false)), (.op (.mov (.tmp 16)))⟩,
            ⟨(some 81), (some (79, false)), (.op (.arith .neq (.tmp 80) (.dat (.lit (.int .i64 0)))))⟩,
            ⟨(some 82), none, (.op (.pick (.tmp 79) (.dat (.lit (.bool true))) (.tmp 81)))⟩,
            ⟨(some 83), none, (.op (.mov (.tmp 82)))⟩,
            ⟨(some 84), (some (83, false)), (.op (.mov (.tmp 13)))⟩,
            ⟨(some 85), (some (83, false)), (.op (.not (.tmp 84)))⟩,
            ⟨(some 86), none, (.op (.pick (.tmp 83) (.dat (.lit (.bool true))) (.tmp 85)))⟩,
            ⟨(some 87), none, (.op (.mov (.tmp 86)))⟩,
            ⟨(some 88), (some (87, false)), (.op (.field 0 1 false (.tmp 15)))⟩,
            ⟨(some 89), (some (87, false)), (.op (.load 1 false (.tmp 88)))⟩,
            ⟨(some 90), (some (87, false)), (.op (.len (.tmp 89)))⟩,
            ⟨(some 91), (some (87, false)), (.op (.field 0 1 false (.tmp 3)))⟩,
            ⟨(some 92), (some (87, false)), (.op (.load 1 false (.tmp 91)))⟩,
            ⟨(some 93), (some (87, false)), (.op (.len (.tmp 92)))⟩,
            ⟨(some 94), (some (87, false)), (.op (.arith .neq (.tmp 90) (.tmp 93)))⟩,
            ⟨(some 95), none, (.op (.pick (.tmp 87) (.dat (.lit (.bool true))) (.tmp 94)))⟩,
            ⟨(some 96), none, (.op (.mov (.tmp 95)))⟩,
            ⟨(some 97), (some (96, false)), (.op (.field 0 1 false (.tmp 15)))⟩,
            ⟨(some 98), (some (96, false)), (.op (.load 1 false (.tmp 97)))⟩,
            ⟨(some 99), (some (96, false)), (.op (.mov (.tmp 9)))⟩,
            ⟨(some 100), (some (96, false)), (.op (.index 5 (.tmp 98) (.tmp 99)))⟩,
            ⟨(some 101), (some (96, false)), (.op (.field 0 1 false (.tmp 100)))⟩,
            ⟨(some 102), (some (96, false)), (.op (.load 1 false (.tmp 101)))⟩,
            ⟨(some 103), (some (96, false)), (.op (.field 0 1 false (.tmp 3)))⟩,
            ⟨(some 104), (some (96, false)), (.op (.load 1 false (.tmp 103)))⟩,
            ⟨(some 105), (some (96, false)), (.op (.mov (.tmp 9)))⟩,
            ⟨(some 106), (some (96, false)), (.op (.index 5 (.tmp 104) (.tmp 105)))⟩,
            ⟨(some 107), (some (96, false)), (.op (.field 0 1 false (.tmp 106)))⟩,
            ⟨(some 108), (some (96, false)), (.op (.load 1 false (.tmp 107)))⟩,
            ⟨(some 109), (some (96, false)), (.op (.arith .eql (.tmp 102) (.tmp 108)))⟩,
            ⟨(some 110), none, (.op (.pick (.tmp 96) (.dat (.lit (.bool true))) (.tmp 109)))⟩])
          (.cond (.tmp 110)
            (.seq (.region none [
              ⟨(some 6), none, (.op (.mov (.dat (.lit (.bool false)))))⟩])
            .ret)
            .skip))
          (.seq (.region none [
            ⟨(some 17), none, (.op (.mov (.dat (.lit (.int .i64 0)))))⟩])
          (.block 2
            (.loop
              (.seq (.seq (.region none [
                ⟨(some 111), none, (.op (.mov (.tmp 17)))⟩,
                ⟨(some 112), none, (.op (.field 0 1 false (.tmp 3)))⟩,
                ⟨(some 113), none, (.op (.load 1 false (.tmp 112)))⟩,
                ⟨(some 114), none, (.op (.len (.tmp 113)))⟩,
                ⟨(some 115), none, (.op (.arith .lss (.tmp 111) (.tmp 114)))⟩])
              (.cond (.tmp 115)
                .skip
                (.exit 2)))
              (.seq (.block 3
                (.seq (.region none [
                  ⟨(some 118), none, (.op (.field 0 1 false (.tmp 15)))⟩,
                  ⟨(some 119), none, (.op (.load 1 false (.tmp 118)))⟩,
                  ⟨(some 120), none, (.op (.mov (.tmp 17)))⟩,
                  ⟨(some 121), none, (.op (.index 5 (.tmp 119) (.tmp 120)))⟩,
                  ⟨(some 122), none, (.op (.load 5 true (.tmp 121)))⟩,
                  ⟨(some 18), none, (.op (.alloc true [.lit (.string ⟨#[]⟩), .lit (.int .i64 0), .lit (.int .i64 0), .lit (.int .i64 0), .nil 1]))⟩,
                  ⟨none, none, (.op (.store 5 (.tmp 18) (.tmp 122)))⟩])
                (.seq (.seq (.region none [
                  ⟨(some 123), none, (.op (.mov (.tmp 17)))⟩,
                  ⟨(some 124), none, (.op (.mov (.tmp 9)))⟩,
                  ⟨(some 125), none, (.op (.arith .eql (.tmp 123) (.tmp 124)))⟩])
                (.cond (.tmp 125)
                  (.region (some [[], [0], [], [0, 1, 2], [0, 1, 2, 3], [0, 1, 2, 3, 4], [], [6], [], [6, 7, 8], [6, 7, 8, 9], [6, 7, 8, 9, 10], [0, 1, 2, 3, 4, 5], [0, 1, 2, 3, 4, 5, 12], [0, 1, 2, 3, 4, 5, 6, 7, 8, 9, 10, 11, 12, 13], [0, 1, 2, 3, 4, 5, 6, 7, 8, 9, 10, 11, 12, 13, 14]]) [
                    ⟨(some 126), none, (.op (.field 0 1 false (.tmp 3)))⟩,
                    ⟨(some 127), none, (.op (.load 1 false (.tmp 126)))⟩,
                    ⟨(some 128), none, (.op (.mov (.tmp 9)))⟩,
                    ⟨(some 129), none, (.op (.index 5 (.tmp 127) (.tmp 128)))⟩,
                    ⟨(some 130), none, (.op (.field 0 1 false (.tmp 129)))⟩,
                    ⟨(some 131), none, (.op (.load 1 false (.tmp 130)))⟩,
                    ⟨(some 132), none, (.op (.field 0 1 false (.tmp 3)))⟩,
                    ⟨(some 133), none, (.op (.load 1 false (.tmp 132)))⟩,
                    ⟨(some 134), none, (.op (.mov (.tmp 9)))⟩,
                    ⟨(some 135), none, (.op (.index 5 (.tmp 133) (.tmp 134)))⟩,
                    ⟨(some 136), none, (.op (.field 4 1 false (.tmp 135)))⟩,
                    ⟨(some 137), none, (.op (.load 1 false (.tmp 136)))⟩,
                    ⟨(some 138), none, (.op (.field 0 1 false (.tmp 18)))⟩,
                    ⟨none, none, (.op (.store 1 (.tmp 138) (.tmp 131)))⟩,
                    ⟨(some 139), none, (.op (.field 4 1 false (.tmp 18)))⟩,
                    ⟨none, none, (.op (.store 1 (.tmp 139) (.tmp 137)))⟩])
                  .skip))
                (.seq (.region (some [[], [0], [], [2], [], [], [5], [2, 3, 4, 5, 6], [0, 1, 2, 3, 4, 5, 6, 7], [0, 1, 2, 3, 4, 5, 6, 7, 8]]) [
                  ⟨(some 140), none, (.op (.load 5 true (.tmp 18)))⟩,
                  ⟨(some 141), none, (.op (.mkslice 5 [(.tmp 140)]))⟩,
                  ⟨(some 142), none, (.op (.field 0 1 false (.tmp 3)))⟩,
                  ⟨(some 143), none, (.op (.load 1 false (.tmp 142)))⟩,
                  ⟨(some 144), none, (.op (.mov (.tmp 17)))⟩,
                  ⟨(some 145), none, (.op (.mov (.tmp 17)))⟩,
                  ⟨(some 146), none, (.op (.arith .add (.tmp 145) (.dat (.lit (.int .i64 1)))))⟩,
                  ⟨(some 147), none, (.op (.slice 5 (.tmp 143) (some (.tmp 144)) (some (.tmp 146))))⟩,
                  ⟨(some 148), none, (.call (.dat (.fn (.func 24) [] [])) [(.tmp 141), (.tmp 147)])⟩,
                  ⟨(some 149), none, (.op (.not (.tmp 148)))⟩])
                (.cond (.tmp 149)
                  (.seq (.region none [
                    ⟨(some 6), none, (.op (.mov (.dat (.lit (.bool false)))))⟩])
                  .ret)
                  .skip)))))
              (.region none [
                ⟨(some 116), none, (.op (.mov (.tmp 17)))⟩,
                ⟨(some 117), none, (.op (.arith .add (.tmp 116) (.dat (.lit (.int .i64 1)))))⟩,
                ⟨(some 17), none, (.op (.mov (.tmp 117)))⟩])))))))))))))
        (.region none [
          ⟨(some 41), none, (.op (.mov (.tmp 9)))⟩,
          ⟨(some 42), none, (.op (.arith .add (.tmp 41) (.dat (.lit (.int .i64 1)))))⟩,
          ⟨(some 9), none, (.op (.mov (.tmp 42)))⟩]))))))
    (.seq (.region none [
      ⟨(some 6), none, (.op (.mov (.dat (.lit (.bool true)))))⟩])
    .ret)))))))
  res := [.tmp 6]
theorem c6 : CmpF Tryd.prog 6 a6 := chkF_cmp (F := Tryd.f6) (by kernel_rfl) mixed (by kernel_rfl)
/-- hansard/hansardlaw19.PermitsMore -/
def a7 : AF where
  nt := 101
  body := (.seq (.region none [
      ⟨(some 6), none, (.op (.box true (.tmp 0)))⟩,
      ⟨(some 7), none, (.op (.box true (.tmp 1)))⟩,
      ⟨(some 8), none, (.op (.box true (.tmp 2)))⟩,
      ⟨(some 11), none, (.op (.box true (.tmp 5)))⟩,
      ⟨(some 12), none, (.op (.mov (.dat (.lit (.bool false)))))⟩])
    (.seq (.seq (.region none [
      ⟨(some 21), none, (.call (.dat (.fn (.func 14) [] [])) [])⟩,
      ⟨(some 22), none, (.op (.not (.tmp 21)))⟩])
    (.cond (.tmp 22)
      (.seq (.region none [
        ⟨(some 12), none, (.op (.mov (.dat (.lit (.bool false)))))⟩])
      .ret)
      .skip))
    (.seq (.seq (.region none [
      ⟨(some 23), none, (.op (.load 2 true (.tmp 6)))⟩,
      ⟨(some 24), none, (.op (.load 4 true (.tmp 11)))⟩,
      ⟨(some 25), none, (.call (.dat (.fn (.func 15) [] [])) [(.tmp 23), (.tmp 24)])⟩,
      ⟨(some 26), none, (.op (.not (.tmp 25)))⟩,
      ⟨(some 27), none, (.op (.mov (.tmp 26)))⟩,
      ⟨(some 28), (some (27, false)), (.op (.field 0 1 false (.tmp 8)))⟩,
      ⟨(some 29), (some (27, false)), (.op (.load 1 false (.tmp 28)))⟩,
      ⟨(some 30), (some (27, false)), (.op (.field 0 1 false (.tmp 7)))⟩,
      ⟨(some 31), (some (27, false)), (.op (.load 1 false (.tmp 30)))⟩,
      ⟨(some 32), (some (27, false)), (.op (.arith .lss (.tmp 29) (.tmp 31)))⟩,
      ⟨(some 33), none, (.op (.pick (.tmp 27) (.dat (.lit (.bool true))) (.tmp 32)))⟩,
      ⟨(some 34), none, (.op (.mov (.tmp 33)))⟩,
      ⟨(some 35), (some (34, false)), (.op (.mov (.tmp 4)))⟩,
      ⟨(some 36), (some (34, false)), (.op (.mov (.tmp 3)))⟩,
      ⟨(some 37), (some (34, false)), (.op (.arith .gtr (.tmp 35) (.tmp 36)))⟩,
      ⟨(some 38), none, (.op (.pick (.tmp 34) (.dat (.lit (.bool true))) (.tmp 37)))⟩])
    (.cond (.tmp 38)
      (.seq (.region none [
        ⟨(some 12), none, (.op (.mov (.dat (.lit (.bool true)))))⟩])
      .ret)
      .skip))
    (.seq (.region none [
      ⟨(some 40), none, (.op (.load 2 true (.tmp 6)))⟩,
      ⟨(some 41), none, (.op (.load 1 true (.tmp 7)))⟩,
      ⟨(some 42), none, (.op (.mov (.tmp 3)))⟩,
      ⟨(some 43), none, (.op (.load 4 true (.tmp 11)))⟩,
      ⟨(some 44), none, (.call (.dat (.fn (.func 16) [] [])) [(.tmp 40), (.tmp 41), (.tmp 42), (.tmp 43)])⟩,
      ⟨(some 39), none, (.op (.mov (.tmp 44)))⟩,
      ⟨(some 45), none, (.op (.extract (.tmp 39) 0))⟩,
      ⟨(some 46), none, (.op (.extract (.tmp 39) 1))⟩,
      ⟨(some 13), none, (.op (.mov (.tmp 45)))⟩,
      ⟨(some 14), none, (.op (.mov (.tmp 46)))⟩])
    (.seq (.region none [
      ⟨(some 48), none, (.op (.load 2 true (.tmp 6)))⟩,
      ⟨(some 49), none, (.op (.load 1 true (.tmp 8)))⟩,
      ⟨(some 50), none, (.op (.mov (.tmp 4)))⟩,
      ⟨(some 51), none, (.op (.load 4 true (.tmp 11)))⟩,
      ⟨(some 52), none, (.call (.dat (.fn (.func 16) [] [])) [(.tmp 48), (.tmp 49), (.tmp 50), (.tmp 51)])⟩,
      ⟨(some 47), none, (.op (.mov (.tmp 52)))⟩,
      ⟨(some 53), none, (.op (.extract (.tmp 47) 0))⟩,
      ⟨(some 54), none, (.op (.extract (.tmp 47) 1))⟩,
      ⟨(some 15), none, (.op (.mov (.tmp 53)))⟩,
      ⟨(some 16), none, (.op (.mov (.tmp 54)))⟩])
    (.seq (.region none [
      ⟨(some 56), none, (.op (.load 2 true (.tmp 6)))⟩,
      ⟨(some 57), none, (.op (.load 1 true (.tmp 7)))⟩,
      ⟨(some 58), none, (.op (.mov (.tmp 3)))⟩,
      ⟨(some 59), none, (.call (.dat (.fn (.func 18) [] [])) [(.tmp 56), (.tmp 57), (.tmp 58)])⟩,
      ⟨(some 55), none, (.op (.mov (.tmp 59)))⟩,
      ⟨(some 60), none, (.op (.extract (.tmp 55) 0))⟩,
      ⟨(some 61), none, (.op (.extract (.tmp 55) 1))⟩,
      ⟨(some 17), none, (.op (.mov (.tmp 60)))⟩,
      ⟨(some 18), none, (.op (.mov (.tmp 61)))⟩])
    (.seq (.region none [
      ⟨(some 63), none, (.op (.load 2 true (.tmp 6)))⟩,
      ⟨(some 64), none, (.op (.load 1 true (.tmp 8)))⟩,
      ⟨(some 65), none, (.op (.mov (.tmp 4)))⟩,
      ⟨(some 66), none, (.call (.dat (.fn (.func 18) [] [])) [(.tmp 63), (.tmp 64), (.tmp 65)])⟩,
      ⟨(some 62), none, (.op (.mov (.tmp 66)))⟩,
      ⟨(some 67), none, (.op (.extract (.tmp 62) 0))⟩,
      ⟨(some 68), none, (.op (.extract (.tmp 62) 1))⟩,
      ⟨(some 19), none, (.op (.mov (.tmp 67)))⟩,
      ⟨(some 20), none, (.op (.mov (.tmp 68)))⟩])
    (.seq (.seq (.region none [
      ⟨(some 69), none, (.op (.mov (.tmp 14)))⟩,
      ⟨(some 70), none, (.op (.arith .neq (.tmp 69) (.dat (.lit (.int .i64 0)))))⟩,
      ⟨(some 71), none, (.op (.mov (.tmp 70)))⟩,
      ⟨(some 72), (some (71, false)), (.op (.mov (.tmp 16)))⟩,
      ⟨(some 73), (some (71, false)), (.op (.arith .neq (.tmp 72) (.dat (.lit (.int .i64 0)))))⟩,
      ⟨(some 74), none, (.op (.pick (.tmp 71) (.dat (.lit (.bool true))) (.tmp 73)))⟩])
    (.cond (.tmp 74)
      (.seq (.region none [
        ⟨(some 75), none, (.op (.mov (.tmp 14)))⟩,
        ⟨(some 76), none, (.op (.mov (.tmp 18)))⟩,
        ⟨(some 77), none, (.op (.arith .eql (.tmp 75) (.tmp 76)))⟩,
        ⟨(some 78), none, (.op (.mov (.tmp 77)))⟩,
        ⟨(some 79), (some (78, true)), (.op (.mov (.tmp 16)))⟩,
        ⟨(some 80), (some (78, true)), (.op (.mov (.tmp 20)))⟩,
        ⟨(some 81), (some (78, true)), (.op (.arith .eql (.tmp 79) (.tmp 80)))⟩,
        ⟨(some 82), none, (.op (.pick (.tmp 78) (.tmp 81) (.dat (.lit (.bool false)))))⟩,
        ⟨(some 12), none, (.op (.mov (.tmp 82)))⟩])
      .ret)
      .skip))
    (.seq (.region none [
      ⟨(some 83), none, (.op (.mov (.tmp 18)))⟩,
      ⟨(some 84), none, (.op (.arith .eql (.tmp 83) (.dat (.lit (.int .i64 0)))))⟩,
      ⟨(some 85), none, (.op (.mov (.tmp 84)))⟩,
      ⟨(some 86), (some (85, true)), (.op (.mov (.tmp 20)))⟩,
      ⟨(some 87), (some (85, true)), (.op (.arith .eql (.tmp 86) (.dat (.lit (.int .i64 0)))))⟩,
      ⟨(some 88), none, (.op (.pick (.tmp 85) (.tmp 87) (.dat (.lit (.bool false)))))⟩,
      ⟨(some 89), none, (.op (.mov (.tmp 88)))⟩,
      ⟨(some 90), (some (89, true)), (.op (.mov (.tmp 13)))⟩,
      ⟨(some 91), (some (89, true)), (.op (.not (.tmp 90)))⟩,
      ⟨(some 92), (some (89, true)), (.op (.mov (.tmp 91)))⟩,
      ⟨(some 93), (some (92, false)), (.op (.mov (.tmp 15)))⟩,
      ⟨(some 94), (some (89, true)), (.op (.pick (.tmp 92) (.dat (.lit (.bool true))) (.tmp 93)))⟩,
      ⟨(some 95), none, (.op (.pick (.tmp 89) (.tmp 94) (.dat (.lit (.bool false)))))⟩,
      ⟨(some 96), none, (.op (.mov (.tmp 95)))⟩,
      ⟨(some 97), (some (96, true)), (.op (.mov (.tmp 19)))⟩,
      ⟨(some 98), (some (96, true)), (.op (.mov (.tmp 17)))⟩,
      ⟨(some 99), (some (96, true)), (.op (.arith .leq (.tmp 97) (.tmp 98)))⟩,
      ⟨(some 100), none, (.op (.pick (.tmp 96) (.tmp 99) (.dat (.lit (.bool false)))))⟩,
      ⟨(some 12), none, (.op (.mov (.tmp 100)))⟩])
    .ret)))))))))
  res := [.tmp 12]
theorem c7 : CmpF Tryd.prog 7 a7 := chkF_cmp (F := Tryd.f7) (by kernel_rfl) mixed (by kernel_rfl)
/-- hansard/hansardlaw19.PermitsFixed -/
def a8 : AF where
  nt := 102
  body := (.seq (.region none [
      ⟨(some 4), none, (.op (.box true (.tmp 0)))⟩,
      ⟨(some 5), none, (.op (.box true (.tmp 1)))⟩,
      ⟨(some 7), none, (.op (.box true (.tmp 3)))⟩,
      ⟨(some 8), none, (.op (.mov (.dat (.lit (.bool false)))))⟩])
    (.seq (.seq (.region none [
      ⟨(some 16), none, (.call (.dat (.fn (.func 14) [] [])) [])⟩,
      ⟨(some 17), none, (.op (.not (.tmp 16)))⟩])
    (.cond (.tmp 17)
      (.seq (.region none [
        ⟨(some 8), none, (.op (.mov (.dat (.lit (.bool false)))))⟩])
      .ret)
      .skip))
    (.seq (.seq (.region none [
      ⟨(some 18), none, (.op (.load 2 true (.tmp 4)))⟩,
      ⟨(some 19), none, (.op (.load 4 true (.tmp 7)))⟩,
      ⟨(some 20), none, (.call (.dat (.fn (.func 15) [] [])) [(.tmp 18), (.tmp 19)])⟩,
      ⟨(some 21), none, (.op (.not (.tmp 20)))⟩])
    (.cond (.tmp 21)
      (.seq (.region none [
        ⟨(some 8), none, (.op (.mov (.dat (.lit (.bool true)))))⟩])
      .ret)
      .skip))
    (.seq (.region none [
      ⟨(some 23), none, (.op (.load 2 true (.tmp 4)))⟩,
      ⟨(some 24), none, (.op (.load 1 true (.tmp 5)))⟩,
      ⟨(some 25), none, (.op (.mov (.tmp 2)))⟩,
      ⟨(some 26), none, (.op (.load 4 true (.tmp 7)))⟩,
      ⟨(some 27), none, (.call (.dat (.fn (.func 16) [] [])) [(.tmp 23), (.tmp 24), (.tmp 25), (.tmp 26)])⟩,
      ⟨(some 22), none, (.op (.mov (.tmp 27)))⟩,
      ⟨(some 28), none, (.op (.extract (.tmp 22) 0))⟩,
      ⟨(some 29), none, (.op (.extract (.tmp 22) 1))⟩,
      ⟨(some 9), none, (.op (.mov (.tmp 28)))⟩,
      ⟨(some 10), none, (.op (.mov (.tmp 29)))⟩])
    (.seq (.seq (.region none [
      ⟨(some 30), none, (.op (.mov (.tmp 10)))⟩,
      ⟨(some 31), none, (.op (.arith .neq (.tmp 30) (.dat (.lit (.int .i64 0)))))⟩])
    (.cond (.tmp 31)
      (.seq (.region none [
        ⟨(some 32), none, (.op (.mov (.tmp 9)))⟩,
        ⟨(some 33), none, (.op (.not (.tmp 32)))⟩,
        ⟨(some 8), none, (.op (.mov (.tmp 33)))⟩])
      .ret)
      .skip))
    (.seq (.region none [
      ⟨(some 35), none, (.op (.load 2 true (.tmp 4)))⟩,
      ⟨(some 36), none, (.op (.load 4 true (.tmp 7)))⟩,
      ⟨(some 37), none, (.call (.dat (.fn (.func 23) [] [])) [(.tmp 35), (.tmp 36)])⟩,
      ⟨(some 34), none, (.op (.mov (.tmp 37)))⟩,
      ⟨(some 38), none, (.op (.extract (.tmp 34) 0))⟩,
      ⟨(some 39), none, (.op (.extract (.tmp 34) 1))⟩,
      ⟨(some 11), none, (.op (.alloc true [.nil 5, .lit (.int .i64 0)]))⟩,
      ⟨none, none, (.op (.store 2 (.tmp 11) (.tmp 38)))⟩,
      ⟨(some 12), none, (.op (.mov (.tmp 39)))⟩])
    (.seq (.seq (.region none [
      ⟨(some 40), none, (.op (.mov (.tmp 12)))⟩,
      ⟨(some 41), none, (.op (.arith .neq (.tmp 40) (.dat (.lit (.int .i64 0)))))⟩])
    (.cond (.tmp 41)
      (.seq (.region none [
        ⟨(some 42), none, (.op (.mov (.tmp 9)))⟩,
        ⟨(some 43), none, (.op (.not (.tmp 42)))⟩,
        ⟨(some 8), none, (.op (.mov (.tmp 43)))⟩])
      .ret)
      .skip))
    (.seq (.seq (.region none [
      ⟨(some 44), none, (.op (.load 2 true (.tmp 4)))⟩,
      ⟨(some 45), none, (.call (.dat (.fn (.func 25) [] [])) [(.tmp 44)])⟩,
      ⟨(some 46), none, (.op (.arith .neq (.tmp 45) (.dat (.lit (.int .i64 0)))))⟩,
      ⟨(some 47), none, (.op (.mov (.tmp 46)))⟩,
      ⟨(some 48), (some (47, false)), (.op (.field 0 1 false (.tmp 5)))⟩,
      ⟨(some 49), (some (47, false)), (.op (.load 1 false (.tmp 48)))⟩,
      ⟨(some 50), (some (47, false)), (.op (.arith .lss (.tmp 49) (.dat (.lit (.int .i64 0)))))⟩,
      ⟨(some 51), none, (.op (.pick (.tmp 47) (.dat (.lit (.bool true))) (.tmp 50)))⟩,
      ⟨(some 52), none, (.op (.mov (.tmp 51)))⟩,
      ⟨(some 53), (some (52, false)), (.op (.field 0 1 false (.tmp 5)))⟩,
      ⟨(some 54), (some (52, false)), (.op (.load 1 false (.tmp 53)))⟩,
      ⟨(some 55), (some (52, false)), (.op (.arith .gtr (.tmp 54) (.dat (.lit (.int .i64 1073741824)))))⟩,
      ⟨(some 56), none, (.op (.pick (.tmp 52) (.dat (.lit (.bool true))) (.tmp 55)))⟩])
    (.cond (.tmp 56)
      (.seq (.region none [
        ⟨(some 8), none, (.op (.mov (.dat (.lit (.bool false)))))⟩])
      .ret)
      .skip))
    (.seq (.region none [
      ⟨(some 13), none, (.op (.mov (.dat (.lit (.bool false)))))⟩])
    (.seq (.seq (.region none [
      ⟨(some 14), none, (.op (.mov (.dat (.lit (.int .i64 0)))))⟩])
    (.block 0
      (.loop
        (.seq (.seq (.region none [
          ⟨(some 57), none, (.op (.mov (.tmp 14)))⟩,
          ⟨(some 58), none, (.op (.field 0 1 false (.tmp 4)))⟩,
          ⟨(some 59), none, (.op (.load 1 false (.tmp 58)))⟩,
          ⟨(some 60), none, (.op (.len (.tmp 59)))⟩,
          ⟨(some 61), none, (.op (.arith .lss (.tmp 57) (.tmp 60)))⟩])
        (.cond (.tmp 61)
          .skip
          (.exit 0)))
        (.seq (.block 1
          (.region (some [[], [0], [0, 1], [0, 1, 2], [0, 1], [0, 1, 2, 3, 4], [0, 1, 2, 3, 4, 5], [0, 1], [0, 1], [0, 1, 2, 3, 4, 5, 6, 7, 8], [0, 1, 2, 3, 4, 5, 6, 7, 8, 9], [0, 1, 2, 3, 4, 5, 6, 7, 8, 9, 10]]) [
            ⟨(some 64), none, (.op (.mov (.tmp 13)))⟩,
            ⟨(some 65), none, (.op (.mov (.tmp 64)))⟩,
            ⟨(some 66), (some (65, false)), (.op (.field 0 1 false (.tmp 4)))⟩,
            ⟨(some 67), (some (65, false)), (.op (.load 1 false (.tmp 66)))⟩,
            ⟨(some 68), (some (65, false)), (.op (.mov (.tmp 14)))⟩,
            ⟨(some 69), (some (65, false)), (.op (.index 5 (.tmp 67) (.tmp 68)))⟩,
            ⟨(some 70), (some (65, false)), (.op (.load 5 true (.tmp 69)))⟩,
            ⟨(some 71), (some (65, false)), (.op (.load 1 true (.tmp 5)))⟩,
            ⟨(some 72), (some (65, false)), (.op (.mov (.tmp 2)))⟩,
            ⟨(some 73), (some (65, false)), (.call (.dat (.fn (.func 26) [] [])) [(.tmp 70), (.tmp 71), (.tmp 72)])⟩,
            ⟨(some 74), none, (.op (.pick (.tmp 65) (.dat (.lit (.bool true))) (.tmp 73)))⟩,
            ⟨(some 13), none, (.op (.mov (.tmp 74)))⟩]))
        (.region none [
          ⟨(some 62), none, (.op (.mov (.tmp 14)))⟩,
          ⟨(some 63), none, (.op (.arith .add (.tmp 62) (.dat (.lit (.int .i64 1)))))⟩,
          ⟨(some 14), none, (.op (.mov (.tmp 63)))⟩]))))))
    (.seq (.seq (.region none [
      ⟨(some 15), none, (.op (.mov (.dat (.lit (.int .i64 0)))))⟩])
    (.block 2
      (.loop
        (.seq (.seq (.region none [
          ⟨(some 75), none, (.op (.mov (.tmp 15)))⟩,
          ⟨(some 76), none, (.op (.field 3 1 false (.tmp 7)))⟩,
          ⟨(some 77), none, (.op (.load 1 false (.tmp 76)))⟩,
          ⟨(some 78), none, (.op (.len (.tmp 77)))⟩,
          ⟨(some 79), none, (.op (.arith .lss (.tmp 75) (.tmp 78)))⟩])
        (.cond (.tmp 79)
          .skip
          (.exit 2)))
        (.seq (.block 3
          (.region (some [[], [0], [0, 1], [0, 1, 2], [0, 1], [0, 1, 2, 3, 4], [0, 1, 2, 3, 4, 5], [0, 1], [0, 1], [0, 1, 2, 3, 4, 5, 6, 7, 8], [0, 1, 2, 3, 4, 5, 6, 7, 8, 9], [0, 1, 2, 3, 4, 5, 6, 7, 8, 9, 10]]) [
            ⟨(some 82), none, (.op (.mov (.tmp 13)))⟩,
            ⟨(some 83), none, (.op (.mov (.tmp 82)))⟩,
            ⟨(some 84), (some (83, false)), (.op (.field 3 1 false (.tmp 7)))⟩,
            ⟨(some 85), (some (83, false)), (.op (.load 1 false (.tmp 84)))⟩,
            ⟨(some 86), (some (83, false)), (.op (.mov (.tmp 15)))⟩,
            ⟨(some 87), (some (83, false)), (.op (.index 5 (.tmp 85) (.tmp 86)))⟩,
            ⟨(some 88), (some (83, false)), (.op (.load 5 true (.tmp 87)))⟩,
            ⟨(some 89), (some (83, false)), (.op (.load 1 true (.tmp 5)))⟩,
            ⟨(some 90), (some (83, false)), (.op (.mov (.tmp 2)))⟩,
            ⟨(some 91), (some (83, false)), (.call (.dat (.fn (.func 26) [] [])) [(.tmp 88), (.tmp 89), (.tmp 90)])⟩,
            ⟨(some 92), none, (.op (.pick (.tmp 83) (.dat (.lit (.bool true))) (.tmp 91)))⟩,
            ⟨(some 13), none, (.op (.mov (.tmp 92)))⟩]))
        (.region none [
          ⟨(some 80), none, (.op (.mov (.tmp 15)))⟩,
          ⟨(some 81), none, (.op (.arith .add (.tmp 80) (.dat (.lit (.int .i64 1)))))⟩,
          ⟨(some 15), none, (.op (.mov (.tmp 81)))⟩]))))))
    (.seq (.region none [
      ⟨(some 93), none, (.op (.mov (.tmp 9)))⟩,
      ⟨(some 94), none, (.op (.mov (.tmp 93)))⟩,
      ⟨(some 95), (some (94, false)), (.op (.mov (.tmp 13)))⟩,
      ⟨(some 96), (some (94, false)), (.op (.mov (.tmp 95)))⟩,
      ⟨(some 97), (some (96, true)), (.op (.field 0 1 false (.tmp 7)))⟩,
      ⟨(some 98), (some (96, true)), (.op (.load 1 false (.tmp 97)))⟩,
      ⟨(some 99), (some (96, true)), (.op (.arith .eql (.tmp 98) (.dat (.lit (.int .i64 2)))))⟩,
      ⟨(some 100), (some (94, false)), (.op (.pick (.tmp 96) (.tmp 99) (.dat (.lit (.bool false)))))⟩,
      ⟨(some 101), none, (.op (.pick (.tmp 94) (.dat (.lit (.bool true))) (.tmp 100)))⟩,
      ⟨(some 8), none, (.op (.mov (.tmp 101)))⟩])
    .ret))))))))))))
  res := [.tmp 8]
theorem c8 : CmpF Tryd.prog 8 a8 := chkF_cmp (F := Tryd.f8) (by kernel_rfl) mixed (by kernel_rfl)
/-- hansard/hansardlaw19.sane -/
def a14 : AF where
  nt := 208
  body := (.seq (.region none [
      ⟨(some 0), none, (.op (.mov (.dat (.lit (.bool false)))))⟩])
    (.seq (.region none [
      ⟨(some 32), none, (.call (.dat (.fn (.func 38) [] [])) [(.dat (.lit (.string ⟨#[97]⟩))), (.dat (.lit (.int .i64 100)))])⟩,
      ⟨(some 33), none, (.call (.dat (.fn (.func 38) [] [])) [(.dat (.lit (.string ⟨#[99]⟩))), (.dat (.lit (.int .i64 120)))])⟩,
      ⟨(some 34), none, (.op (.mkslice 5 [(.tmp 32), (.tmp 33)]))⟩,
      ⟨(some 35), none, (.op (.build [.nil 5, .lit (.int .i64 0)] [(0, 1, (.tmp 34))]))⟩,
      ⟨(some 1), none, (.op (.alloc true [.nil 5, .lit (.int .i64 0)]))⟩,
      ⟨none, none, (.op (.store 2 (.tmp 1) (.tmp 35)))⟩])
    (.seq (.region none [
      ⟨(some 36), none, (.op (.build [.lit (.int .i64 0)] [(0, 1, (.dat (.lit (.int .i64 50))))]))⟩,
      ⟨(some 2), none, (.op (.alloc true [.lit (.int .i64 0)]))⟩,
      ⟨none, none, (.op (.store 1 (.tmp 2) (.tmp 36)))⟩])
    (.seq (.region none [
      ⟨(some 37), none, (.call (.dat (.fn (.func 38) [] [])) [(.dat (.lit (.string ⟨#[100]⟩))), (.dat (.lit (.int .i64 130)))])⟩,
      ⟨(some 38), none, (.op (.mkslice 5 [(.tmp 37)]))⟩,
      ⟨(some 39), none, (.op (.build [.lit (.int .i64 0), .lit (.int .i64 0), .lit (.int .i64 0), .nil 5] [(0, 1, (.dat (.lit (.int .i64 2)))), (2, 1, (.dat (.lit (.int .i64 1)))), (3, 1, (.tmp 38))]))⟩,
      ⟨(some 3), none, (.op (.alloc true [.lit (.int .i64 0), .lit (.int .i64 0), .lit (.int .i64 0), .nil 5]))⟩,
      ⟨none, none, (.op (.store 4 (.tmp 3) (.tmp 39)))⟩])
    (.seq (.region none [
      ⟨(some 40), none, (.call (.dat (.fn (.func 38) [] [])) [(.dat (.lit (.string ⟨#[101]⟩))), (.dat (.lit (.int .i64 120)))])⟩,
      ⟨(some 41), none, (.op (.mkslice 5 [(.tmp 40)]))⟩,
      ⟨(some 42), none, (.op (.build [.lit (.int .i64 0), .lit (.int .i64 0), .lit (.int .i64 0), .nil 5] [(0, 1, (.dat (.lit (.int .i64 1)))), (3, 1, (.tmp 41))]))⟩,
      ⟨(some 4), none, (.op (.alloc true [.lit (.int .i64 0), .lit (.int .i64 0), .lit (.int .i64 0), .nil 5]))⟩,
      ⟨none, none, (.op (.store 4 (.tmp 4) (.tmp 42)))⟩])
    (.seq (.region (some [[], [], [], [2], [2, 3], [0, 1, 2, 3, 4], [0, 1, 2, 3, 4, 5], [0, 1, 2, 3, 4, 5, 6], [0, 1, 2, 3, 4, 5, 6], [0, 1, 2, 3, 4, 5, 6, 7], [0, 1, 2, 3, 4, 5, 6, 7, 8, 9]]) [
      ⟨(some 44), none, (.op (.load 2 true (.tmp 1)))⟩,
      ⟨(some 45), none, (.op (.load 1 true (.tmp 2)))⟩,
      ⟨(some 46), none, (.call (.dat (.fn (.func 38) [] [])) [(.dat (.lit (.string ⟨#[100]⟩))), (.dat (.lit (.int .i64 100)))])⟩,
      ⟨(some 47), none, (.op (.mkslice 5 [(.tmp 46)]))⟩,
      ⟨(some 48), none, (.op (.build [.lit (.int .i64 0), .lit (.int .i64 0), .lit (.int .i64 0), .nil 5] [(0, 1, (.dat (.lit (.int .i64 2)))), (2, 1, (.dat (.lit (.int .i64 1)))), (3, 1, (.tmp 47))]))⟩,
      ⟨(some 49), none, (.call (.dat (.fn (.func 16) [] [])) [(.tmp 44), (.tmp 45), (.dat (.lit (.int .i64 149))), (.tmp 48)])⟩,
      ⟨(some 43), none, (.op (.mov (.tmp 49)))⟩,
      ⟨(some 50), none, (.op (.extract (.tmp 43) 0))⟩,
      ⟨(some 51), none, (.op (.extract (.tmp 43) 1))⟩,
      ⟨(some 5), none, (.op (.mov (.tmp 50)))⟩,
      ⟨(some 6), none, (.op (.mov (.tmp 51)))⟩])
    (.seq (.region none [
      ⟨(some 53), none, (.op (.load 2 true (.tmp 1)))⟩,
      ⟨(some 54), none, (.op (.load 1 true (.tmp 2)))⟩,
      ⟨(some 55), none, (.op (.load 4 true (.tmp 3)))⟩,
      ⟨(some 56), none, (.call (.dat (.fn (.func 16) [] [])) [(.tmp 53), (.tmp 54), (.dat (.lit (.int .i64 150))), (.tmp 55)])⟩,
      ⟨(some 52), none, (.op (.mov (.tmp 56)))⟩,
      ⟨(some 57), none, (.op (.extract (.tmp 52) 0))⟩,
      ⟨(some 58), none, (.op (.extract (.tmp 52) 1))⟩,
      ⟨(some 7), none, (.op (.mov (.tmp 57)))⟩,
      ⟨(some 8), none, (.op (.mov (.tmp 58)))⟩])
    (.seq (.region none [
      ⟨(some 60), none, (.op (.load 2 true (.tmp 1)))⟩,
      ⟨(some 61), none, (.op (.load 1 true (.tmp 2)))⟩,
      ⟨(some 62), none, (.op (.load 4 true (.tmp 4)))⟩,
      ⟨(some 63), none, (.call (.dat (.fn (.func 16) [] [])) [(.tmp 60), (.tmp 61), (.dat (.lit (.int .i64 1000))), (.tmp 62)])⟩,
      ⟨(some 59), none, (.op (.mov (.tmp 63)))⟩,
      ⟨(some 64), none, (.op (.extract (.tmp 59) 0))⟩,
      ⟨(some 65), none, (.op (.extract (.tmp 59) 1))⟩,
      ⟨(some 9), none, (.op (.mov (.tmp 64)))⟩,
      ⟨(some 10), none, (.op (.mov (.tmp 65)))⟩])
    (.seq (.region none [
      ⟨(some 67), none, (.op (.load 2 true (.tmp 1)))⟩,
      ⟨(some 68), none, (.op (.load 1 true (.tmp 2)))⟩,
      ⟨(some 69), none, (.call (.dat (.fn (.func 18) [] [])) [(.tmp 67), (.tmp 68), (.dat (.lit (.int .i64 149)))])⟩,
      ⟨(some 66), none, (.op (.mov (.tmp 69)))⟩,
      ⟨(some 70), none, (.op (.extract (.tmp 66) 0))⟩,
      ⟨(some 71), none, (.op (.extract (.tmp 66) 1))⟩,
      ⟨(some 11), none, (.op (.mov (.tmp 70)))⟩,
      ⟨(some 12), none, (.op (.mov (.tmp 71)))⟩])
    (.seq (.region none [
      ⟨(some 73), none, (.op (.load 2 true (.tmp 1)))⟩,
      ⟨(some 74), none, (.op (.load 1 true (.tmp 2)))⟩,
      ⟨(some 75), none, (.call (.dat (.fn (.func 18) [] [])) [(.tmp 73), (.tmp 74), (.dat (.lit (.int .i64 150)))])⟩,
      ⟨(some 72), none, (.op (.mov (.tmp 75)))⟩,
      ⟨(some 76), none, (.op (.extract (.tmp 72) 0))⟩,
      ⟨(some 77), none, (.op (.extract (.tmp 72) 1))⟩,
      ⟨(some 13), none, (.op (.mov (.tmp 76)))⟩,
      ⟨(some 14), none, (.op (.mov (.tmp 77)))⟩])
    (.seq (.region none [
      ⟨(some 79), none, (.op (.load 2 true (.tmp 1)))⟩,
      ⟨(some 80), none, (.op (.load 1 true (.tmp 2)))⟩,
      ⟨(some 81), none, (.call (.dat (.fn (.func 18) [] [])) [(.tmp 79), (.tmp 80), (.dat (.lit (.int .i64 170)))])⟩,
      ⟨(some 78), none, (.op (.mov (.tmp 81)))⟩,
      ⟨(some 82), none, (.op (.extract (.tmp 78) 0))⟩,
      ⟨(some 83), none, (.op (.extract (.tmp 78) 1))⟩,
      ⟨(some 15), none, (.op (.mov (.tmp 82)))⟩,
      ⟨(some 16), none, (.op (.mov (.tmp 83)))⟩])
    (.seq (.region none [
      ⟨(some 85), none, (.op (.load 2 true (.tmp 1)))⟩,
      ⟨(some 86), none, (.op (.load 1 true (.tmp 2)))⟩,
      ⟨(some 87), none, (.call (.dat (.fn (.func 20) [] [])) [(.tmp 85), (.tmp 86), (.dat (.lit (.int .i64 149))), (.dat (.lit (.int .i64 0)))])⟩,
      ⟨(some 84), none, (.op (.mov (.tmp 87)))⟩,
      ⟨(some 88), none, (.op (.extract (.tmp 84) 0))⟩,
      ⟨(some 89), none, (.op (.extract (.tmp 84) 1))⟩,
      ⟨(some 90), none, (.op (.extract (.tmp 84) 2))⟩,
      ⟨(some 17), none, (.op (.alloc true [.lit (.int .i64 0), .lit (.int .i64 0), .lit (.int .i64 0), .nil 5]))⟩,
      ⟨none, none, (.op (.store 4 (.tmp 17) (.tmp 88)))⟩,
      ⟨(some 18), none, (.op (.mov (.tmp 89)))⟩,
      ⟨(some 19), none, (.op (.mov (.tmp 90)))⟩])
    (.seq (.region none [
      ⟨(some 92), none, (.op (.load 2 true (.tmp 1)))⟩,
      ⟨(some 93), none, (.op (.load 1 true (.tmp 2)))⟩,
      ⟨(some 94), none, (.call (.dat (.fn (.func 20) [] [])) [(.tmp 92), (.tmp 93), (.dat (.lit (.int .i64 150))), (.dat (.lit (.int .i64 0)))])⟩,
      ⟨(some 91), none, (.op (.mov (.tmp 94)))⟩,
      ⟨(some 95), none, (.op (.extract (.tmp 91) 0))⟩,
      ⟨(some 96), none, (.op (.extract (.tmp 91) 1))⟩,
      ⟨(some 97), none, (.op (.extract (.tmp 91) 2))⟩,
      ⟨(some 20), none, (.op (.alloc true [.lit (.int .i64 0), .lit (.int .i64 0), .lit (.int .i64 0), .nil 5]))⟩,
      ⟨none, none, (.op (.store 4 (.tmp 20) (.tmp 95)))⟩,
      ⟨(some 21), none, (.op (.mov (.tmp 96)))⟩,
      ⟨(some 22), none, (.op (.mov (.tmp 97)))⟩])
    (.seq (.region none [
      ⟨(some 99), none, (.op (.build [.nil 5, .lit (.int .i64 0)] []))⟩,
      ⟨(some 100), none, (.op (.load 1 true (.tmp 2)))⟩,
      ⟨(some 101), none, (.call (.dat (.fn (.func 20) [] [])) [(.tmp 99), (.tmp 100), (.dat (.lit (.int .i64 0))), (.dat (.lit (.int .i64 0)))])⟩,
      ⟨(some 98), none, (.op (.mov (.tmp 101)))⟩,
      ⟨(some 102), none, (.op (.extract (.tmp 98) 0))⟩,
      ⟨(some 103), none, (.op (.extract (.tmp 98) 1))⟩,
      ⟨(some 104), none, (.op (.extract (.tmp 98) 2))⟩,
      ⟨(some 23), none, (.op (.alloc true [.lit (.int .i64 0), .lit (.int .i64 0), .lit (.int .i64 0), .nil 5]))⟩,
      ⟨none, none, (.op (.store 4 (.tmp 23) (.tmp 102)))⟩,
      ⟨(some 24), none, (.op (.mov (.tmp 103)))⟩,
      ⟨(some 25), none, (.op (.mov (.tmp 104)))⟩])
    (.seq (.region none [
      ⟨(some 106), none, (.op (.load 2 true (.tmp 1)))⟩,
      ⟨(some 107), none, (.op (.build [.lit (.int .i64 0)] [(0, 1, (.dat (.lit (.int .i64 (-1)))))]))⟩,
      ⟨(some 108), none, (.op (.load 4 true (.tmp 3)))⟩,
      ⟨(some 109), none, (.call (.dat (.fn (.func 16) [] [])) [(.tmp 106), (.tmp 107), (.dat (.lit (.int .i64 0))), (.tmp 108)])⟩,
      ⟨(some 105), none, (.op (.mov (.tmp 109)))⟩,
      ⟨(some 110), none, (.op (.extract (.tmp 105) 0))⟩,
      ⟨(some 111), none, (.op (.extract (.tmp 105) 1))⟩,
      ⟨(some 26), none, (.op (.mov (.tmp 110)))⟩,
      ⟨(some 27), none, (.op (.mov (.tmp 111)))⟩])
    (.seq (.region none [
      ⟨(some 113), none, (.op (.build [.nil 5, .lit (.int .i64 0)] []))⟩,
      ⟨(some 114), none, (.op (.load 1 true (.tmp 2)))⟩,
      ⟨(some 115), none, (.call (.dat (.fn (.func 18) [] [])) [(.tmp 113), (.tmp 114), (.dat (.lit (.int .i64 0)))])⟩,
      ⟨(some 112), none, (.op (.mov (.tmp 115)))⟩,
      ⟨(some 116), none, (.op (.extract (.tmp 112) 0))⟩,
      ⟨(some 117), none, (.op (.extract (.tmp 112) 1))⟩,
      ⟨(some 28), none, (.op (.mov (.tmp 116)))⟩,
      ⟨(some 29), none, (.op (.mov (.tmp 117)))⟩])
    (.seq (.region none [
      ⟨(some 119), none, (.op (.load 2 true (.tmp 1)))⟩,
      ⟨(some 120), none, (.op (.load 1 true (.tmp 2)))⟩,
      ⟨(some 121), none, (.call (.dat (.fn (.func 18) [] [])) [(.tmp 119), (.tmp 120), (.dat (.lit (.int .i64 (-1))))])⟩,
      ⟨(some 118), none, (.op (.mov (.tmp 121)))⟩,
      ⟨(some 122), none, (.op (.extract (.tmp 118) 0))⟩,
      ⟨(some 123), none, (.op (.extract (.tmp 118) 1))⟩,
      ⟨(some 30), none, (.op (.mov (.tmp 122)))⟩,
      ⟨(some 31), none, (.op (.mov (.tmp 123)))⟩])
    (.seq (.seq (.region none [
      ⟨(some 124), none, (.op (.mov (.tmp 6)))⟩,
      ⟨(some 125), none, (.op (.arith .neq (.tmp 124) (.dat (.lit (.int .i64 0)))))⟩,
      ⟨(some 126), none, (.op (.mov (.tmp 125)))⟩,
      ⟨(some 127), (some (126, false)), (.op (.mov (.tmp 8)))⟩,
      ⟨(some 128), (some (126, false)), (.op (.arith .neq (.tmp 127) (.dat (.lit (.int .i64 0)))))⟩,
      ⟨(some 129), none, (.op (.pick (.tmp 126) (.dat (.lit (.bool true))) (.tmp 128)))⟩,
      ⟨(some 130), none, (.op (.mov (.tmp 129)))⟩,
      ⟨(some 131), (some (130, false)), (.op (.mov (.tmp 10)))⟩,
      ⟨(some 132), (some (130, false)), (.op (.arith .neq (.tmp 131) (.dat (.lit (.int .i64 0)))))⟩,
      ⟨(some 133), none, (.op (.pick (.tmp 130) (.dat (.lit (.bool true))) (.tmp 132)))⟩,
      ⟨(some 134), none, (.op (.mov (.tmp 133)))⟩,
      ⟨(some 135), (some (134, false)), (.op (.mov (.tmp 12)))⟩,
      ⟨(some 136), (some (134, false)), (.op (.arith .neq (.tmp 135) (.dat (.lit (.int .i64 0)))))⟩,
      ⟨(some 137), none, (.op (.pick (.tmp 134) (.dat (.lit (.bool true))) (.tmp 136)))⟩,
      ⟨(some 138), none, (.op (.mov (.tmp 137)))⟩,
      ⟨(some 139), (some (138, false)), (.op (.mov (.tmp 14)))⟩,
      ⟨(some 140), (some (138, false)), (.op (.arith .neq (.tmp 139) (.dat (.lit (.int .i64 0)))))⟩,
      ⟨(some 141), none, (.op (.pick (.tmp 138) (.dat (.lit (.bool true))) (.tmp 140)))⟩,
      ⟨(some 142), none, (.op (.mov (.tmp 141)))⟩,
      ⟨(some 143), (some (142, false)), (.op (.mov (.tmp 16)))⟩,
      ⟨(some 144), (some (142, false)), (.op (.arith .neq (.tmp 143) (.dat (.lit (.int .i64 0)))))⟩,
      ⟨(some 145), none, (.op (.pick (.tmp 142) (.dat (.lit (.bool true))) (.tmp 144)))⟩,
      ⟨(some 146), none, (.op (.mov (.tmp 145)))⟩,
      ⟨(some 147), (some (146, false)), (.op (.mov (.tmp 19)))⟩,
      ⟨(some 148), (some (146, false)), (.op (.arith .neq (.tmp 147) (.dat (.lit (.int .i64 0)))))⟩,
      ⟨(some 149), none, (.op (.pick (.tmp 146) (.dat (.lit (.bool true))) (.tmp 148)))⟩,
      ⟨(some 150), none, (.op (.mov (.tmp 149)))⟩,
      ⟨(some 151), (some (150, false)), (.op (.mov (.tmp 22)))⟩,
      ⟨(some 152), (some (150, false)), (.op (.arith .neq (.tmp 151) (.dat (.lit (.int .i64 0)))))⟩,
      ⟨(some 153), none, (.op (.pick (.tmp 150) (.dat (.lit (.bool true))) (.tmp 152)))⟩,
      ⟨(some 154), none, (.op (.mov (.tmp 153)))⟩,
      ⟨(some 155), (some (154, false)), (.op (.mov (.tmp 25)))⟩,
      ⟨(some 156), (some (154, false)), (.op (.arith .neq (.tmp 155) (.dat (.lit (.int .i64 1)))))⟩,
      ⟨(some 157), none, (.op (.pick (.tmp 154) (.dat (.lit (.bool true))) (.tmp 156)))⟩,
      ⟨(some 158), none, (.op (.mov (.tmp 157)))⟩,
      ⟨(some 159), (some (158, false)), (.op (.mov (.tmp 27)))⟩,
      ⟨(some 160), (some (158, false)), (.op (.arith .neq (.tmp 159) (.dat (.lit (.int .i64 190)))))⟩,
      ⟨(some 161), none, (.op (.pick (.tmp 158) (.dat (.lit (.bool true))) (.tmp 160)))⟩,
      ⟨(some 162), none, (.op (.mov (.tmp 161)))⟩,
      ⟨(some 163), (some (162, false)), (.op (.mov (.tmp 29)))⟩,
      ⟨(some 164), (some (162, false)), (.op (.arith .neq (.tmp 163) (.dat (.lit (.int .i64 0)))))⟩,
      ⟨(some 165), none, (.op (.pick (.tmp 162) (.dat (.lit (.bool true))) (.tmp 164)))⟩,
      ⟨(some 166), none, (.op (.mov (.tmp 165)))⟩,
      ⟨(some 167), (some (166, false)), (.op (.mov (.tmp 31)))⟩,
      ⟨(some 168), (some (166, false)), (.op (.arith .neq (.tmp 167) (.dat (.lit (.int .i64 1)))))⟩,
      ⟨(some 169), none, (.op (.pick (.tmp 166) (.dat (.lit (.bool true))) (.tmp 168)))⟩])
    (.cond (.tmp 169)
      (.seq (.region none [
        ⟨(some 0), none, (.op (.mov (.dat (.lit (.bool false)))))⟩])
      .ret)
      .skip))
    (.seq (.region (some [[], [0], [0, 1], [0, 1, 2], [0, 1, 2, 3], [0, 1, 2, 3, 4], [0, 1, 2, 3, 4, 5], [0, 1, 2, 3, 4, 5, 6], [0, 1, 2, 3, 4, 5, 6, 7], [0, 1, 2, 3, 4, 5, 6, 7, 8], [0, 1, 2, 3, 4, 5, 6, 7, 8, 9], [0, 1, 2, 3, 4, 5, 6, 7, 8, 9, 10], [0, 1, 2, 3, 4, 5, 6, 7, 8, 9, 10, 11], [0, 1, 2, 3, 4, 5, 6, 7, 8, 9, 10, 11, 12], [0, 1, 2, 3, 4, 5, 6, 7, 8, 9, 10, 11, 12, 13], [0, 1, 2, 3, 4, 5, 6, 7, 8, 9, 10, 11, 12, 13, 14], [0, 1, 2, 3, 4, 5, 6, 7, 8, 9, 10, 11, 12, 13, 14, 15], [0, 1, 2, 3, 4, 5, 6, 7, 8, 9, 10, 11, 12, 13, 14, 15, 16], [0, 1, 2, 3, 4, 5, 6, 7, 8, 9, 10, 11, 12, 13, 14, 15, 16, 17], [0, 1, 2, 3, 4, 5, 6, 7, 8, 9, 10, 11, 12, 13, 14, 15, 16, 17, 18], [0, 1, 2, 3, 4, 5, 6, 7, 8, 9, 10, 11, 12, 13, 14, 15, 16, 17, 18, 19], [0, 1, 2, 3, 4, 5, 6, 7, 8, 9, 10, 11, 12, 13, 14, 15, 16, 17, 18, 19, 20], [0, 1, 2, 3, 4, 5, 6, 7, 8, 9, 10, 11, 12, 13, 14, 15, 16, 17, 18, 19, 20, 21], [0, 1, 2, 3, 4, 5, 6, 7, 8, 9, 10, 11, 12, 13, 14, 15, 16, 17, 18, 19, 20, 21, 22], [0, 1, 2, 3, 4, 5, 6, 7, 8, 9, 10, 11, 12, 13, 14, 15, 16, 17, 18, 19, 20, 21, 22, 23], [0, 1, 2, 3, 4, 5, 6, 7, 8, 9, 10, 11, 12, 13, 14, 15, 16, 17, 18, 19, 20, 21, 22, 23, 24], [0, 1, 2, 3, 4, 5, 6, 7, 8, 9, 10, 11, 12, 13, 14, 15, 16, 17, 18, 19, 20, 21, 22, 23, 24, 25], [0, 1, 2, 3, 4, 5, 6, 7, 8, 9, 10, 11, 12, 13, 14, 15, 16, 17, 18, 19, 20, 21, 22, 23, 24, 25, 26], [0, 1, 2, 3, 4, 5, 6, 7, 8, 9, 10, 11, 12, 13, 14, 15, 16, 17, 18, 19, 20, 21, 22, 23, 24, 25, 26, 27], [0, 1, 2, 3, 4, 5, 6, 7, 8, 9, 10, 11, 12, 13, 14, 15, 16, 17, 18, 19, 20, 21, 22, 23, 24, 25, 26, 27, 28], [0, 1, 2, 3, 4, 5, 6, 7, 8, 9, 10, 11, 12, 13, 14, 15, 16, 17, 18, 19, 20, 21, 22, 23, 24, 25, 26, 27, 28, 29], [0, 1, 2, 3, 4, 5, 6, 7, 8, 9, 10, 11, 12, 13, 14, 15, 16, 17, 18, 19, 20, 21, 22, 23, 24, 25, 26, 27, 28, 29, 30], [0, 1, 2, 3, 4, 5, 6, 7, 8, 9, 10, 11, 12, 13, 14, 15, 16, 17, 18, 19, 20, 21, 22, 23, 24, 25, 26, 27, 28, 29, 30, 31], [0, 1, 2, 3, 4, 5, 6, 7, 8, 9, 10, 11, 12, 13, 14, 15, 16, 17, 18, 19, 20, 21, 22, 23, 24, 25, 26, 27, 28, 29, 30, 31], [0, 1, 2, 3, 4, 5, 6, 7, 8, 9, 10, 11, 12, 13, 14, 15, 16, 17, 18, 19, 20, 21, 22, 23, 24, 25, 26, 27, 28, 29, 30, 31, 33], [0, 1, 2, 3, 4, 5, 6, 7, 8, 9, 10, 11, 12, 13, 14, 15, 16, 17, 18, 19, 20, 21, 22, 23, 24, 25, 26, 27, 28, 29, 30, 31, 33, 34], [0, 1, 2, 3, 4, 5, 6, 7, 8, 9, 10, 11, 12, 13, 14, 15, 16, 17, 18, 19, 20, 21, 22, 23, 24, 25, 26, 27, 28, 29, 30, 31, 32, 33, 34, 35], [0, 1, 2, 3, 4, 5, 6, 7, 8, 9, 10, 11, 12, 13, 14, 15, 16, 17, 18, 19, 20, 21, 22, 23, 24, 25, 26, 27, 28, 29, 30, 31, 32, 33, 34, 35, 36], [0, 1, 2, 3, 4, 5, 6, 7, 8, 9, 10, 11, 12, 13, 14, 15, 16, 17, 18, 19, 20, 21, 22, 23, 24, 25, 26, 27, 28, 29, 30, 31, 32, 33, 34, 35, 36, 37]]) [
      ⟨(some 170), none, (.op (.mov (.tmp 5)))⟩,
      ⟨(some 171), none, (.op (.mov (.tmp 170)))⟩,
      ⟨(some 172), (some (171, true)), (.op (.mov (.tmp 7)))⟩,
      ⟨(some 173), (some (171, true)), (.op (.not (.tmp 172)))⟩,
      ⟨(some 174), none, (.op (.pick (.tmp 171) (.tmp 173) (.dat (.lit (.bool false)))))⟩,
      ⟨(some 175), none, (.op (.mov (.tmp 174)))⟩,
      ⟨(some 176), (some (175, true)), (.op (.mov (.tmp 9)))⟩,
      ⟨(some 177), none, (.op (.pick (.tmp 175) (.tmp 176) (.dat (.lit (.bool false)))))⟩,
      ⟨(some 178), none, (.op (.mov (.tmp 177)))⟩,
      ⟨(some 179), (some (178, true)), (.op (.mov (.tmp 11)))⟩,
      ⟨(some 180), (some (178, true)), (.op (.arith .eql (.tmp 179) (.dat (.lit (.int .i64 0)))))⟩,
      ⟨(some 181), none, (.op (.pick (.tmp 178) (.tmp 180) (.dat (.lit (.bool false)))))⟩,
      ⟨(some 182), none, (.op (.mov (.tmp 181)))⟩,
      ⟨(some 183), (some (182, true)), (.op (.mov (.tmp 13)))⟩,
      ⟨(some 184), (some (182, true)), (.op (.arith .eql (.tmp 183) (.dat (.lit (.int .i64 1)))))⟩,
      ⟨(some 185), none, (.op (.pick (.tmp 182) (.tmp 184) (.dat (.lit (.bool false)))))⟩,
      ⟨(some 186), none, (.op (.mov (.tmp 185)))⟩,
      ⟨(some 187), (some (186, true)), (.op (.mov (.tmp 15)))⟩,
      ⟨(some 188), (some (186, true)), (.op (.arith .eql (.tmp 187) (.dat (.lit (.int .i64 2)))))⟩,
      ⟨(some 189), none, (.op (.pick (.tmp 186) (.tmp 188) (.dat (.lit (.bool false)))))⟩,
      ⟨(some 190), none, (.op (.mov (.tmp 189)))⟩,
      ⟨(some 191), (some (190, true)), (.op (.mov (.tmp 28)))⟩,
      ⟨(some 192), (some (190, true)), (.op (.arith .eql (.tmp 191) (.dat (.lit (.int .i64 0)))))⟩,
      ⟨(some 193), none, (.op (.pick (.tmp 190) (.tmp 192) (.dat (.lit (.bool false)))))⟩,
      ⟨(some 194), none, (.op (.mov (.tmp 193)))⟩,
      ⟨(some 195), (some (194, true)), (.op (.mov (.tmp 18)))⟩,
      ⟨(some 196), none, (.op (.pick (.tmp 194) (.tmp 195) (.dat (.lit (.bool false)))))⟩,
      ⟨(some 197), none, (.op (.mov (.tmp 196)))⟩,
      ⟨(some 198), (some (197, true)), (.op (.mov (.tmp 21)))⟩,
      ⟨(some 199), (some (197, true)), (.op (.not (.tmp 198)))⟩,
      ⟨(some 200), none, (.op (.pick (.tmp 197) (.tmp 199) (.dat (.lit (.bool false)))))⟩,
      ⟨(some 201), none, (.op (.mov (.tmp 200)))⟩,
      ⟨(some 202), (some (201, true)), (.op (.load 4 true (.tmp 17)))⟩,
      ⟨(some 203), (some (201, true)), (.call (.dat (.fn (.func 38) [] [])) [(.dat (.lit (.string ⟨#[98]⟩))), (.dat (.lit (.int .i64 100)))])⟩,
      ⟨(some 204), (some (201, true)), (.op (.mkslice 5 [(.tmp 203)]))⟩,
      ⟨(some 205), (some (201, true)), (.op (.build [.lit (.int .i64 0), .lit (.int .i64 0), .lit (.int .i64 0), .nil 5] [(0, 1, (.dat (.lit (.int .i64 2)))), (2, 1, (.dat (.lit (.int .i64 1)))), (3, 1, (.tmp 204))]))⟩,
      ⟨(some 206), (some (201, true)), (.call (.dat (.fn (.func 22) [] [])) [(.tmp 202), (.tmp 205)])⟩,
      ⟨(some 207), none, (.op (.pick (.tmp 201) (.tmp 206) (.dat (.lit (.bool false)))))⟩,
      ⟨(some 0), none, (.op (.mov (.tmp 207)))⟩])
    .ret)))))))))))))))))))
  res := [.tmp 0]
theorem c14 : CmpF Tryd.prog 14 a14 := chkF_cmp (F := Tryd.f14) (by kernel_rfl) mixed (by kernel_rfl)
/-- hansard/hansardlaw19.few -/
def a15 : AF where
  nt := 15
  body := (.seq (.region none [
      ⟨(some 2), none, (.op (.box true (.tmp 0)))⟩,
      ⟨(some 3), none, (.op (.box true (.tmp 1)))⟩,
      ⟨(some 4), none, (.op (.mov (.dat (.lit (.bool false)))))⟩])
    (.seq (.region none [
      ⟨(some 5), none, (.op (.field 0 1 false (.tmp 2)))⟩,
      ⟨(some 6), none, (.op (.load 1 false (.tmp 5)))⟩,
      ⟨(some 7), none, (.op (.len (.tmp 6)))⟩,
      ⟨(some 8), none, (.op (.arith .leq (.tmp 7) (.dat (.lit (.int .i64 30)))))⟩,
      ⟨(some 9), none, (.op (.mov (.tmp 8)))⟩,
      ⟨(some 10), (some (9, true)), (.op (.field 3 1 false (.tmp 3)))⟩,
      ⟨(some 11), (some (9, true)), (.op (.load 1 false (.tmp 10)))⟩,
      ⟨(some 12), (some (9, true)), (.op (.len (.tmp 11)))⟩,
      ⟨(some 13), (some (9, true)), (.op (.arith .leq (.tmp 12) (.dat (.lit (.int .i64 70)))))⟩,
      ⟨(some 14), none, (.op (.pick (.tmp 9) (.tmp 13) (.dat (.lit (.bool false)))))⟩,
      ⟨(some 4), none, (.op (.mov (.tmp 14)))⟩])
    .ret))
  res := [.tmp 4]
theorem c15 : CmpF Tryd.prog 15 a15 := chkF_cmp (F := Tryd.f15) (by kernel_rfl) mixed (by kernel_rfl)
/-- hansard/permits.Allowed -/
def a16 : AF where
  nt := 38
  body := (.seq (.region none [
      ⟨(some 4), none, (.op (.box true (.tmp 0)))⟩,
      ⟨(some 5), none, (.op (.box true (.tmp 1)))⟩,
      ⟨(some 7), none, (.op (.box true (.tmp 3)))⟩,
      ⟨(some 8), none, (.op (.mov (.dat (.lit (.bool false)))))⟩,
      ⟨(some 9), none, (.op (.mov (.dat (.lit (.int .i64 0)))))⟩])
    (.seq (.seq (.region none [
      ⟨(some 12), none, (.op (.load 2 true (.tmp 4)))⟩,
      ⟨(some 13), none, (.op (.load 1 true (.tmp 5)))⟩,
      ⟨(some 14), none, (.op (.mov (.tmp 2)))⟩,
      ⟨(some 15), none, (.call (.dat (.fn (.func 39) [] [])) [(.tmp 12), (.tmp 13), (.tmp 14)])⟩,
      ⟨(some 9), none, (.op (.mov (.tmp 15)))⟩])
    (.seq (.region none [
      ⟨(some 16), none, (.op (.mov (.tmp 9)))⟩,
      ⟨(some 17), none, (.op (.arith .neq (.tmp 16) (.dat (.lit (.int .i64 0)))))⟩])
    (.cond (.tmp 17)
      (.seq (.region none [
        ⟨(some 18), none, (.op (.mov (.tmp 9)))⟩,
        ⟨(some 8), none, (.op (.mov (.dat (.lit (.bool false)))))⟩,
        ⟨(some 9), none, (.op (.mov (.tmp 18)))⟩])
      .ret)
      .skip)))
    (.seq (.seq (.region none [
      ⟨(some 20), none, (.op (.load 2 true (.tmp 4)))⟩,
      ⟨(some 21), none, (.op (.load 4 true (.tmp 7)))⟩,
      ⟨(some 22), none, (.call (.dat (.fn (.func 23) [] [])) [(.tmp 20), (.tmp 21)])⟩,
      ⟨(some 19), none, (.op (.mov (.tmp 22)))⟩,
      ⟨(some 23), none, (.op (.extract (.tmp 19) 0))⟩,
      ⟨(some 24), none, (.op (.extract (.tmp 19) 1))⟩,
      ⟨(some 10), none, (.op (.alloc true [.nil 5, .lit (.int .i64 0)]))⟩,
      ⟨none, none, (.op (.store 2 (.tmp 10) (.tmp 23)))⟩,
      ⟨(some 11), none, (.op (.mov (.tmp 24)))⟩])
    (.seq (.region none [
      ⟨(some 25), none, (.op (.mov (.tmp 11)))⟩,
      ⟨(some 26), none, (.op (.arith .neq (.tmp 25) (.dat (.lit (.int .i64 0)))))⟩])
    (.cond (.tmp 26)
      (.seq (.region none [
        ⟨(some 8), none, (.op (.mov (.dat (.lit (.bool false)))))⟩,
        ⟨(some 9), none, (.op (.mov (.dat (.lit (.int .i64 0)))))⟩])
      .ret)
      .skip)))
    (.seq (.region (some [[], [], [1], [0, 1, 2], [0, 1, 2, 3], [], [], [], [], [0, 7, 8], [0, 1, 2, 3, 4, 5, 6, 7, 8, 9], [0, 1, 2, 3, 4, 5, 6, 7, 8, 9, 10], [0, 1, 2, 3, 4, 5, 6, 7, 8, 9, 10, 11]]) [
      ⟨(some 27), none, (.call (.dat (.fn (.func 40) [] [])) [])⟩,
      ⟨(some 28), none, (.op (.field 0 1 false (.tmp 7)))⟩,
      ⟨(some 29), none, (.op (.load 1 false (.tmp 28)))⟩,
      ⟨(some 30), none, (.op (.ext (.idxV 1 true 4) [(.tmp 27), (.tmp 29)]))⟩,
      ⟨(some 31), none, (.op (.fieldv 0 1 false (.tmp 30)))⟩,
      ⟨(some 32), none, (.op (.load 2 true (.tmp 4)))⟩,
      ⟨(some 33), none, (.op (.load 4 true (.tmp 7)))⟩,
      ⟨(some 34), none, (.op (.load 1 true (.tmp 5)))⟩,
      ⟨(some 35), none, (.op (.mov (.tmp 2)))⟩,
      ⟨(some 36), none, (.call (.dat (.fn (.func 41) [] [])) [(.tmp 34), (.tmp 35)])⟩,
      ⟨(some 37), none, (.call (.tmp 31) [(.tmp 32), (.tmp 33), (.tmp 36)])⟩,
      ⟨(some 8), none, (.op (.mov (.tmp 37)))⟩,
      ⟨(some 9), none, (.op (.mov (.dat (.lit (.int .i64 0)))))⟩])
    .ret))))
  res := [.tmp 8, .tmp 9]
theorem c16 : CmpF Tryd.prog 16 a16 := chkF_cmp (F := Tryd.f16) (by kernel_rfl) mixed (by kernel_rfl)
/-- hansard/hansardref19.Allowed -/
def a17 : AF where
  nt := 50
  body := (.seq (.region none [
      ⟨(some 4), none, (.op (.box true (.tmp 0)))⟩,
      ⟨(some 5), none, (.op (.box true (.tmp 1)))⟩,
      ⟨(some 7), none, (.op (.box true (.tmp 3)))⟩,
      ⟨(some 8), none, (.op (.mov (.dat (.lit (.bool false)))))⟩,
      ⟨(some 9), none, (.op (.mov (.dat (.lit (.int .i64 0)))))⟩])
    (.seq (.region none [
      ⟨(some 13), none, (.op (.load 2 true (.tmp 4)))⟩,
      ⟨(some 14), none, (.op (.load 1 true (.tmp 5)))⟩,
      ⟨(some 15), none, (.op (.mov (.tmp 2)))⟩,
      ⟨(some 16), none, (.call (.dat (.fn (.func 42) [] [])) [(.tmp 13), (.tmp 14), (.tmp 15)])⟩,
      ⟨(some 10), none, (.op (.mov (.tmp 16)))⟩])
    (.seq (.seq (.region none [
      ⟨(some 17), none, (.op (.mov (.tmp 10)))⟩,
      ⟨(some 18), none, (.op (.arith .neq (.tmp 17) (.dat (.lit (.int .i64 0)))))⟩])
    (.cond (.tmp 18)
      (.seq (.region none [
        ⟨(some 19), none, (.op (.mov (.tmp 10)))⟩,
        ⟨(some 8), none, (.op (.mov (.dat (.lit (.bool false)))))⟩,
        ⟨(some 9), none, (.op (.mov (.tmp 19)))⟩])
      .ret)
      .skip))
    (.seq (.region none [
      ⟨(some 21), none, (.op (.load 2 true (.tmp 4)))⟩,
      ⟨(some 22), none, (.op (.load 4 true (.tmp 7)))⟩,
      ⟨(some 23), none, (.call (.dat (.fn (.func 43) [] [])) [(.tmp 21), (.tmp 22)])⟩,
      ⟨(some 20), none, (.op (.mov (.tmp 23)))⟩,
      ⟨(some 24), none, (.op (.extract (.tmp 20) 0))⟩,
      ⟨(some 25), none, (.op (.extract (.tmp 20) 1))⟩,
      ⟨(some 11), none, (.op (.alloc true [.nil 5, .lit (.int .i64 0)]))⟩,
      ⟨none, none, (.op (.store 2 (.tmp 11) (.tmp 24)))⟩,
      ⟨(some 12), none, (.op (.mov (.tmp 25)))⟩])
    (.seq (.seq (.region none [
      ⟨(some 26), none, (.op (.mov (.tmp 12)))⟩,
      ⟨(some 27), none, (.op (.arith .neq (.tmp 26) (.dat (.lit (.int .i64 0)))))⟩])
    (.cond (.tmp 27)
      (.seq (.region none [
        ⟨(some 8), none, (.op (.mov (.dat (.lit (.bool false)))))⟩,
        ⟨(some 9), none, (.op (.mov (.dat (.lit (.int .i64 0)))))⟩])
      .ret)
      .skip))
    (.seq (.region (some [[], [0], [0, 1], [0, 1, 2], [0, 1, 2, 3], [0, 1, 2, 3, 4], [0, 1, 2, 3], [0, 1, 2, 3, 6], [0, 1, 2, 3, 4, 5, 6, 7], [0, 1, 2, 3], [0, 1, 2, 3], [0, 1, 2, 3, 4, 5, 6, 7, 8, 9, 10], [0, 1, 2, 3, 4, 5, 6, 7, 8, 9, 10, 11], [0, 1, 2, 3, 4, 5, 6, 7, 8, 9, 10, 11, 12], [0, 1, 2, 3, 4, 5, 6, 7, 8, 9, 10, 11, 12, 13], [0, 1, 2, 3, 4, 5, 6, 7, 8, 9, 10, 11, 12, 13, 14], [0, 1, 2, 3, 4, 5, 6, 7, 8, 9, 10, 11, 12, 13], [0, 1, 2, 3, 4, 5, 6, 7, 8, 9, 10, 11, 12, 13], [0, 1, 2, 3, 4, 5, 6, 7, 8, 9, 10, 11, 12, 13, 14, 15, 16, 17], [0, 1, 2, 3, 4, 5, 6, 7, 8, 9, 10, 11, 12, 13, 14, 15, 16, 17, 18], [0, 1, 2, 3, 4, 5, 6, 7, 8, 9, 10, 11, 12, 13, 14, 15, 16, 17, 18, 19], [0, 1, 2, 3, 4, 5, 6, 7, 8, 9, 10, 11, 12, 13, 14, 15, 16, 17, 18, 19, 20], [0, 1, 2, 3, 4, 5, 6, 7, 8, 9, 10, 11, 12, 13, 14, 15, 16, 17, 18, 19, 20, 21], [0, 1, 2, 3, 4, 5, 6, 7, 8, 9, 10, 11, 12, 13, 14, 15, 16, 17, 18, 19, 20, 21, 22]]) [
      ⟨(some 28), none, (.op (.field 0 1 false (.tmp 7)))⟩,
      ⟨(some 29), none, (.op (.load 1 false (.tmp 28)))⟩,
      ⟨(some 30), none, (.op (.arith .neq (.tmp 29) (.dat (.lit (.int .i64 2)))))⟩,
      ⟨(some 31), none, (.op (.mov (.tmp 30)))⟩,
      ⟨(some 32), (some (31, false)), (.op (.field 0 1 false (.tmp 4)))⟩,
      ⟨(some 33), (some (31, false)), (.op (.load 1 false (.tmp 32)))⟩,
      ⟨(some 34), (some (31, false)), (.op (.field 1 1 false (.tmp 7)))⟩,
      ⟨(some 35), (some (31, false)), (.op (.load 1 false (.tmp 34)))⟩,
      ⟨(some 36), (some (31, false)), (.op (.slice 5 (.tmp 33) (some (.tmp 35)) none))⟩,
      ⟨(some 37), (some (31, false)), (.op (.load 1 true (.tmp 5)))⟩,
      ⟨(some 38), (some (31, false)), (.op (.mov (.tmp 2)))⟩,
      ⟨(some 39), (some (31, false)), (.call (.dat (.fn (.func 44) [] [])) [(.tmp 36), (.tmp 37), (.tmp 38)])⟩,
      ⟨(some 40), (some (31, false)), (.op (.not (.tmp 39)))⟩,
      ⟨(some 41), (some (31, false)), (.op (.mov (.tmp 40)))⟩,
      ⟨(some 42), (some (41, true)), (.op (.field 3 1 false (.tmp 7)))⟩,
      ⟨(some 43), (some (41, true)), (.op (.load 1 false (.tmp 42)))⟩,
      ⟨(some 44), (some (41, true)), (.op (.load 1 true (.tmp 5)))⟩,
      ⟨(some 45), (some (41, true)), (.op (.mov (.tmp 2)))⟩,
      ⟨(some 46), (some (41, true)), (.call (.dat (.fn (.func 44) [] [])) [(.tmp 43), (.tmp 44), (.tmp 45)])⟩,
      ⟨(some 47), (some (41, true)), (.op (.not (.tmp 46)))⟩,
      ⟨(some 48), (some (31, false)), (.op (.pick (.tmp 41) (.tmp 47) (.dat (.lit (.bool false)))))⟩,
      ⟨(some 49), none, (.op (.pick (.tmp 31) (.dat (.lit (.bool true))) (.tmp 48)))⟩,
      ⟨(some 8), none, (.op (.mov (.tmp 49)))⟩,
      ⟨(some 9), none, (.op (.mov (.dat (.lit (.int .i64 0)))))⟩])
    .ret))))))
  res := [.tmp 8, .tmp 9]
theorem c17 : CmpF Tryd.prog 17 a17 := chkF_cmp (F := Tryd.f17) (by kernel_rfl) mixed (by kernel_rfl)
/-- hansard/permits.Stable -/
def a18 : AF where
  nt := 37
  body := (.seq (.region none [
      ⟨(some 3), none, (.op (.box true (.tmp 0)))⟩,
      ⟨(some 4), none, (.op (.box true (.tmp 1)))⟩,
      ⟨(some 6), none, (.op (.alloc false [.lit (.int .i64 0)]))⟩,
      ⟨(some 7), none, (.op (.alloc false [.lit (.int .i64 0)]))⟩])
    (.seq (.seq (.region none [
      ⟨(some 11), none, (.op (.load 2 true (.tmp 3)))⟩,
      ⟨(some 12), none, (.op (.load 1 true (.tmp 4)))⟩,
      ⟨(some 13), none, (.op (.mov (.tmp 2)))⟩,
      ⟨(some 14), none, (.call (.dat (.fn (.func 39) [] [])) [(.tmp 11), (.tmp 12), (.tmp 13)])⟩,
      ⟨none, none, (.op (.store 1 (.tmp 7) (.tmp 14)))⟩])
    (.seq (.region none [
      ⟨(some 15), none, (.op (.load 1 false (.tmp 7)))⟩,
      ⟨(some 16), none, (.op (.arith .neq (.tmp 15) (.dat (.lit (.int .i64 0)))))⟩])
    (.cond (.tmp 16)
      (.seq (.region (some [[], [], [0, 1]]) [
        ⟨(some 17), none, (.op (.load 1 false (.tmp 7)))⟩,
        ⟨none, none, (.op (.store 1 (.tmp 6) (.dat (.lit (.int .i64 0)))))⟩,
        ⟨none, none, (.op (.store 1 (.tmp 7) (.tmp 17)))⟩])
      .ret)
      .skip)))
    (.seq (.region none [
      ⟨(some 18), none, (.op (.load 1 true (.tmp 4)))⟩,
      ⟨(some 19), none, (.op (.mov (.tmp 2)))⟩,
      ⟨(some 20), none, (.call (.dat (.fn (.func 41) [] [])) [(.tmp 18), (.tmp 19)])⟩,
      ⟨(some 8), none, (.op (.alloc false [.lit (.nilFunc)]))⟩,
      ⟨none, none, (.op (.store 1 (.tmp 8) (.tmp 20)))⟩])
    (.seq (.seq (.region none [
      ⟨(some 21), none, (.op (.field 0 1 false (.tmp 3)))⟩,
      ⟨(some 22), none, (.op (.load 1 false (.tmp 21)))⟩,
      ⟨(some 23), none, (.call (.dat (.fn (.func 45) [] [])) [(.tmp 22)])⟩])
    (.block 0
      (.range (.tmp 23) [24, 25]
        (.seq (.region none [
          ⟨(some 9), none, (.op (.mov (.tmp 24)))⟩])
        (.region none [
          ⟨(some 10), none, (.op (.alloc true [.lit (.string ⟨#[]⟩), .lit (.int .i64 0), .lit (.int .i64 0), .lit (.int .i64 0), .nil 1]))⟩,
          ⟨none, none, (.op (.store 5 (.tmp 10) (.tmp 25)))⟩]))
        (.block 1
          (.seq (.region none [
            ⟨(some 26), none, (.op (.mov (.tmp 9)))⟩,
            ⟨(some 27), none, (.op (.field 1 1 false (.tmp 3)))⟩,
            ⟨(some 28), none, (.op (.load 1 false (.tmp 27)))⟩,
            ⟨(some 29), none, (.op (.arith .lss (.tmp 26) (.tmp 28)))⟩,
            ⟨(some 30), none, (.op (.mov (.tmp 29)))⟩,
            ⟨(some 31), (some (30, false)), (.op (.load 1 false (.tmp 8)))⟩,
            ⟨(some 32), (some (30, false)), (.op (.load 5 true (.tmp 10)))⟩,
            ⟨(some 33), (some (30, false)), (.call (.tmp 31) [(.tmp 32)])⟩,
            ⟨(some 34), none, (.op (.pick (.tmp 30) (.dat (.lit (.bool true))) (.tmp 33)))⟩])
          (.cond (.tmp 34)
            (.seq (.region none [
              ⟨(some 35), none, (.op (.mov (.tmp 9)))⟩,
              ⟨(some 36), none, (.op (.arith .add (.tmp 35) (.dat (.lit (.int .i64 1)))))⟩,
              ⟨none, none, (.op (.store 1 (.tmp 6) (.tmp 36)))⟩,
              ⟨none, none, (.op (.store 1 (.tmp 7) (.dat (.lit (.int .i64 0)))))⟩])
            .ret)
            .skip))))))
    (.seq (.region none [
      ⟨none, none, (.op (.store 1 (.tmp 6) (.dat (.lit (.int .i64 0)))))⟩,
      ⟨none, none, (.op (.store 1 (.tmp 7) (.dat (.lit (.int .i64 0)))))⟩])
    .ret)))))
  res := [.cell 6 1 false, .cell 7 1 false]
theorem c18 : CmpF Tryd.prog 18 a18 := chkF_cmp (F := Tryd.f18) (by kernel_rfl) mixed (by kernel_rfl)
/-- hansard/hansardref19.Stable -/
def a19 : AF where
  nt := 40
  body := (.seq (.region none [
      ⟨(some 3), none, (.op (.box true (.tmp 0)))⟩,
      ⟨(some 4), none, (.op (.box true (.tmp 1)))⟩,
      ⟨(some 6), none, (.op (.mov (.dat (.lit (.int .i64 0)))))⟩,
      ⟨(some 7), none, (.op (.mov (.dat (.lit (.int .i64 0)))))⟩])
    (.seq (.region none [
      ⟨(some 11), none, (.op (.load 2 true (.tmp 3)))⟩,
      ⟨(some 12), none, (.op (.load 1 true (.tmp 4)))⟩,
      ⟨(some 13), none, (.op (.mov (.tmp 2)))⟩,
      ⟨(some 14), none, (.call (.dat (.fn (.func 42) [] [])) [(.tmp 11), (.tmp 12), (.tmp 13)])⟩,
      ⟨(some 8), none, (.op (.mov (.tmp 14)))⟩])
    (.seq (.seq (.region none [
      ⟨(some 15), none, (.op (.mov (.tmp 8)))⟩,
      ⟨(some 16), none, (.op (.arith .neq (.tmp 15) (.dat (.lit (.int .i64 0)))))⟩])
    (.cond (.tmp 16)
      (.seq (.region none [
        ⟨(some 17), none, (.op (.mov (.tmp 8)))⟩,
        ⟨(some 6), none, (.op (.mov (.dat (.lit (.int .i64 0)))))⟩,
        ⟨(some 7), none, (.op (.mov (.tmp 17)))⟩])
      .ret)
      .skip))
    (.seq (.region none [
      ⟨(some 18), none, (.op (.field 1 1 false (.tmp 3)))⟩,
      ⟨(some 19), none, (.op (.load 1 false (.tmp 18)))⟩,
      ⟨(some 9), none, (.op (.mov (.tmp 19)))⟩])
    (.seq (.seq (.region none [
      ⟨(some 10), none, (.op (.mov (.dat (.lit (.int .i64 0)))))⟩])
    (.block 0
      (.loop
        (.seq (.seq (.region none [
          ⟨(some 20), none, (.op (.mov (.tmp 10)))⟩,
          ⟨(some 21), none, (.op (.field 0 1 false (.tmp 3)))⟩,
          ⟨(some 22), none, (.op (.load 1 false (.tmp 21)))⟩,
          ⟨(some 23), none, (.op (.len (.tmp 22)))⟩,
          ⟨(some 24), none, (.op (.arith .lss (.tmp 20) (.tmp 23)))⟩])
        (.cond (.tmp 24)
          .skip
          (.exit 0)))
        (.seq (.block 1
          (.seq (.region (some [[], [0], [], [0, 1, 2], [0, 1, 2, 3], [], [], [0, 1, 2, 3, 4, 5, 6]]) [
            ⟨(some 27), none, (.op (.field 0 1 false (.tmp 3)))⟩,
            ⟨(some 28), none, (.op (.load 1 false (.tmp 27)))⟩,
            ⟨(some 29), none, (.op (.mov (.tmp 10)))⟩,
            ⟨(some 30), none, (.op (.index 5 (.tmp 28) (.tmp 29)))⟩,
            ⟨(some 31), none, (.op (.load 5 true (.tmp 30)))⟩,
            ⟨(some 32), none, (.op (.load 1 true (.tmp 4)))⟩,
            ⟨(some 33), none, (.op (.mov (.tmp 2)))⟩,
            ⟨(some 34), none, (.call (.dat (.fn (.func 26) [] [])) [(.tmp 31), (.tmp 32), (.tmp 33)])⟩])
          (.cond (.tmp 34)
            (.region none [
              ⟨(some 35), none, (.op (.mov (.tmp 9)))⟩,
              ⟨(some 36), none, (.op (.mov (.tmp 10)))⟩,
              ⟨(some 37), none, (.op (.arith .add (.tmp 36) (.dat (.lit (.int .i64 1)))))⟩,
              ⟨(some 38), none, (.op (.minmax true (.tmp 35) (.tmp 37)))⟩,
              ⟨(some 9), none, (.op (.mov (.tmp 38)))⟩])
            .skip)))
        (.region none [
          ⟨(some 25), none, (.op (.mov (.tmp 10)))⟩,
          ⟨(some 26), none, (.op (.arith .add (.tmp 25) (.dat (.lit (.int .i64 1)))))⟩,
          ⟨(some 10), none, (.op (.mov (.tmp 26)))⟩]))))))
    (.seq (.region none [
      ⟨(some 39), none, (.op (.mov (.tmp 9)))⟩,
      ⟨(some 6), none, (.op (.mov (.tmp 39)))⟩,
      ⟨(some 7), none, (.op (.mov (.dat (.lit (.int .i64 0)))))⟩])
    .ret))))))
  res := [.tmp 6, .tmp 7]
theorem c19 : CmpF Tryd.prog 19 a19 := chkF_cmp (F := Tryd.f19) (by kernel_rfl) mixed (by kernel_rfl)
/-- hansard/permits.Change -/
def a20 : AF where
  nt := 56
  body := (.seq (.region none [
      ⟨(some 4), none, (.op (.box true (.tmp 0)))⟩,
      ⟨(some 5), none, (.op (.box true (.tmp 1)))⟩,
      ⟨(some 8), none, (.op (.alloc true [.lit (.int .i64 0), .lit (.int .i64 0), .lit (.int .i64 0), .nil 5]))⟩,
      ⟨(some 9), none, (.op (.mov (.dat (.lit (.bool false)))))⟩,
      ⟨(some 10), none, (.op (.mov (.dat (.lit (.int .i64 0)))))⟩])
    (.seq (.region none [
      ⟨(some 14), none, (.op (.load 2 true (.tmp 4)))⟩,
      ⟨(some 15), none, (.op (.load 1 true (.tmp 5)))⟩,
      ⟨(some 16), none, (.op (.mov (.tmp 2)))⟩,
      ⟨(some 17), none, (.call (.dat (.fn (.func 18) [] [])) [(.tmp 14), (.tmp 15), (.tmp 16)])⟩,
      ⟨(some 13), none, (.op (.mov (.tmp 17)))⟩,
      ⟨(some 18), none, (.op (.extract (.tmp 13) 0))⟩,
      ⟨(some 19), none, (.op (.extract (.tmp 13) 1))⟩,
      ⟨(some 11), none, (.op (.mov (.tmp 18)))⟩,
      ⟨(some 10), none, (.op (.mov (.tmp 19)))⟩])
    (.seq (.block 0
      (.seq (.region none [
        ⟨(some 21), none, (.op (.mov (.tmp 10)))⟩,
        ⟨(some 22), none, (.op (.arith .neq (.tmp 21) (.dat (.lit (.int .i64 0)))))⟩,
        ⟨(some 20), none, (.op (.mov (.tmp 22)))⟩])
      (.cond (.tmp 20)
        (.seq (.region none [
          ⟨(some 23), none, (.op (.load 4 true (.tmp 8)))⟩,
          ⟨(some 24), none, (.op (.mov (.tmp 10)))⟩,
          ⟨none, none, (.op (.store 4 (.tmp 8) (.tmp 23)))⟩,
          ⟨(some 9), none, (.op (.mov (.dat (.lit (.bool false)))))⟩,
          ⟨(some 10), none, (.op (.mov (.tmp 24)))⟩])
        .ret)
        (.seq (.region none [
          ⟨(some 26), none, (.op (.mov (.tmp 3)))⟩,
          ⟨(some 27), none, (.op (.arith .lss (.tmp 26) (.dat (.lit (.int .i64 0)))))⟩,
          ⟨(some 28), none, (.op (.mov (.tmp 27)))⟩,
          ⟨(some 29), (some (28, false)), (.op (.mov (.tmp 3)))⟩,
          ⟨(some 30), (some (28, false)), (.op (.field 0 1 false (.tmp 4)))⟩,
          ⟨(some 31), (some (28, false)), (.op (.load 1 false (.tmp 30)))⟩,
          ⟨(some 32), (some (28, false)), (.op (.len (.tmp 31)))⟩,
          ⟨(some 33), (some (28, false)), (.op (.arith .geq (.tmp 29) (.tmp 32)))⟩,
          ⟨(some 34), none, (.op (.pick (.tmp 28) (.dat (.lit (.bool true))) (.tmp 33)))⟩,
          ⟨(some 25), none, (.op (.mov (.tmp 34)))⟩])
        (.cond (.tmp 25)
          (.seq (.region none [
            ⟨(some 35), none, (.op (.load 4 true (.tmp 8)))⟩,
            ⟨none, none, (.op (.store 4 (.tmp 8) (.tmp 35)))⟩,
            ⟨(some 9), none, (.op (.mov (.dat (.lit (.bool false)))))⟩,
            ⟨(some 10), none, (.op (.mov (.dat (.lit (.int .i64 1)))))⟩])
          .ret)
          (.seq (.region none [
            ⟨(some 37), none, (.op (.mov (.tmp 3)))⟩,
            ⟨(some 38), none, (.op (.mov (.tmp 11)))⟩,
            ⟨(some 39), none, (.op (.arith .lss (.tmp 37) (.tmp 38)))⟩,
            ⟨(some 36), none, (.op (.mov (.tmp 39)))⟩])
          (.cond (.tmp 36)
            (.seq (.region none [
              ⟨(some 40), none, (.op (.load 4 true (.tmp 8)))⟩,
              ⟨none, none, (.op (.store 4 (.tmp 8) (.tmp 40)))⟩,
              ⟨(some 9), none, (.op (.mov (.dat (.lit (.bool false)))))⟩,
              ⟨(some 10), none, (.op (.mov (.dat (.lit (.int .i64 0)))))⟩])
            .ret)
            .skip)))))))
    (.seq (.region none [
      ⟨(some 41), none, (.op (.field 0 1 false (.tmp 4)))⟩,
      ⟨(some 42), none, (.op (.load 1 false (.tmp 41)))⟩,
      ⟨(some 43), none, (.op (.mov (.tmp 3)))⟩,
      ⟨(some 44), none, (.op (.index 5 (.tmp 42) (.tmp 43)))⟩,
      ⟨(some 45), none, (.op (.load 5 true (.tmp 44)))⟩,
      ⟨(some 12), none, (.op (.alloc true [.lit (.string ⟨#[]⟩), .lit (.int .i64 0), .lit (.int .i64 0), .lit (.int .i64 0), .nil 1]))⟩,
      ⟨none, none, (.op (.store 5 (.tmp 12) (.tmp 45)))⟩])
    (.seq (.region none [
      ⟨(some 46), none, (.op (.field 4 1 false (.tmp 12)))⟩,
      ⟨none, none, (.op (.store 1 (.tmp 46) (.dat (.nil 1))))⟩])
    (.seq (.seq (.region none [
      ⟨(some 47), none, (.op (.field 0 1 false (.tmp 12)))⟩,
      ⟨(some 48), none, (.op (.load 1 false (.tmp 47)))⟩,
      ⟨(some 49), none, (.op (.arith .eql (.tmp 48) (.dat (.lit (.string ⟨#[97]⟩)))))⟩])
    (.cond (.tmp 49)
      (.region none [
        ⟨(some 50), none, (.op (.field 0 1 false (.tmp 12)))⟩,
        ⟨none, none, (.op (.store 1 (.tmp 50) (.dat (.lit (.string ⟨#[98]⟩)))))⟩])
      (.region none [
        ⟨(some 51), none, (.op (.field 0 1 false (.tmp 12)))⟩,
        ⟨none, none, (.op (.store 1 (.tmp 51) (.dat (.lit (.string ⟨#[97]⟩)))))⟩])))
    (.seq (.region none [
      ⟨(some 52), none, (.op (.mov (.tmp 3)))⟩,
      ⟨(some 53), none, (.op (.load 5 true (.tmp 12)))⟩,
      ⟨(some 54), none, (.op (.mkslice 5 [(.tmp 53)]))⟩,
      ⟨(some 55), none, (.op (.build [.lit (.int .i64 0), .lit (.int .i64 0), .lit (.int .i64 0), .nil 5] [(0, 1, (.dat (.lit (.int .i64 2)))), (1, 1, (.tmp 52)), (2, 1, (.dat (.lit (.int .i64 1)))), (3, 1, (.tmp 54))]))⟩,
      ⟨none, none, (.op (.store 4 (.tmp 8) (.tmp 55)))⟩,
      ⟨(some 9), none, (.op (.mov (.dat (.lit (.bool true)))))⟩,
      ⟨(some 10), none, (.op (.mov (.dat (.lit (.int .i64 0)))))⟩])
    .ret)))))))
  res := [.cell 8 4 true, .tmp 9, .tmp 10]
theorem c20 : CmpF Tryd.prog 20 a20 := chkF_cmp (F := Tryd.f20) (by kernel_rfl) mixed (by kernel_rfl)
/-- hansard/hansardref19.Change -/
def a21 : AF where
  nt := 54
  body := (.seq (.region none [
      ⟨(some 4), none, (.op (.box true (.tmp 0)))⟩,
      ⟨(some 5), none, (.op (.box true (.tmp 1)))⟩,
      ⟨(some 8), none, (.op (.alloc true [.lit (.int .i64 0), .lit (.int .i64 0), .lit (.int .i64 0), .nil 5]))⟩,
      ⟨(some 9), none, (.op (.mov (.dat (.lit (.bool false)))))⟩,
      ⟨(some 10), none, (.op (.mov (.dat (.lit (.int .i64 0)))))⟩])
    (.seq (.region none [
      ⟨(some 15), none, (.op (.load 2 true (.tmp 4)))⟩,
      ⟨(some 16), none, (.op (.load 1 true (.tmp 5)))⟩,
      ⟨(some 17), none, (.op (.mov (.tmp 2)))⟩,
      ⟨(some 18), none, (.call (.dat (.fn (.func 19) [] [])) [(.tmp 15), (.tmp 16), (.tmp 17)])⟩,
      ⟨(some 14), none, (.op (.mov (.tmp 18)))⟩,
      ⟨(some 19), none, (.op (.extract (.tmp 14) 0))⟩,
      ⟨(some 20), none, (.op (.extract (.tmp 14) 1))⟩,
      ⟨(some 11), none, (.op (.mov (.tmp 19)))⟩,
      ⟨(some 12), none, (.op (.mov (.tmp 20)))⟩])
    (.seq (.seq (.region none [
      ⟨(some 21), none, (.op (.mov (.tmp 12)))⟩,
      ⟨(some 22), none, (.op (.arith .neq (.tmp 21) (.dat (.lit (.int .i64 0)))))⟩])
    (.cond (.tmp 22)
      (.seq (.region none [
        ⟨(some 23), none, (.op (.build [.lit (.int .i64 0), .lit (.int .i64 0), .lit (.int .i64 0), .nil 5] []))⟩,
        ⟨(some 24), none, (.op (.mov (.tmp 12)))⟩,
        ⟨none, none, (.op (.store 4 (.tmp 8) (.tmp 23)))⟩,
        ⟨(some 9), none, (.op (.mov (.dat (.lit (.bool false)))))⟩,
        ⟨(some 10), none, (.op (.mov (.tmp 24)))⟩])
      .ret)
      .skip))
    (.seq (.seq (.region none [
      ⟨(some 25), none, (.op (.mov (.tmp 3)))⟩,
      ⟨(some 26), none, (.op (.arith .lss (.tmp 25) (.dat (.lit (.int .i64 0)))))⟩,
      ⟨(some 27), none, (.op (.mov (.tmp 26)))⟩,
      ⟨(some 28), (some (27, false)), (.op (.mov (.tmp 3)))⟩,
      ⟨(some 29), (some (27, false)), (.op (.field 0 1 false (.tmp 4)))⟩,
      ⟨(some 30), (some (27, false)), (.op (.load 1 false (.tmp 29)))⟩,
      ⟨(some 31), (some (27, false)), (.op (.len (.tmp 30)))⟩,
      ⟨(some 32), (some (27, false)), (.op (.arith .geq (.tmp 28) (.tmp 31)))⟩,
      ⟨(some 33), none, (.op (.pick (.tmp 27) (.dat (.lit (.bool true))) (.tmp 32)))⟩])
    (.cond (.tmp 33)
      (.seq (.region none [
        ⟨(some 34), none, (.op (.build [.lit (.int .i64 0), .lit (.int .i64 0), .lit (.int .i64 0), .nil 5] []))⟩,
        ⟨none, none, (.op (.store 4 (.tmp 8) (.tmp 34)))⟩,
        ⟨(some 9), none, (.op (.mov (.dat (.lit (.bool false)))))⟩,
        ⟨(some 10), none, (.op (.mov (.dat (.lit (.int .i64 1)))))⟩])
      .ret)
      .skip))
    (.seq (.seq (.region none [
      ⟨(some 35), none, (.op (.mov (.tmp 3)))⟩,
      ⟨(some 36), none, (.op (.mov (.tmp 11)))⟩,
      ⟨(some 37), none, (.op (.arith .lss (.tmp 35) (.tmp 36)))⟩])
    (.cond (.tmp 37)
      (.seq (.region none [
        ⟨(some 38), none, (.op (.build [.lit (.int .i64 0), .lit (.int .i64 0), .lit (.int .i64 0), .nil 5] []))⟩,
        ⟨none, none, (.op (.store 4 (.tmp 8) (.tmp 38)))⟩,
        ⟨(some 9), none, (.op (.mov (.dat (.lit (.bool false)))))⟩,
        ⟨(some 10), none, (.op (.mov (.dat (.lit (.int .i64 0)))))⟩])
      .ret)
      .skip))
    (.seq (.region none [
      ⟨(some 39), none, (.op (.field 0 1 false (.tmp 4)))⟩,
      ⟨(some 40), none, (.op (.load 1 false (.tmp 39)))⟩,
      ⟨(some 41), none, (.op (.mov (.tmp 3)))⟩,
      ⟨(some 42), none, (.op (.index 5 (.tmp 40) (.tmp 41)))⟩,
      ⟨(some 43), none, (.op (.load 5 true (.tmp 42)))⟩,
      ⟨(some 13), none, (.op (.alloc true [.lit (.string ⟨#[]⟩), .lit (.int .i64 0), .lit (.int .i64 0), .lit (.int .i64 0), .nil 1]))⟩,
      ⟨none, none, (.op (.store 5 (.tmp 13) (.tmp 43)))⟩])
    (.seq (.region none [
      ⟨(some 44), none, (.op (.field 4 1 false (.tmp 13)))⟩,
      ⟨none, none, (.op (.store 1 (.tmp 44) (.dat (.nil 1))))⟩])
    (.seq (.seq (.region none [
      ⟨(some 45), none, (.op (.field 0 1 false (.tmp 13)))⟩,
      ⟨(some 46), none, (.op (.load 1 false (.tmp 45)))⟩,
      ⟨(some 47), none, (.op (.arith .eql (.tmp 46) (.dat (.lit (.string ⟨#[97]⟩)))))⟩])
    (.cond (.tmp 47)
      (.region none [
        ⟨(some 48), none, (.op (.field 0 1 false (.tmp 13)))⟩,
        ⟨none, none, (.op (.store 1 (.tmp 48) (.dat (.lit (.string ⟨#[98]⟩)))))⟩])
      (.region none [
        ⟨(some 49), none, (.op (.field 0 1 false (.tmp 13)))⟩,
        ⟨none, none, (.op (.store 1 (.tmp 49) (.dat (.lit (.string ⟨#[97]⟩)))))⟩])))
    (.seq (.region none [
      ⟨(some 50), none, (.op (.mov (.tmp 3)))⟩,
      ⟨(some 51), none, (.op (.load 5 true (.tmp 13)))⟩,
      ⟨(some 52), none, (.op (.mkslice 5 [(.tmp 51)]))⟩,
      ⟨(some 53), none, (.op (.build [.lit (.int .i64 0), .lit (.int .i64 0), .lit (.int .i64 0), .nil 5] [(0, 1, (.dat (.lit (.int .i64 2)))), (1, 1, (.tmp 50)), (2, 1, (.dat (.lit (.int .i64 1)))), (3, 1, (.tmp 52))]))⟩,
      ⟨none, none, (.op (.store 4 (.tmp 8) (.tmp 53)))⟩,
      ⟨(some 9), none, (.op (.mov (.dat (.lit (.bool true)))))⟩,
      ⟨(some 10), none, (.op (.mov (.dat (.lit (.int .i64 0)))))⟩])
    .ret)))))))))
  res := [.cell 8 4 true, .tmp 9, .tmp 10]
theorem c21 : CmpF Tryd.prog 21 a21 := chkF_cmp (F := Tryd.f21) (by kernel_rfl) mixed (by kernel_rfl)
/-- hansard/hansardref19.SameOp -/
def a22 : AF where
  nt := 31
  body := (.seq (.region none [
      ⟨(some 2), none, (.op (.box true (.tmp 0)))⟩,
      ⟨(some 3), none, (.op (.box true (.tmp 1)))⟩,
      ⟨(some 4), none, (.op (.mov (.dat (.lit (.bool false)))))⟩])
    (.seq (.region none [
      ⟨(some 5), none, (.op (.field 0 1 false (.tmp 2)))⟩,
      ⟨(some 6), none, (.op (.load 1 false (.tmp 5)))⟩,
      ⟨(some 7), none, (.op (.field 0 1 false (.tmp 3)))⟩,
      ⟨(some 8), none, (.op (.load 1 false (.tmp 7)))⟩,
      ⟨(some 9), none, (.op (.arith .eql (.tmp 6) (.tmp 8)))⟩,
      ⟨(some 10), none, (.op (.mov (.tmp 9)))⟩,
      ⟨(some 11), (some (10, true)), (.op (.field 1 1 false (.tmp 2)))⟩,
      ⟨(some 12), (some (10, true)), (.op (.load 1 false (.tmp 11)))⟩,
      ⟨(some 13), (some (10, true)), (.op (.field 1 1 false (.tmp 3)))⟩,
      ⟨(some 14), (some (10, true)), (.op (.load 1 false (.tmp 13)))⟩,
      ⟨(some 15), (some (10, true)), (.op (.arith .eql (.tmp 12) (.tmp 14)))⟩,
      ⟨(some 16), none, (.op (.pick (.tmp 10) (.tmp 15) (.dat (.lit (.bool false)))))⟩,
      ⟨(some 17), none, (.op (.mov (.tmp 16)))⟩,
      ⟨(some 18), (some (17, true)), (.op (.field 2 1 false (.tmp 2)))⟩,
      ⟨(some 19), (some (17, true)), (.op (.load 1 false (.tmp 18)))⟩,
      ⟨(some 20), (some (17, true)), (.op (.field 2 1 false (.tmp 3)))⟩,
      ⟨(some 21), (some (17, true)), (.op (.load 1 false (.tmp 20)))⟩,
      ⟨(some 22), (some (17, true)), (.op (.arith .eql (.tmp 19) (.tmp 21)))⟩,
      ⟨(some 23), none, (.op (.pick (.tmp 17) (.tmp 22) (.dat (.lit (.bool false)))))⟩,
      ⟨(some 24), none, (.op (.mov (.tmp 23)))⟩,
      ⟨(some 25), (some (24, true)), (.op (.field 3 1 false (.tmp 2)))⟩,
      ⟨(some 26), (some (24, true)), (.op (.load 1 false (.tmp 25)))⟩,
      ⟨(some 27), (some (24, true)), (.op (.field 3 1 false (.tmp 3)))⟩,
      ⟨(some 28), (some (24, true)), (.op (.load 1 false (.tmp 27)))⟩,
      ⟨(some 29), (some (24, true)), (.call (.dat (.fn (.func 24) [] [])) [(.tmp 26), (.tmp 28)])⟩,
      ⟨(some 30), none, (.op (.pick (.tmp 24) (.tmp 29) (.dat (.lit (.bool false)))))⟩,
      ⟨(some 4), none, (.op (.mov (.tmp 30)))⟩])
    .ret))
  res := [.tmp 4]
theorem c22 : CmpF Tryd.prog 22 a22 := chkF_cmp (F := Tryd.f22) (by kernel_rfl) mixed (by kernel_rfl)
/-- hansard/stream.Do -/
def a23 : AF where
  nt := 35
  body := (.seq (.region none [
      ⟨(some 2), none, (.op (.box true (.tmp 0)))⟩,
      ⟨(some 3), none, (.op (.box true (.tmp 1)))⟩,
      ⟨(some 4), none, (.op (.alloc true [.nil 5, .lit (.int .i64 0)]))⟩,
      ⟨(some 5), none, (.op (.alloc false [.lit (.int .i64 0)]))⟩])
    (.seq (.sregion [
      ⟨(some 8), none, (.op (.func (.func 46) [] [(.tmp 5), (.tmp 4)]))⟩,
      ⟨none, none, (.defer (.tmp 8) [])⟩])
    (.seq (.sregion [
      ⟨none, none, (.defer (.dat (.fn (.func 47) [] [])) [(.tmp 5)])⟩])
    (.seq (.region none [
      ⟨(some 9), none, (.op (.load 2 true (.tmp 2)))⟩,
      ⟨(some 10), none, (.call (.dat (.fn (.func 48) [] [])) [(.tmp 9)])⟩])
    (.seq (.region (some [[], [], [1], [0, 1, 2], [0, 1, 2, 3], [0, 1, 2, 3, 4], [0, 1, 2, 3, 4], [], [0, 1, 2, 3, 4, 5, 7], [0, 1, 2, 3, 4, 5, 6, 7, 8]]) [
      ⟨(some 12), none, (.call (.dat (.fn (.func 49) [] [])) [])⟩,
      ⟨(some 13), none, (.op (.field 0 1 false (.tmp 3)))⟩,
      ⟨(some 14), none, (.op (.load 1 false (.tmp 13)))⟩,
      ⟨(some 15), none, (.op (.ext (.lookup (.int .i64) true (.agg [.lit (.nilFunc), .lit (.nilFunc)])) [(.tmp 12), (.tmp 14)]))⟩,
      ⟨(some 11), none, (.op (.mov (.tmp 15)))⟩,
      ⟨(some 16), none, (.op (.extract (.tmp 11) 0))⟩,
      ⟨(some 17), none, (.op (.extract (.tmp 11) 1))⟩,
      ⟨(some 6), none, (.op (.alloc true [.lit (.nilFunc), .lit (.nilFunc)]))⟩,
      ⟨none, none, (.op (.store 2 (.tmp 6) (.tmp 16)))⟩,
      ⟨(some 7), none, (.op (.mov (.tmp 17)))⟩])
    (.seq (.region none [
      ⟨(some 18), none, (.op (.mov (.tmp 7)))⟩,
      ⟨(some 19), none, (.op (.mov (.tmp 18)))⟩,
      ⟨(some 20), (some (19, true)), (.op (.field 0 1 false (.tmp 6)))⟩,
      ⟨(some 21), (some (19, true)), (.op (.load 1 false (.tmp 20)))⟩,
      ⟨(some 22), (some (19, true)), (.op (.load 2 true (.tmp 2)))⟩,
      ⟨(some 23), (some (19, true)), (.op (.load 4 true (.tmp 3)))⟩,
      ⟨(some 24), (some (19, true)), (.call (.tmp 21) [(.tmp 22), (.tmp 23)])⟩,
      ⟨(some 25), none, (.op (.pick (.tmp 19) (.tmp 24) (.dat (.lit (.bool false)))))⟩,
      ⟨(some 26), none, (.call (.dat (.fn (.func 50) [] [])) [(.tmp 25), (.dat (.lit (.int .i64 170)))])⟩])
    (.seq (.region none [
      ⟨(some 27), none, (.op (.field 1 1 false (.tmp 6)))⟩,
      ⟨(some 28), none, (.op (.load 1 false (.tmp 27)))⟩,
      ⟨(some 29), none, (.op (.load 2 true (.tmp 2)))⟩,
      ⟨(some 30), none, (.op (.load 4 true (.tmp 3)))⟩,
      ⟨(some 31), none, (.call (.tmp 28) [(.tmp 29), (.tmp 30)])⟩,
      ⟨none, none, (.op (.store 2 (.tmp 4) (.tmp 31)))⟩])
    (.seq (.region none [
      ⟨(some 32), none, (.op (.load 2 true (.tmp 4)))⟩,
      ⟨(some 33), none, (.call (.dat (.fn (.func 48) [] [])) [(.tmp 32)])⟩])
    (.seq (.region none [
      ⟨(some 34), none, (.op (.load 2 true (.tmp 4)))⟩,
      ⟨none, none, (.op (.store 2 (.tmp 4) (.tmp 34)))⟩,
      ⟨none, none, (.op (.store 1 (.tmp 5) (.dat (.lit (.int .i64 0)))))⟩])
    .ret)))))))))
  res := [.cell 4 2 true, .cell 5 1 false]
theorem c23 : CmpF Tryd.prog 23 a23 := chkF_cmp (F := Tryd.f23) (by kernel_rfl) mixed (by kernel_rfl)
/-- hansard/hansardref19.SameWords -/
def a24 : AF where
  nt := 81
  body := (.seq (.region none [
      ⟨(some 4), none, (.op (.mov (.dat (.lit (.bool false)))))⟩])
    (.seq (.seq (.region none [
      ⟨(some 6), none, (.op (.mov (.tmp 0)))⟩,
      ⟨(some 7), none, (.op (.len (.tmp 6)))⟩,
      ⟨(some 8), none, (.op (.mov (.tmp 1)))⟩,
      ⟨(some 9), none, (.op (.len (.tmp 8)))⟩,
      ⟨(some 10), none, (.op (.arith .neq (.tmp 7) (.tmp 9)))⟩])
    (.cond (.tmp 10)
      (.seq (.region none [
        ⟨(some 4), none, (.op (.mov (.dat (.lit (.bool false)))))⟩])
      .ret)
      .skip))
    (.seq (.seq (.region none [
      ⟨(some 5), none, (.op (.mov (.dat (.lit (.int .i64 0)))))⟩])
    (.block 0
      (.loop
        (.seq (.seq (.region none [
          ⟨(some 11), none, (.op (.mov (.tmp 5)))⟩,
          ⟨(some 12), none, (.op (.mov (.tmp 0)))⟩,
          ⟨(some 13), none, (.op (.len (.tmp 12)))⟩,
          ⟨(some 14), none, (.op (.arith .lss (.tmp 11) (.tmp 13)))⟩])
        (.cond (.tmp 14)
          .skip
          (.exit 0)))
        (.seq (.block 1
          (.seq (.region (some [[], [], [0, 1], [0, 1, 2], [0, 1, 2, 3], [], [], [5, 6], [5, 6, 7], [5, 6, 7, 8], [0, 1, 2, 3, 4, 5, 6, 7, 8, 9], [0, 1, 2, 3, 4, 5, 6, 7, 8, 9, 10], [0, 1, 2, 3, 4, 5, 6, 7, 8, 9, 10, 11], [0, 1, 2, 3, 4, 5, 6, 7, 8, 9, 10, 11], [0, 1, 2, 3, 4, 5, 6, 7, 8, 9, 10, 11, 12, 13], [0, 1, 2, 3, 4, 5, 6, 7, 8, 9, 10, 11, 12, 13, 14], [0, 1, 2, 3, 4, 5, 6, 7, 8, 9, 10, 11, 12, 13, 14, 15], [0, 1, 2, 3, 4, 5, 6, 7, 8, 9, 10, 11], [0, 1, 2, 3, 4, 5, 6, 7, 8, 9, 10, 11], [0, 1, 2, 3, 4, 5, 6, 7, 8, 9, 10, 11, 17, 18], [0, 1, 2, 3, 4, 5, 6, 7, 8, 9, 10, 11, 17, 18, 19], [0, 1, 2, 3, 4, 5, 6, 7, 8, 9, 10, 11, 17, 18, 19, 20], [0, 1, 2, 3, 4, 5, 6, 7, 8, 9, 10, 11, 12, 13, 14, 15, 16, 17, 18, 19, 20, 21], [0, 1, 2, 3, 4, 5, 6, 7, 8, 9, 10, 11, 12, 13, 14, 15, 16, 17, 18, 19, 20, 21, 22], [0, 1, 2, 3, 4, 5, 6, 7, 8, 9, 10, 11, 12, 13, 14, 15, 16, 17, 18, 19, 20, 21, 22, 23], [0, 1, 2, 3, 4, 5, 6, 7, 8, 9, 10, 11, 12, 13, 14, 15, 16, 17, 18, 19, 20, 21, 22, 23, 24], [0, 1, 2, 3, 4, 5, 6, 7, 8, 9, 10, 11, 12, 13, 14, 15, 16, 17, 18, 19, 20, 21, 22, 23, 24], [0, 1, 2, 3, 4, 5, 6, 7, 8, 9, 10, 11, 12, 13, 14, 15, 16, 17, 18, 19, 20, 21, 22, 23, 24, 25, 26], [0, 1, 2, 3, 4, 5, 6, 7, 8, 9, 10, 11, 12, 13, 14, 15, 16, 17, 18, 19, 20, 21, 22, 23, 24, 25, 26, 27], [0, 1, 2, 3, 4, 5, 6, 7, 8, 9, 10, 11, 12, 13, 14, 15, 16, 17, 18, 19, 20, 21, 22, 23, 24, 25, 26, 27, 28], [0, 1, 2, 3, 4, 5, 6, 7, 8, 9, 10, 11, 12, 13, 14, 15, 16, 17, 18, 19, 20, 21, 22, 23, 24], [0, 1, 2, 3, 4, 5, 6, 7, 8, 9, 10, 11, 12, 13, 14, 15, 16, 17, 18, 19, 20, 21, 22, 23, 24], [0, 1, 2, 3, 4, 5, 6, 7, 8, 9, 10, 11, 12, 13, 14, 15, 16, 17, 18, 19, 20, 21, 22, 23, 24, 30, 31], [0, 1, 2, 3, 4, 5, 6, 7, 8, 9, 10, 11, 12, 13, 14, 15, 16, 17, 18, 19, 20, 21, 22, 23, 24, 30, 31, 32], [0, 1, 2, 3, 4, 5, 6, 7, 8, 9, 10, 11, 12, 13, 14, 15, 16, 17, 18, 19, 20, 21, 22, 23, 24, 30, 31, 32, 33], [0, 1, 2, 3, 4, 5, 6, 7, 8, 9, 10, 11, 12, 13, 14, 15, 16, 17, 18, 19, 20, 21, 22, 23, 24, 25, 26, 27, 28, 29, 30, 31, 32, 33, 34], [0, 1, 2, 3, 4, 5, 6, 7, 8, 9, 10, 11, 12, 13, 14, 15, 16, 17, 18, 19, 20, 21, 22, 23, 24, 25, 26, 27, 28, 29, 30, 31, 32, 33, 34, 35], [0, 1, 2, 3, 4, 5, 6, 7, 8, 9, 10, 11, 12, 13, 14, 15, 16, 17, 18, 19, 20, 21, 22, 23, 24, 25, 26, 27, 28, 29, 30, 31, 32, 33, 34, 35, 36], [0, 1, 2, 3, 4, 5, 6, 7, 8, 9, 10, 11, 12, 13, 14, 15, 16, 17, 18, 19, 20, 21, 22, 23, 24, 25, 26, 27, 28, 29, 30, 31, 32, 33, 34, 35, 36, 37], [0, 1, 2, 3, 4, 5, 6, 7, 8, 9, 10, 11, 12, 13, 14, 15, 16, 17, 18, 19, 20, 21, 22, 23, 24, 25, 26, 27, 28, 29, 30, 31, 32, 33, 34, 35, 36, 37], [0, 1, 2, 3, 4, 5, 6, 7, 8, 9, 10, 11, 12, 13, 14, 15, 16, 17, 18, 19, 20, 21, 22, 23, 24, 25, 26, 27, 28, 29, 30, 31, 32, 33, 34, 35, 36, 37, 38, 39], [0, 1, 2, 3, 4, 5, 6, 7, 8, 9, 10, 11, 12, 13, 14, 15, 16, 17, 18, 19, 20, 21, 22, 23, 24, 25, 26, 27, 28, 29, 30, 31, 32, 33, 34, 35, 36, 37, 38, 39, 40], [0, 1, 2, 3, 4, 5, 6, 7, 8, 9, 10, 11, 12, 13, 14, 15, 16, 17, 18, 19, 20, 21, 22, 23, 24, 25, 26, 27, 28, 29, 30, 31, 32, 33, 34, 35, 36, 37, 38, 39, 40, 41], [0, 1, 2, 3, 4, 5, 6, 7, 8, 9, 10, 11, 12, 13, 14, 15, 16, 17, 18, 19, 20, 21, 22, 23, 24, 25, 26, 27, 28, 29, 30, 31, 32, 33, 34, 35, 36, 37], [0, 1, 2, 3, 4, 5, 6, 7, 8, 9, 10, 11, 12, 13, 14, 15, 16, 17, 18, 19, 20, 21, 22, 23, 24, 25, 26, 27, 28, 29, 30, 31, 32, 33, 34, 35, 36, 37], [0, 1, 2, 3, 4, 5, 6, 7, 8, 9, 10, 11, 12, 13, 14, 15, 16, 17, 18, 19, 20, 21, 22, 23, 24, 25, 26, 27, 28, 29, 30, 31, 32, 33, 34, 35, 36, 37, 43, 44], [0, 1, 2, 3, 4, 5, 6, 7, 8, 9, 10, 11, 12, 13, 14, 15, 16, 17, 18, 19, 20, 21, 22, 23, 24, 25, 26, 27, 28, 29, 30, 31, 32, 33, 34, 35, 36, 37, 43, 44, 45], [0, 1, 2, 3, 4, 5, 6, 7, 8, 9, 10, 11, 12, 13, 14, 15, 16, 17, 18, 19, 20, 21, 22, 23, 24, 25, 26, 27, 28, 29, 30, 31, 32, 33, 34, 35, 36, 37, 43, 44, 45, 46], [0, 1, 2, 3, 4, 5, 6, 7, 8, 9, 10, 11, 12, 13, 14, 15, 16, 17, 18, 19, 20, 21, 22, 23, 24, 25, 26, 27, 28, 29, 30, 31, 32, 33, 34, 35, 36, 37, 38, 39, 40, 41, 42, 43, 44, 45, 46, 47], [0, 1, 2, 3, 4, 5, 6, 7, 8, 9, 10, 11, 12, 13, 14, 15, 16, 17, 18, 19, 20, 21, 22, 23, 24, 25, 26, 27, 28, 29, 30, 31, 32, 33, 34, 35, 36, 37, 38, 39, 40, 41, 42, 43, 44, 45, 46, 47, 48], [0, 1, 2, 3, 4, 5, 6, 7, 8, 9, 10, 11, 12, 13, 14, 15, 16, 17, 18, 19, 20, 21, 22, 23, 24, 25, 26, 27, 28, 29, 30, 31, 32, 33, 34, 35, 36, 37, 38, 39, 40, 41, 42, 43, 44, 45, 46, 47, 48, 49], [0, 1, 2, 3, 4, 5, 6, 7, 8, 9, 10, 11, 12, 13, 14, 15, 16, 17, 18, 19, 20, 21, 22, 23, 24, 25, 26, 27, 28, 29, 30, 31, 32, 33, 34, 35, 36, 37, 38, 39, 40, 41, 42, 43, 44, 45, 46, 47, 48, 49, 50], [0, 1, 2, 3, 4, 5, 6, 7, 8, 9, 10, 11, 12, 13, 14, 15, 16, 17, 18, 19, 20, 21, 22, 23, 24, 25, 26, 27, 28, 29, 30, 31, 32, 33, 34, 35, 36, 37, 38, 39, 40, 41, 42, 43, 44, 45, 46, 47, 48, 49, 50], [0, 1, 2, 3, 4, 5, 6, 7, 8, 9, 10, 11, 12, 13, 14, 15, 16, 17, 18, 19, 20, 21, 22, 23, 24, 25, 26, 27, 28, 29, 30, 31, 32, 33, 34, 35, 36, 37, 38, 39, 40, 41, 42, 43, 44, 45, 46, 47, 48, 49, 50, 51, 52], [0, 1, 2, 3, 4, 5, 6, 7, 8, 9, 10, 11, 12, 13, 14, 15, 16, 17, 18, 19, 20, 21, 22, 23, 24, 25, 26, 27, 28, 29, 30, 31, 32, 33, 34, 35, 36, 37, 38, 39, 40, 41, 42, 43, 44, 45, 46, 47, 48, 49, 50, 51, 52, 53], [0, 1, 2, 3, 4, 5, 6, 7, 8, 9, 10, 11, 12, 13, 14, 15, 16, 17, 18, 19, 20, 21, 22, 23, 24, 25, 26, 27, 28, 29, 30, 31, 32, 33, 34, 35, 36, 37, 38, 39, 40, 41, 42, 43, 44, 45, 46, 47, 48, 49, 50, 51, 52, 53, 54], [0, 1, 2, 3, 4, 5, 6, 7, 8, 9, 10, 11, 12, 13, 14, 15, 16, 17, 18, 19, 20, 21, 22, 23, 24, 25, 26, 27, 28, 29, 30, 31, 32, 33, 34, 35, 36, 37, 38, 39, 40, 41, 42, 43, 44, 45, 46, 47, 48, 49, 50], [0, 1, 2, 3, 4, 5, 6, 7, 8, 9, 10, 11, 12, 13, 14, 15, 16, 17, 18, 19, 20, 21, 22, 23, 24, 25, 26, 27, 28, 29, 30, 31, 32, 33, 34, 35, 36, 37, 38, 39, 40, 41, 42, 43, 44, 45, 46, 47, 48, 49, 50], [0, 1, 2, 3, 4, 5, 6, 7, 8, 9, 10, 11, 12, 13, 14, 15, 16, 17, 18, 19, 20, 21, 22, 23, 24, 25, 26, 27, 28, 29, 30, 31, 32, 33, 34, 35, 36, 37, 38, 39, 40, 41, 42, 43, 44, 45, 46, 47, 48, 49, 50, 56, 57], [0, 1, 2, 3, 4, 5, 6, 7, 8, 9, 10, 11, 12, 13, 14, 15, 16, 17, 18, 19, 20, 21, 22, 23, 24, 25, 26, 27, 28, 29, 30, 31, 32, 33, 34, 35, 36, 37, 38, 39, 40, 41, 42, 43, 44, 45, 46, 47, 48, 49, 50, 56, 57, 58], [0, 1, 2, 3, 4, 5, 6, 7, 8, 9, 10, 11, 12, 13, 14, 15, 16, 17, 18, 19, 20, 21, 22, 23, 24, 25, 26, 27, 28, 29, 30, 31, 32, 33, 34, 35, 36, 37, 38, 39, 40, 41, 42, 43, 44, 45, 46, 47, 48, 49, 50, 56, 57, 58, 59], [0, 1, 2, 3, 4, 5, 6, 7, 8, 9, 10, 11, 12, 13, 14, 15, 16, 17, 18, 19, 20, 21, 22, 23, 24, 25, 26, 27, 28, 29, 30, 31, 32, 33, 34, 35, 36, 37, 38, 39, 40, 41, 42, 43, 44, 45, 46, 47, 48, 49, 50, 51, 52, 53, 54, 55, 56, 57, 58, 59, 60], [0, 1, 2, 3, 4, 5, 6, 7, 8, 9, 10, 11, 12, 13, 14, 15, 16, 17, 18, 19, 20, 21, 22, 23, 24, 25, 26, 27, 28, 29, 30, 31, 32, 33, 34, 35, 36, 37, 38, 39, 40, 41, 42, 43, 44, 45, 46, 47, 48, 49, 50, 51, 52, 53, 54, 55, 56, 57, 58, 59, 60, 61], [0, 1, 2, 3, 4, 5, 6, 7, 8, 9, 10, 11, 12, 13, 14, 15, 16, 17, 18, 19, 20, 21, 22, 23, 24, 25, 26, 27, 28, 29, 30, 31, 32, 33, 34, 35, 36, 37, 38, 39, 40, 41, 42, 43, 44, 45, 46, 47, 48, 49, 50, 51, 52, 53, 54, 55, 56, 57, 58, 59, 60, 61, 62]]) [
            ⟨(some 17), none, (.op (.mov (.tmp 0)))⟩,
            ⟨(some 18), none, (.op (.mov (.tmp 5)))⟩,
            ⟨(some 19), none, (.op (.index 5 (.tmp 17) (.tmp 18)))⟩,
            ⟨(some 20), none, (.op (.field 0 1 false (.tmp 19)))⟩,
            ⟨(some 21), none, (.op (.load 1 false (.tmp 20)))⟩,
            ⟨(some 22), none, (.op (.mov (.tmp 1)))⟩,
            ⟨(some 23), none, (.op (.mov (.tmp 5)))⟩,
            ⟨(some 24), none, (.op (.index 5 (.tmp 22) (.tmp 23)))⟩,
            ⟨(some 25), none, (.op (.field 0 1 false (.tmp 24)))⟩,
            ⟨(some 26), none, (.op (.load 1 false (.tmp 25)))⟩,
            ⟨(some 27), none, (.op (.arith .neq (.tmp 21) (.tmp 26)))⟩,
            ⟨(some 28), none, (.op (.mov (.tmp 27)))⟩,
            ⟨(some 29), (some (28, false)), (.op (.mov (.tmp 0)))⟩,
            ⟨(some 30), (some (28, false)), (.op (.mov (.tmp 5)))⟩,
            ⟨(some 31), (some (28, false)), (.op (.index 5 (.tmp 29) (.tmp 30)))⟩,
            ⟨(some 32), (some (28, false)), (.op (.field 1 1 false (.tmp 31)))⟩,
            ⟨(some 33), (some (28, false)), (.op (.load 1 false (.tmp 32)))⟩,
            ⟨(some 34), (some (28, false)), (.op (.mov (.tmp 1)))⟩,
            ⟨(some 35), (some (28, false)), (.op (.mov (.tmp 5)))⟩,
            ⟨(some 36), (some (28, false)), (.op (.index 5 (.tmp 34) (.tmp 35)))⟩,
            ⟨(some 37), (some (28, false)), (.op (.field 1 1 false (.tmp 36)))⟩,
            ⟨(some 38), (some (28, false)), (.op (.load 1 false (.tmp 37)))⟩,
            ⟨(some 39), (some (28, false)), (.op (.arith .neq (.tmp 33) (.tmp 38)))⟩,
            ⟨(some 40), none, (.op (.pick (.tmp 28) (.dat (.lit (.bool true))) (.tmp 39)))⟩,
            ⟨(some 41), none, (.op (.mov (.tmp 40)))⟩,
            ⟨(some 42), (some (41, false)), (.op (.mov (.tmp 0)))⟩,
            ⟨(some 43), (some (41, false)), (.op (.mov (.tmp 5)))⟩,
            ⟨(some 44), (some (41, false)), (.op (.index 5 (.tmp 42) (.tmp 43)))⟩,
            ⟨(some 45), (some (41, false)), (.op (.field 2 1 false (.tmp 44)))⟩,
            ⟨(some 46), (some (41, false)), (.op (.load 1 false (.tmp 45)))⟩,
            ⟨(some 47), (some (41, false)), (.op (.mov (.tmp 1)))⟩,
            ⟨(some 48), (some (41, false)), (.op (.mov (.tmp 5)))⟩,
            ⟨(some 49), (some (41, false)), (.op (.index 5 (.tmp 47) (.tmp 48)))⟩,
            ⟨(some 50), (some (41, false)), (.op (.field 2 1 false (.tmp 49)))⟩,
            ⟨(some 51), (some (41, false)), (.op (.load 1 false (.tmp 50)))⟩,
            ⟨(some 52), (some (41, false)), (.op (.arith .neq (.tmp 46) (.tmp 51)))⟩,
            ⟨(some 53), none, (.op (.pick (.tmp 41) (.dat (.lit (.bool true))) (.tmp 52)))⟩,
            ⟨(some 54), none, (.op (.mov (.tmp 53)))⟩,
            ⟨(some 55), (some (54, false)), (.op (.mov (.tmp 0)))⟩,
            ⟨(some 56), (some (54, false)), (.op (.mov (.tmp 5)))⟩,
            ⟨(some 57), (some (54, false)), (.op (.index 5 (.tmp 55) (.tmp 56)))⟩,
            ⟨(some 58), (some (54, false)), (.op (.field 3 1 false (.tmp 57)))⟩,
            ⟨(some 59), (some (54, false)), (.op (.load 1 false (.tmp 58)))⟩,
            ⟨(some 60), (some (54, false)), (.op (.mov (.tmp 1)))⟩,
            ⟨(some 61), (some (54, false)), (.op (.mov (.tmp 5)))⟩,
            ⟨(some 62), (some (54, false)), (.op (.index 5 (.tmp 60) (.tmp 61)))⟩,
            ⟨(some 63), (some (54, false)), (.op (.field 3 1 false (.tmp 62)))⟩,
            ⟨(some 64), (some (54, false)), (.op (.load 1 false (.tmp 63)))⟩,
            ⟨(some 65), (some (54, false)), (.op (.arith .neq (.tmp 59) (.tmp 64)))⟩,
            ⟨(some 66), none, (.op (.pick (.tmp 54) (.dat (.lit (.bool true))) (.tmp 65)))⟩,
            ⟨(some 67), none, (.op (.mov (.tmp 66)))⟩,
            ⟨(some 68), (some (67, false)), (.op (.mov (.tmp 0)))⟩,
            ⟨(some 69), (some (67, false)), (.op (.mov (.tmp 5)))⟩,
            ⟨(some 70), (some (67, false)), (.op (.index 5 (.tmp 68) (.tmp 69)))⟩,
            ⟨(some 71), (some (67, false)), (.op (.field 4 1 false (.tmp 70)))⟩,
            ⟨(some 72), (some (67, false)), (.op (.load 1 false (.tmp 71)))⟩,
            ⟨(some 73), (some (67, false)), (.op (.mov (.tmp 1)))⟩,
            ⟨(some 74), (some (67, false)), (.op (.mov (.tmp 5)))⟩,
            ⟨(some 75), (some (67, false)), (.op (.index 5 (.tmp 73) (.tmp 74)))⟩,
            ⟨(some 76), (some (67, false)), (.op (.field 4 1 false (.tmp 75)))⟩,
            ⟨(some 77), (some (67, false)), (.op (.load 1 false (.tmp 76)))⟩,
            ⟨(some 78), (some (67, false)), (.call (.dat (.fn (.func 51) [] [])) [(.tmp 72), (.tmp 77)])⟩,
            ⟨(some 79), (some (67, false)), (.op (.not (.tmp 78)))⟩,
            ⟨(some 80), none, (.op (.pick (.tmp 67) (.dat (.lit (.bool true))) (.tmp 79)))⟩])
          (.cond (.tmp 80)
            (.seq (.region none [
              ⟨(some 4), none, (.op (.mov (.dat (.lit (.bool false)))))⟩])
            .ret)
            .skip)))
        (.region none [
          ⟨(some 15), none, (.op (.mov (.tmp 5)))⟩,
          ⟨(some 16), none, (.op (.arith .add (.tmp 15) (.dat (.lit (.int .i64 1)))))⟩,
          ⟨(some 5), none, (.op (.mov (.tmp 16)))⟩]))))))
    (.seq (.region none [
      ⟨(some 4), none, (.op (.mov (.dat (.lit (.bool true)))))⟩])
    .ret))))
  res := [.tmp 4]
theorem c24 : CmpF Tryd.prog 24 a24 := chkF_cmp (F := Tryd.f24) (by kernel_rfl) mixed (by kernel_rfl)
/-- hansard/hansardref17.Check -/
def a25 : AF where
  nt := 24
  body := (.seq (.region none [
      ⟨(some 1), none, (.op (.box true (.tmp 0)))⟩,
      ⟨(some 2), none, (.op (.mov (.dat (.lit (.int .i64 0)))))⟩])
    (.seq (.seq (.region none [
      ⟨(some 3), none, (.op (.field 0 1 false (.tmp 1)))⟩,
      ⟨(some 4), none, (.op (.load 1 false (.tmp 3)))⟩,
      ⟨(some 5), none, (.op (.len (.tmp 4)))⟩,
      ⟨(some 6), none, (.op (.arith .gtr (.tmp 5) (.dat (.lit (.int .i64 4096)))))⟩])
    (.cond (.tmp 6)
      (.seq (.region none [
        ⟨(some 2), none, (.op (.mov (.dat (.lit (.int .i64 2)))))⟩])
      .ret)
      .skip))
    (.seq (.seq (.region none [
      ⟨(some 7), none, (.op (.field 1 1 false (.tmp 1)))⟩,
      ⟨(some 8), none, (.op (.load 1 false (.tmp 7)))⟩,
      ⟨(some 9), none, (.op (.arith .lss (.tmp 8) (.dat (.lit (.int .i64 0)))))⟩,
      ⟨(some 10), none, (.op (.mov (.tmp 9)))⟩,
      ⟨(some 11), (some (10, false)), (.op (.field 1 1 false (.tmp 1)))⟩,
      ⟨(some 12), (some (10, false)), (.op (.load 1 false (.tmp 11)))⟩,
      ⟨(some 13), (some (10, false)), (.op (.field 0 1 false (.tmp 1)))⟩,
      ⟨(some 14), (some (10, false)), (.op (.load 1 false (.tmp 13)))⟩,
      ⟨(some 15), (some (10, false)), (.op (.len (.tmp 14)))⟩,
      ⟨(some 16), (some (10, false)), (.op (.arith .gtr (.tmp 12) (.tmp 15)))⟩,
      ⟨(some 17), none, (.op (.pick (.tmp 10) (.dat (.lit (.bool true))) (.tmp 16)))⟩,
      ⟨(some 18), none, (.op (.mov (.tmp 17)))⟩,
      ⟨(some 19), (some (18, false)), (.op (.field 0 1 false (.tmp 1)))⟩,
      ⟨(some 20), (some (18, false)), (.op (.load 1 false (.tmp 19)))⟩,
      ⟨(some 21), (some (18, false)), (.call (.dat (.fn (.func 52) [] [])) [(.tmp 20)])⟩,
      ⟨(some 22), (some (18, false)), (.op (.not (.tmp 21)))⟩,
      ⟨(some 23), none, (.op (.pick (.tmp 18) (.dat (.lit (.bool true))) (.tmp 22)))⟩])
    (.cond (.tmp 23)
      (.seq (.region none [
        ⟨(some 2), none, (.op (.mov (.dat (.lit (.int .i64 170)))))⟩])
      .ret)
      .skip))
    (.seq (.region none [
      ⟨(some 2), none, (.op (.mov (.dat (.lit (.int .i64 0)))))⟩])
    .ret))))
  res := [.tmp 2]
theorem c25 : CmpF Tryd.prog 25 a25 := chkF_cmp (F := Tryd.f25) (by kernel_rfl) mixed (by kernel_rfl)
/-- hansard/hansardref19.Old -/
def a26 : AF where
  nt := 14
  body := (.seq (.region none [
      ⟨(some 3), none, (.op (.box true (.tmp 0)))⟩,
      ⟨(some 4), none, (.op (.box true (.tmp 1)))⟩,
      ⟨(some 6), none, (.op (.mov (.dat (.lit (.bool false)))))⟩])
    (.seq (.region none [
      ⟨(some 7), none, (.op (.field 2 1 false (.tmp 3)))⟩,
      ⟨(some 8), none, (.op (.load 1 false (.tmp 7)))⟩,
      ⟨(some 9), none, (.op (.field 0 1 false (.tmp 4)))⟩,
      ⟨(some 10), none, (.op (.load 1 false (.tmp 9)))⟩,
      ⟨(some 11), none, (.op (.arith .add (.tmp 8) (.tmp 10)))⟩,
      ⟨(some 12), none, (.op (.mov (.tmp 2)))⟩,
      ⟨(some 13), none, (.op (.arith .leq (.tmp 11) (.tmp 12)))⟩,
      ⟨(some 6), none, (.op (.mov (.tmp 13)))⟩])
    .ret))
  res := [.tmp 6]
theorem c26 : CmpF Tryd.prog 26 a26 := chkF_cmp (F := Tryd.f26) (by kernel_rfl) mixed (by kernel_rfl)
/-- hansard/stream.Check -/
def a36 : AF where
  nt := 5
  body := (.seq (.region none [
      ⟨(some 1), none, (.op (.box true (.tmp 0)))⟩,
      ⟨(some 2), none, (.op (.alloc false [.lit (.int .i64 0)]))⟩])
    (.seq (.sregion [
      ⟨none, none, (.defer (.dat (.fn (.func 47) [] [])) [(.tmp 2)])⟩])
    (.seq (.region none [
      ⟨(some 3), none, (.op (.load 2 true (.tmp 1)))⟩,
      ⟨(some 4), none, (.call (.dat (.fn (.func 48) [] [])) [(.tmp 3)])⟩])
    (.seq (.region none [
      ⟨none, none, (.op (.store 1 (.tmp 2) (.dat (.lit (.int .i64 0)))))⟩])
    .ret))))
  res := [.cell 2 1 false]
theorem c36 : CmpF Tryd.prog 36 a36 := chkF_cmp (F := Tryd.f36) (by kernel_rfl) mixed (by kernel_rfl)
/-- hansard/hansardlaw19.word -/
def a38 : AF where
  nt := 10
  body := (.seq (.region none [
      ⟨(some 4), none, (.op (.alloc true [.lit (.string ⟨#[]⟩), .lit (.int .i64 0), .lit (.int .i64 0), .lit (.int .i64 0), .nil 1]))⟩])
    (.seq (.region none [
      ⟨(some 5), none, (.op (.mov (.tmp 0)))⟩,
      ⟨(some 6), none, (.op (.mov (.tmp 1)))⟩,
      ⟨(some 7), none, (.op (.arith .sub (.tmp 6) (.dat (.lit (.int .i64 10)))))⟩,
      ⟨(some 8), none, (.op (.mov (.tmp 1)))⟩,
      ⟨(some 9), none, (.op (.build [.lit (.string ⟨#[]⟩), .lit (.int .i64 0), .lit (.int .i64 0), .lit (.int .i64 0), .nil 1] [(0, 1, (.tmp 5)), (1, 1, (.tmp 7)), (2, 1, (.tmp 8))]))⟩,
      ⟨none, none, (.op (.store 5 (.tmp 4) (.tmp 9)))⟩])
    .ret))
  res := [.cell 4 5 true]
theorem c38 : CmpF Tryd.prog 38 a38 := chkF_cmp (F := Tryd.f38) (by kernel_rfl) mixed (by kernel_rfl)
/-- hansard/permits.check -/
def a39 : AF where
  nt := 28
  body := (.seq (.region none [
      ⟨(some 3), none, (.op (.box true (.tmp 0)))⟩,
      ⟨(some 4), none, (.op (.box true (.tmp 1)))⟩,
      ⟨(some 6), none, (.op (.mov (.dat (.lit (.int .i64 0)))))⟩])
    (.seq (.seq (.region none [
      ⟨(some 7), none, (.op (.load 2 true (.tmp 3)))⟩,
      ⟨(some 8), none, (.call (.dat (.fn (.func 36) [] [])) [(.tmp 7)])⟩,
      ⟨(some 6), none, (.op (.mov (.tmp 8)))⟩])
    (.seq (.region none [
      ⟨(some 9), none, (.op (.mov (.tmp 6)))⟩,
      ⟨(some 10), none, (.op (.arith .neq (.tmp 9) (.dat (.lit (.int .i64 0)))))⟩])
    (.cond (.tmp 10)
      (.seq (.region none [
        ⟨(some 11), none, (.op (.mov (.tmp 6)))⟩,
        ⟨(some 6), none, (.op (.mov (.tmp 11)))⟩])
      .ret)
      .skip)))
    (.seq (.block 0
      (.seq (.region none [
        ⟨(some 13), none, (.op (.field 0 1 false (.tmp 4)))⟩,
        ⟨(some 14), none, (.op (.load 1 false (.tmp 13)))⟩,
        ⟨(some 15), none, (.op (.arith .lss (.tmp 14) (.dat (.lit (.int .i64 0)))))⟩,
        ⟨(some 16), none, (.op (.mov (.tmp 15)))⟩,
        ⟨(some 17), (some (16, false)), (.op (.field 0 1 false (.tmp 4)))⟩,
        ⟨(some 18), (some (16, false)), (.op (.load 1 false (.tmp 17)))⟩,
        ⟨(some 19), (some (16, false)), (.op (.arith .gtr (.tmp 18) (.dat (.lit (.int .i64 1073741824)))))⟩,
        ⟨(some 20), none, (.op (.pick (.tmp 16) (.dat (.lit (.bool true))) (.tmp 19)))⟩,
        ⟨(some 12), none, (.op (.mov (.tmp 20)))⟩])
      (.cond (.tmp 12)
        (.seq (.region none [
          ⟨(some 6), none, (.op (.mov (.dat (.lit (.int .i64 190)))))⟩])
        .ret)
        (.seq (.region none [
          ⟨(some 22), none, (.op (.mov (.tmp 2)))⟩,
          ⟨(some 23), none, (.op (.arith .lss (.tmp 22) (.dat (.lit (.int .i64 0)))))⟩,
          ⟨(some 24), none, (.op (.mov (.tmp 23)))⟩,
          ⟨(some 25), (some (24, false)), (.op (.mov (.tmp 2)))⟩,
          ⟨(some 26), (some (24, false)), (.op (.arith .geq (.tmp 25) (.dat (.lit (.int .i64 1099511627776)))))⟩,
          ⟨(some 27), none, (.op (.pick (.tmp 24) (.dat (.lit (.bool true))) (.tmp 26)))⟩,
          ⟨(some 21), none, (.op (.mov (.tmp 27)))⟩])
        (.cond (.tmp 21)
          (.seq (.region none [
            ⟨(some 6), none, (.op (.mov (.dat (.lit (.int .i64 1)))))⟩])
          .ret)
          .skip)))))
    (.seq (.region none [
      ⟨(some 6), none, (.op (.mov (.dat (.lit (.int .i64 0)))))⟩])
    .ret))))
  res := [.tmp 6]
theorem c39 : CmpF Tryd.prog 39 a39 := chkF_cmp (F := Tryd.f39) (by kernel_rfl) mixed (by kernel_rfl)
/-- hansard/permits.rules -/
def a40 : AF where
  nt := 9
  body := (.seq (.region none [
      ⟨(some 0), none, (.op (.alloc true [.lit (.nilFunc), .lit (.nilFunc), .lit (.nilFunc), .lit (.nilFunc)]))⟩])
    (.seq (.region none [
      ⟨(some 3), none, (.op (.build [.lit (.nilFunc)] [(0, 1, (.dat (.fn (.func 59) [] [])))]))⟩,
      ⟨(some 1), none, (.op (.alloc true [.lit (.nilFunc)]))⟩,
      ⟨none, none, (.op (.store 1 (.tmp 1) (.tmp 3)))⟩])
    (.seq (.region none [
      ⟨(some 4), none, (.op (.build [.lit (.nilFunc)] [(0, 1, (.dat (.fn (.func 60) [] [])))]))⟩,
      ⟨(some 2), none, (.op (.alloc true [.lit (.nilFunc)]))⟩,
      ⟨none, none, (.op (.store 1 (.tmp 2) (.tmp 4)))⟩])
    (.seq (.region none [
      ⟨(some 5), none, (.op (.load 1 true (.tmp 1)))⟩,
      ⟨(some 6), none, (.op (.load 1 true (.tmp 2)))⟩,
      ⟨(some 7), none, (.op (.load 1 true (.tmp 1)))⟩,
      ⟨(some 8), none, (.op (.build [.lit (.nilFunc), .lit (.nilFunc), .lit (.nilFunc), .lit (.nilFunc)] [(1, 1, (.tmp 5)), (2, 1, (.tmp 6)), (3, 1, (.tmp 7))]))⟩,
      ⟨none, none, (.op (.store 4 (.tmp 0) (.tmp 8)))⟩])
    .ret))))
  res := [.cell 0 4 true]
theorem c40 : CmpF Tryd.prog 40 a40 := chkF_cmp (F := Tryd.f40) (by kernel_rfl) mixed (by kernel_rfl)
/-- hansard/permits.isOld -/
def a41 : AF where
  nt := 6
  body := (.seq (.region none [
      ⟨(some 2), none, (.op (.box true (.tmp 0)))⟩,
      ⟨(some 3), none, (.op (.box false (.tmp 1)))⟩,
      ⟨(some 4), none, (.op (.mov (.dat (.lit (.nilFunc)))))⟩])
    (.seq (.region none [
      ⟨(some 5), none, (.op (.func (.func 62) [] [(.tmp 2), (.tmp 3)]))⟩,
      ⟨(some 4), none, (.op (.mov (.tmp 5)))⟩])
    .ret))
  res := [.tmp 4]
theorem c41 : CmpF Tryd.prog 41 a41 := chkF_cmp (F := Tryd.f41) (by kernel_rfl) mixed (by kernel_rfl)
/-- hansard/hansardref19.Error -/
def a42 : AF where
  nt := 27
  body := (.seq (.region none [
      ⟨(some 3), none, (.op (.box true (.tmp 0)))⟩,
      ⟨(some 4), none, (.op (.box true (.tmp 1)))⟩,
      ⟨(some 6), none, (.op (.mov (.dat (.lit (.int .i64 0)))))⟩])
    (.seq (.region none [
      ⟨(some 8), none, (.op (.load 2 true (.tmp 3)))⟩,
      ⟨(some 9), none, (.call (.dat (.fn (.func 25) [] [])) [(.tmp 8)])⟩,
      ⟨(some 7), none, (.op (.mov (.tmp 9)))⟩])
    (.seq (.seq (.region none [
      ⟨(some 10), none, (.op (.mov (.tmp 7)))⟩,
      ⟨(some 11), none, (.op (.arith .neq (.tmp 10) (.dat (.lit (.int .i64 0)))))⟩])
    (.cond (.tmp 11)
      (.seq (.region none [
        ⟨(some 12), none, (.op (.mov (.tmp 7)))⟩,
        ⟨(some 6), none, (.op (.mov (.tmp 12)))⟩])
      .ret)
      .skip))
    (.seq (.seq (.region none [
      ⟨(some 13), none, (.op (.field 0 1 false (.tmp 4)))⟩,
      ⟨(some 14), none, (.op (.load 1 false (.tmp 13)))⟩,
      ⟨(some 15), none, (.op (.arith .lss (.tmp 14) (.dat (.lit (.int .i64 0)))))⟩,
      ⟨(some 16), none, (.op (.mov (.tmp 15)))⟩,
      ⟨(some 17), (some (16, false)), (.op (.field 0 1 false (.tmp 4)))⟩,
      ⟨(some 18), (some (16, false)), (.op (.load 1 false (.tmp 17)))⟩,
      ⟨(some 19), (some (16, false)), (.op (.arith .gtr (.tmp 18) (.dat (.lit (.int .i64 1073741824)))))⟩,
      ⟨(some 20), none, (.op (.pick (.tmp 16) (.dat (.lit (.bool true))) (.tmp 19)))⟩])
    (.cond (.tmp 20)
      (.seq (.region none [
        ⟨(some 6), none, (.op (.mov (.dat (.lit (.int .i64 190)))))⟩])
      .ret)
      .skip))
    (.seq (.seq (.region none [
      ⟨(some 21), none, (.op (.mov (.tmp 2)))⟩,
      ⟨(some 22), none, (.op (.arith .lss (.tmp 21) (.dat (.lit (.int .i64 0)))))⟩,
      ⟨(some 23), none, (.op (.mov (.tmp 22)))⟩,
      ⟨(some 24), (some (23, false)), (.op (.mov (.tmp 2)))⟩,
      ⟨(some 25), (some (23, false)), (.op (.arith .geq (.tmp 24) (.dat (.lit (.int .i64 1099511627776)))))⟩,
      ⟨(some 26), none, (.op (.pick (.tmp 23) (.dat (.lit (.bool true))) (.tmp 25)))⟩])
    (.cond (.tmp 26)
      (.seq (.region none [
        ⟨(some 6), none, (.op (.mov (.dat (.lit (.int .i64 1)))))⟩])
      .ret)
      .skip))
    (.seq (.region none [
      ⟨(some 6), none, (.op (.mov (.dat (.lit (.int .i64 0)))))⟩])
    .ret))))))
  res := [.tmp 6]
theorem c42 : CmpF Tryd.prog 42 a42 := chkF_cmp (F := Tryd.f42) (by kernel_rfl) mixed (by kernel_rfl)
/-- hansard/hansardref17.Do -/
def a43 : AF where
  nt := 75
  body := (.seq (.region none [
      ⟨(some 2), none, (.op (.box true (.tmp 0)))⟩,
      ⟨(some 3), none, (.op (.box true (.tmp 1)))⟩,
      ⟨(some 4), none, (.op (.alloc true [.nil 5, .lit (.int .i64 0)]))⟩,
      ⟨(some 5), none, (.op (.mov (.dat (.lit (.int .i64 0)))))⟩])
    (.seq (.region none [
      ⟨(some 9), none, (.op (.load 2 true (.tmp 2)))⟩,
      ⟨(some 10), none, (.call (.dat (.fn (.func 25) [] [])) [(.tmp 9)])⟩,
      ⟨(some 6), none, (.op (.mov (.tmp 10)))⟩])
    (.seq (.seq (.region none [
      ⟨(some 11), none, (.op (.mov (.tmp 6)))⟩,
      ⟨(some 12), none, (.op (.arith .neq (.tmp 11) (.dat (.lit (.int .i64 0)))))⟩])
    (.cond (.tmp 12)
      (.seq (.region none [
        ⟨(some 13), none, (.op (.build [.nil 5, .lit (.int .i64 0)] []))⟩,
        ⟨(some 14), none, (.op (.mov (.tmp 6)))⟩,
        ⟨none, none, (.op (.store 2 (.tmp 4) (.tmp 13)))⟩,
        ⟨(some 5), none, (.op (.mov (.tmp 14)))⟩])
      .ret)
      .skip))
    (.seq (.seq (.region none [
      ⟨(some 15), none, (.op (.load 2 true (.tmp 2)))⟩,
      ⟨(some 16), none, (.op (.load 4 true (.tmp 3)))⟩,
      ⟨(some 17), none, (.call (.dat (.fn (.func 63) [] [])) [(.tmp 15), (.tmp 16)])⟩,
      ⟨(some 18), none, (.op (.not (.tmp 17)))⟩])
    (.cond (.tmp 18)
      (.seq (.region none [
        ⟨(some 19), none, (.op (.build [.nil 5, .lit (.int .i64 0)] []))⟩,
        ⟨none, none, (.op (.store 2 (.tmp 4) (.tmp 19)))⟩,
        ⟨(some 5), none, (.op (.mov (.dat (.lit (.int .i64 170)))))⟩])
      .ret)
      .skip))
    (.seq (.region none [
      ⟨(some 20), none, (.op (.field 1 1 false (.tmp 2)))⟩,
      ⟨(some 21), none, (.op (.load 1 false (.tmp 20)))⟩,
      ⟨(some 22), none, (.op (.build [.nil 5, .lit (.int .i64 0)] [(1, 1, (.tmp 21))]))⟩,
      ⟨(some 7), none, (.op (.alloc true [.nil 5, .lit (.int .i64 0)]))⟩,
      ⟨none, none, (.op (.store 2 (.tmp 7) (.tmp 22)))⟩])
    (.seq (.seq (.region none [
      ⟨(some 23), none, (.op (.field 0 1 false (.tmp 3)))⟩,
      ⟨(some 24), none, (.op (.load 1 false (.tmp 23)))⟩])
    (.block 0
      (.seq (.region none [
        ⟨(some 35), none, (.op (.arith .eql (.tmp 24) (.dat (.lit (.int .i64 1)))))⟩,
        ⟨(some 34), none, (.op (.mov (.tmp 35)))⟩])
      (.cond (.tmp 34)
        (.region (some [[], [0], [], [2], [0, 1, 2, 3], [], [5], [0, 1, 2, 3, 4, 5, 6], [0, 1, 2, 3, 4, 5, 6, 7], [0, 1, 2, 3, 4, 5, 6, 7, 8]]) [
          ⟨(some 36), none, (.op (.field 0 1 false (.tmp 7)))⟩,
          ⟨(some 37), none, (.op (.load 1 false (.tmp 36)))⟩,
          ⟨(some 38), none, (.op (.field 0 1 false (.tmp 2)))⟩,
          ⟨(some 39), none, (.op (.load 1 false (.tmp 38)))⟩,
          ⟨(some 40), none, (.op (.append 5 64 (.tmp 37) (.tmp 39)))⟩,
          ⟨(some 41), none, (.op (.field 3 1 false (.tmp 3)))⟩,
          ⟨(some 42), none, (.op (.load 1 false (.tmp 41)))⟩,
          ⟨(some 43), none, (.op (.append 5 64 (.tmp 40) (.tmp 42)))⟩,
          ⟨(some 44), none, (.op (.field 0 1 false (.tmp 7)))⟩,
          ⟨none, none, (.op (.store 1 (.tmp 44) (.tmp 43)))⟩])
        (.seq (.region none [
          ⟨(some 46), none, (.op (.arith .eql (.tmp 24) (.dat (.lit (.int .i64 2)))))⟩,
          ⟨(some 45), none, (.op (.mov (.tmp 46)))⟩])
        (.cond (.tmp 45)
          (.region (some [[], [0], [], [2], [], [4], [2, 3, 4, 5], [0, 1, 2, 3, 4, 5, 6], [], [8], [0, 1, 2, 3, 4, 5, 6, 7, 8, 9], [], [11], [], [13], [], [15], [13, 14, 15, 16], [11, 12, 13, 14, 15, 16, 17], [0, 1, 2, 3, 4, 5, 6, 7, 8, 9, 10, 11, 12, 13, 14, 15, 16, 17, 18], [0, 1, 2, 3, 4, 5, 6, 7, 8, 9, 10, 11, 12, 13, 14, 15, 16, 17, 18, 19], [0, 1, 2, 3, 4, 5, 6, 7, 8, 9, 10, 11, 12, 13, 14, 15, 16, 17, 18, 19, 20]]) [
            ⟨(some 47), none, (.op (.field 0 1 false (.tmp 7)))⟩,
            ⟨(some 48), none, (.op (.load 1 false (.tmp 47)))⟩,
            ⟨(some 49), none, (.op (.field 0 1 false (.tmp 2)))⟩,
            ⟨(some 50), none, (.op (.load 1 false (.tmp 49)))⟩,
            ⟨(some 51), none, (.op (.field 1 1 false (.tmp 3)))⟩,
            ⟨(some 52), none, (.op (.load 1 false (.tmp 51)))⟩,
            ⟨(some 53), none, (.op (.slice 5 (.tmp 50) none (some (.tmp 52))))⟩,
            ⟨(some 54), none, (.op (.append 5 64 (.tmp 48) (.tmp 53)))⟩,
            ⟨(some 55), none, (.op (.field 3 1 false (.tmp 3)))⟩,
            ⟨(some 56), none, (.op (.load 1 false (.tmp 55)))⟩,
            ⟨(some 57), none, (.op (.append 5 64 (.tmp 54) (.tmp 56)))⟩,
            ⟨(some 58), none, (.op (.field 0 1 false (.tmp 2)))⟩,
            ⟨(some 59), none, (.op (.load 1 false (.tmp 58)))⟩,
            ⟨(some 60), none, (.op (.field 1 1 false (.tmp 3)))⟩,
            ⟨(some 61), none, (.op (.load 1 false (.tmp 60)))⟩,
            ⟨(some 62), none, (.op (.field 2 1 false (.tmp 3)))⟩,
            ⟨(some 63), none, (.op (.load 1 false (.tmp 62)))⟩,
            ⟨(some 64), none, (.op (.arith .add (.tmp 61) (.tmp 63)))⟩,
            ⟨(some 65), none, (.op (.slice 5 (.tmp 59) (some (.tmp 64)) none))⟩,
            ⟨(some 66), none, (.op (.append 5 64 (.tmp 57) (.tmp 65)))⟩,
            ⟨(some 67), none, (.op (.field 0 1 false (.tmp 7)))⟩,
            ⟨none, none, (.op (.store 1 (.tmp 67) (.tmp 66)))⟩])
          (.seq (.region none [
            ⟨(some 25), none, (.op (.field 0 1 false (.tmp 7)))⟩,
            ⟨(some 26), none, (.op (.load 1 false (.tmp 25)))⟩,
            ⟨(some 27), none, (.op (.field 0 1 false (.tmp 2)))⟩,
            ⟨(some 28), none, (.op (.load 1 false (.tmp 27)))⟩,
            ⟨(some 29), none, (.op (.append 5 64 (.tmp 26) (.tmp 28)))⟩,
            ⟨(some 30), none, (.op (.field 0 1 false (.tmp 7)))⟩,
            ⟨none, none, (.op (.store 1 (.tmp 30) (.tmp 29)))⟩])
          (.region none [
            ⟨(some 31), none, (.op (.field 1 1 false (.tmp 3)))⟩,
            ⟨(some 32), none, (.op (.load 1 false (.tmp 31)))⟩,
            ⟨(some 33), none, (.op (.field 1 1 false (.tmp 7)))⟩,
            ⟨none, none, (.op (.store 1 (.tmp 33) (.tmp 32)))⟩]))))))))
    (.seq (.region none [
      ⟨(some 68), none, (.op (.load 2 true (.tmp 7)))⟩,
      ⟨(some 69), none, (.call (.dat (.fn (.func 25) [] [])) [(.tmp 68)])⟩,
      ⟨(some 8), none, (.op (.mov (.tmp 69)))⟩])
    (.seq (.seq (.region none [
      ⟨(some 70), none, (.op (.mov (.tmp 8)))⟩,
      ⟨(some 71), none, (.op (.arith .neq (.tmp 70) (.dat (.lit (.int .i64 0)))))⟩])
    (.cond (.tmp 71)
      (.seq (.region none [
        ⟨(some 72), none, (.op (.build [.nil 5, .lit (.int .i64 0)] []))⟩,
        ⟨(some 73), none, (.op (.mov (.tmp 8)))⟩,
        ⟨none, none, (.op (.store 2 (.tmp 4) (.tmp 72)))⟩,
        ⟨(some 5), none, (.op (.mov (.tmp 73)))⟩])
      .ret)
      .skip))
    (.seq (.region none [
      ⟨(some 74), none, (.op (.load 2 true (.tmp 7)))⟩,
      ⟨none, none, (.op (.store 2 (.tmp 4) (.tmp 74)))⟩,
      ⟨(some 5), none, (.op (.mov (.dat (.lit (.int .i64 0)))))⟩])
    .ret)))))))))
  res := [.cell 4 2 true, .tmp 5]
theorem c43 : CmpF Tryd.prog 43 a43 := chkF_cmp (F := Tryd.f43) (by kernel_rfl) mixed (by kernel_rfl)
/-- hansard/hansardref19.old -/
def a44 : AF where
  nt := 21
  body := (.seq (.region none [
      ⟨(some 4), none, (.op (.box true (.tmp 1)))⟩,
      ⟨(some 6), none, (.op (.mov (.dat (.lit (.bool false)))))⟩])
    (.seq (.seq (.region none [
      ⟨(some 7), none, (.op (.mov (.dat (.lit (.int .i64 0)))))⟩])
    (.block 0
      (.loop
        (.seq (.seq (.region none [
          ⟨(some 8), none, (.op (.mov (.tmp 7)))⟩,
          ⟨(some 9), none, (.op (.mov (.tmp 0)))⟩,
          ⟨(some 10), none, (.op (.len (.tmp 9)))⟩,
          ⟨(some 11), none, (.op (.arith .lss (.tmp 8) (.tmp 10)))⟩])
        (.cond (.tmp 11)
          .skip
          (.exit 0)))
        (.seq (.block 1
          (.seq (.region (some [[], [], [0, 1], [0, 1, 2], [], [], [0, 1, 2, 3, 4, 5]]) [
            ⟨(some 14), none, (.op (.mov (.tmp 0)))⟩,
            ⟨(some 15), none, (.op (.mov (.tmp 7)))⟩,
            ⟨(some 16), none, (.op (.index 5 (.tmp 14) (.tmp 15)))⟩,
            ⟨(some 17), none, (.op (.load 5 true (.tmp 16)))⟩,
            ⟨(some 18), none, (.op (.load 1 true (.tmp 4)))⟩,
            ⟨(some 19), none, (.op (.mov (.tmp 2)))⟩,
            ⟨(some 20), none, (.call (.dat (.fn (.func 26) [] [])) [(.tmp 17), (.tmp 18), (.tmp 19)])⟩])
          (.cond (.tmp 20)
            (.seq (.region none [
              ⟨(some 6), none, (.op (.mov (.dat (.lit (.bool true)))))⟩])
            .ret)
            .skip)))
        (.region none [
          ⟨(some 12), none, (.op (.mov (.tmp 7)))⟩,
          ⟨(some 13), none, (.op (.arith .add (.tmp 12) (.dat (.lit (.int .i64 1)))))⟩,
          ⟨(some 7), none, (.op (.mov (.tmp 13)))⟩]))))))
    (.seq (.region none [
      ⟨(some 6), none, (.op (.mov (.dat (.lit (.bool false)))))⟩])
    .ret)))
  res := [.tmp 6]
theorem c44 : CmpF Tryd.prog 44 a44 := chkF_cmp (F := Tryd.f44) (by kernel_rfl) mixed (by kernel_rfl)
/-- hansard/permits.back -/
def a45 : AF where
  nt := 5
  body := (.seq (.region none [
      ⟨(some 2), none, (.op (.mov (.dat (.lit (.nilFunc)))))⟩])
    (.seq (.region none [
      ⟨(some 3), none, (.op (.mov (.tmp 0)))⟩,
      ⟨(some 4), none, (.call (.dat (.fn (.func 64) [] [])) [(.tmp 3)])⟩,
      ⟨(some 2), none, (.op (.mov (.tmp 4)))⟩])
    .ret))
  res := [.tmp 2]
theorem c45 : CmpF Tryd.prog 45 a45 := chkF_cmp (F := Tryd.f45) (by kernel_rfl) mixed (by kernel_rfl)
/-- hansard/stream.Do$1 -/
def a46 : AF where
  nt := 5
  body := (.seq (.region none [
      ⟨(some 2), none, (.op (.load 1 false (.tmp 0)))⟩,
      ⟨(some 3), none, (.op (.arith .neq (.tmp 2) (.dat (.lit (.int .i64 0)))))⟩])
    (.cond (.tmp 3)
      (.region none [
        ⟨(some 4), none, (.op (.build [.nil 5, .lit (.int .i64 0)] []))⟩,
        ⟨none, none, (.op (.store 2 (.tmp 1) (.tmp 4)))⟩])
      .skip))
  res := []
theorem c46 : CmpF Tryd.prog 46 a46 := chkF_cmp (F := Tryd.f46) (by kernel_rfl) mixed (by kernel_rfl)
/-- hansard/stream.caught -/
def a47 : AR where
  nt := 19
  ta := 5
  tb := 2
  rest := (.seq (.region none [
      ⟨(some 6), none, (.op (.mov (.tmp 2)))⟩,
      ⟨(some 7), none, (.op (.ext (.isNil true) [(.tmp 6)]))⟩])
    (.cond (.tmp 7)
      (.seq (.region none [
        ⟨(some 9), none, (.op (.mov (.tmp 2)))⟩,
        ⟨(some 10), none, (.op (.ext (.tassert 31 (.lit (.int .i64 0))) [(.tmp 9)]))⟩,
        ⟨(some 8), none, (.op (.mov (.tmp 10)))⟩,
        ⟨(some 11), none, (.op (.extract (.tmp 8) 0))⟩,
        ⟨(some 12), none, (.op (.extract (.tmp 8) 1))⟩,
        ⟨(some 3), none, (.op (.mov (.tmp 11)))⟩,
        ⟨(some 4), none, (.op (.mov (.tmp 12)))⟩])
      (.seq (.seq (.region none [
        ⟨(some 13), none, (.op (.mov (.tmp 4)))⟩,
        ⟨(some 14), none, (.op (.not (.tmp 13)))⟩])
      (.cond (.tmp 14)
        (.sregion [
          ⟨(some 15), none, (.op (.mov (.tmp 2)))⟩,
          ⟨none, none, (.panic (.tmp 15))⟩])
        .skip))
      (.region none [
        ⟨(some 16), none, (.op (.mov (.tmp 0)))⟩,
        ⟨(some 17), none, (.op (.mov (.tmp 3)))⟩,
        ⟨(some 18), none, (.op (.ext .nilChk [(.tmp 16)]))⟩,
        ⟨none, none, (.op (.store 1 (.tmp 18) (.tmp 17)))⟩])))
      .skip))
  res := []
theorem c47 : CmpRF Tryd.prog 47 a47 := chkRF_cmp (F := Tryd.f47) (by kernel_rfl) mixed (by kernel_rfl)
/-- hansard/stream.check -/
def a48 : AF where
  nt := 41
  body := (.seq (.region none [
      ⟨(some 1), none, (.op (.box true (.tmp 0)))⟩])
    (.seq (.region none [
      ⟨(some 5), none, (.op (.field 0 1 false (.tmp 1)))⟩,
      ⟨(some 6), none, (.op (.load 1 false (.tmp 5)))⟩,
      ⟨(some 7), none, (.op (.len (.tmp 6)))⟩,
      ⟨(some 8), none, (.op (.arith .leq (.tmp 7) (.dat (.lit (.int .i64 4096)))))⟩,
      ⟨(some 9), none, (.call (.dat (.fn (.func 50) [] [])) [(.tmp 8), (.dat (.lit (.int .i64 2)))])⟩])
    (.seq (.region none [
      ⟨(some 10), none, (.op (.field 1 1 false (.tmp 1)))⟩,
      ⟨(some 11), none, (.op (.load 1 false (.tmp 10)))⟩,
      ⟨(some 12), none, (.op (.arith .geq (.tmp 11) (.dat (.lit (.int .i64 0)))))⟩,
      ⟨(some 13), none, (.op (.mov (.tmp 12)))⟩,
      ⟨(some 14), (some (13, true)), (.op (.field 1 1 false (.tmp 1)))⟩,
      ⟨(some 15), (some (13, true)), (.op (.load 1 false (.tmp 14)))⟩,
      ⟨(some 16), (some (13, true)), (.op (.field 0 1 false (.tmp 1)))⟩,
      ⟨(some 17), (some (13, true)), (.op (.load 1 false (.tmp 16)))⟩,
      ⟨(some 18), (some (13, true)), (.op (.len (.tmp 17)))⟩,
      ⟨(some 19), (some (13, true)), (.op (.arith .leq (.tmp 15) (.tmp 18)))⟩,
      ⟨(some 20), none, (.op (.pick (.tmp 13) (.tmp 19) (.dat (.lit (.bool false)))))⟩,
      ⟨(some 21), none, (.call (.dat (.fn (.func 50) [] [])) [(.tmp 20), (.dat (.lit (.int .i64 170)))])⟩])
    (.seq (.region none [
      ⟨(some 2), none, (.op (.mov (.dat (.lit (.int .i64 0)))))⟩])
    (.seq (.region none [
      ⟨(some 22), none, (.op (.field 0 1 false (.tmp 1)))⟩,
      ⟨(some 23), none, (.op (.load 1 false (.tmp 22)))⟩,
      ⟨(some 24), none, (.op (.len (.tmp 23)))⟩,
      ⟨(some 25), none, (.op (.mov (.dat (.lit (.int .i64 0)))))⟩])
    (.block 0
      (.loop
        (.seq (.region none [
          ⟨(some 26), none, (.op (.arith .lss (.tmp 25) (.tmp 24)))⟩])
        (.seq (.cond (.tmp 26)
          .skip
          (.exit 0))
        (.seq (.block 1
          (.seq (.region none [
            ⟨(some 27), none, (.op (.index 5 (.tmp 23) (.tmp 25)))⟩,
            ⟨(some 28), none, (.op (.load 5 true (.tmp 27)))⟩,
            ⟨(some 4), none, (.op (.alloc true [.lit (.string ⟨#[]⟩), .lit (.int .i64 0), .lit (.int .i64 0), .lit (.int .i64 0), .nil 1]))⟩,
            ⟨none, none, (.op (.store 5 (.tmp 4) (.tmp 28)))⟩])
          (.seq (.region none [
            ⟨(some 29), none, (.op (.load 5 true (.tmp 4)))⟩,
            ⟨(some 30), none, (.call (.dat (.fn (.func 65) [] [])) [(.tmp 29)])⟩,
            ⟨(some 31), none, (.op (.mov (.tmp 30)))⟩,
            ⟨(some 32), (some (31, true)), (.op (.field 1 1 false (.tmp 4)))⟩,
            ⟨(some 33), (some (31, true)), (.op (.load 1 false (.tmp 32)))⟩,
            ⟨(some 34), (some (31, true)), (.op (.mov (.tmp 2)))⟩,
            ⟨(some 35), (some (31, true)), (.op (.arith .geq (.tmp 33) (.tmp 34)))⟩,
            ⟨(some 36), none, (.op (.pick (.tmp 31) (.tmp 35) (.dat (.lit (.bool false)))))⟩,
            ⟨(some 37), none, (.call (.dat (.fn (.func 50) [] [])) [(.tmp 36), (.dat (.lit (.int .i64 170)))])⟩])
          (.region none [
            ⟨(some 38), none, (.op (.field 1 1 false (.tmp 4)))⟩,
            ⟨(some 39), none, (.op (.load 1 false (.tmp 38)))⟩,
            ⟨(some 2), none, (.op (.mov (.tmp 39)))⟩]))))
        (.region none [
          ⟨(some 40), none, (.op (.arith .add (.tmp 25) (.dat (.lit (.int .i64 1)))))⟩,
          ⟨(some 25), none, (.op (.mov (.tmp 40)))⟩])))))))))))
  res := []
theorem c48 : CmpF Tryd.prog 48 a48 := chkF_cmp (F := Tryd.f48) (by kernel_rfl) mixed (by kernel_rfl)
/-- hansard/stream.kinds -/
def a49 : AF where
  nt := 6
  body := (.seq (.region none [
      ⟨(some 0), none, (.op (.mov (.dat (.lit (.map none)))))⟩])
    (.seq (.region none [
      ⟨(some 1), none, (.op (.ext .mkmap []))⟩,
      ⟨(some 2), none, (.op (.build [.lit (.nilFunc), .lit (.nilFunc)] [(0, 1, (.dat (.fn (.func 66) [] []))), (1, 1, (.dat (.fn (.func 67) [] [])))]))⟩,
      ⟨none, none, (.op (.ext (.insert (.int .i64)) [(.tmp 1), (.dat (.lit (.int .i64 1))), (.tmp 2)]))⟩,
      ⟨(some 3), none, (.op (.build [.lit (.nilFunc), .lit (.nilFunc)] [(0, 1, (.dat (.fn (.func 69) [] []))), (1, 1, (.dat (.fn (.func 72) [] [])))]))⟩,
      ⟨none, none, (.op (.ext (.insert (.int .i64)) [(.tmp 1), (.dat (.lit (.int .i64 2))), (.tmp 3)]))⟩,
      ⟨(some 4), none, (.op (.build [.lit (.nilFunc), .lit (.nilFunc)] [(0, 1, (.dat (.fn (.func 73) [] []))), (1, 1, (.dat (.fn (.func 74) [] [])))]))⟩,
      ⟨none, none, (.op (.ext (.insert (.int .i64)) [(.tmp 1), (.dat (.lit (.int .i64 3))), (.tmp 4)]))⟩,
      ⟨(some 5), none, (.op (.mov (.tmp 1)))⟩,
      ⟨(some 0), none, (.op (.mov (.tmp 5)))⟩])
    .ret))
  res := [.tmp 0]
theorem c49 : CmpF Tryd.prog 49 a49 := chkF_cmp (F := Tryd.f49) (by kernel_rfl) mixed (by kernel_rfl)
/-- hansard/stream.need -/
def a50 : AF where
  nt := 8
  body := (.seq (.region none [
      ⟨(some 4), none, (.op (.mov (.tmp 0)))⟩,
      ⟨(some 5), none, (.op (.not (.tmp 4)))⟩])
    (.cond (.tmp 5)
      (.sregion [
        ⟨(some 6), none, (.op (.mov (.tmp 1)))⟩,
        ⟨(some 7), none, (.op (.ifc 31 (.tmp 6)))⟩,
        ⟨none, none, (.panic (.tmp 7))⟩])
      .skip))
  res := []
theorem c50 : CmpF Tryd.prog 50 a50 := chkF_cmp (F := Tryd.f50) (by kernel_rfl) mixed (by kernel_rfl)
/-- hansard/hansardref19.SameText -/
def a51 : AF where
  nt := 26
  body := (.seq (.region none [
      ⟨(some 4), none, (.op (.mov (.dat (.lit (.bool false)))))⟩])
    (.seq (.seq (.region none [
      ⟨(some 6), none, (.op (.mov (.tmp 0)))⟩,
      ⟨(some 7), none, (.op (.len (.tmp 6)))⟩,
      ⟨(some 8), none, (.op (.mov (.tmp 1)))⟩,
      ⟨(some 9), none, (.op (.len (.tmp 8)))⟩,
      ⟨(some 10), none, (.op (.arith .neq (.tmp 7) (.tmp 9)))⟩])
    (.cond (.tmp 10)
      (.seq (.region none [
        ⟨(some 4), none, (.op (.mov (.dat (.lit (.bool false)))))⟩])
      .ret)
      .skip))
    (.seq (.seq (.region none [
      ⟨(some 5), none, (.op (.mov (.dat (.lit (.int .i64 0)))))⟩])
    (.block 0
      (.loop
        (.seq (.seq (.region none [
          ⟨(some 11), none, (.op (.mov (.tmp 5)))⟩,
          ⟨(some 12), none, (.op (.mov (.tmp 0)))⟩,
          ⟨(some 13), none, (.op (.len (.tmp 12)))⟩,
          ⟨(some 14), none, (.op (.arith .lss (.tmp 11) (.tmp 13)))⟩])
        (.cond (.tmp 14)
          .skip
          (.exit 0)))
        (.seq (.block 1
          (.seq (.region (some [[], [], [0, 1], [0, 1, 2], [], [], [4, 5], [4, 5, 6], [0, 1, 2, 3, 4, 5, 6, 7]]) [
            ⟨(some 17), none, (.op (.mov (.tmp 0)))⟩,
            ⟨(some 18), none, (.op (.mov (.tmp 5)))⟩,
            ⟨(some 19), none, (.op (.index 1 (.tmp 17) (.tmp 18)))⟩,
            ⟨(some 20), none, (.op (.load 1 false (.tmp 19)))⟩,
            ⟨(some 21), none, (.op (.mov (.tmp 1)))⟩,
            ⟨(some 22), none, (.op (.mov (.tmp 5)))⟩,
            ⟨(some 23), none, (.op (.index 1 (.tmp 21) (.tmp 22)))⟩,
            ⟨(some 24), none, (.op (.load 1 false (.tmp 23)))⟩,
            ⟨(some 25), none, (.op (.arith .neq (.tmp 20) (.tmp 24)))⟩])
          (.cond (.tmp 25)
            (.seq (.region none [
              ⟨(some 4), none, (.op (.mov (.dat (.lit (.bool false)))))⟩])
            .ret)
            .skip)))
        (.region none [
          ⟨(some 15), none, (.op (.mov (.tmp 5)))⟩,
          ⟨(some 16), none, (.op (.arith .add (.tmp 15) (.dat (.lit (.int .i64 1)))))⟩,
          ⟨(some 5), none, (.op (.mov (.tmp 16)))⟩]))))))
    (.seq (.region none [
      ⟨(some 4), none, (.op (.mov (.dat (.lit (.bool true)))))⟩])
    .ret))))
  res := [.tmp 4]
theorem c51 : CmpF Tryd.prog 51 a51 := chkF_cmp (F := Tryd.f51) (by kernel_rfl) mixed (by kernel_rfl)
/-- hansard/hansardref17.Words -/
def a52 : AF where
  nt := 34
  body := (.seq (.region none [
      ⟨(some 2), none, (.op (.mov (.dat (.lit (.bool false)))))⟩])
    (.seq (.seq (.region none [
      ⟨(some 3), none, (.op (.mov (.dat (.lit (.int .i64 0)))))⟩])
    (.block 0
      (.loop
        (.seq (.seq (.region none [
          ⟨(some 4), none, (.op (.mov (.tmp 3)))⟩,
          ⟨(some 5), none, (.op (.mov (.tmp 0)))⟩,
          ⟨(some 6), none, (.op (.len (.tmp 5)))⟩,
          ⟨(some 7), none, (.op (.arith .lss (.tmp 4) (.tmp 6)))⟩])
        (.cond (.tmp 7)
          .skip
          (.exit 0)))
        (.seq (.block 1
          (.seq (.region (some [[], [], [0, 1], [0, 1, 2], [0, 1, 2, 3], [0, 1, 2, 3, 4], [0, 1, 2, 3, 4, 5], [0, 1, 2, 3, 4, 5, 6], [0, 1, 2, 3, 4, 5, 6, 7], [0, 1, 2, 3, 4, 5, 6, 7, 8], [0, 1, 2, 3, 4, 5, 6, 7, 8, 9], [0, 1, 2, 3, 4, 5, 6, 7, 8, 9], [0, 1, 2, 3, 4, 5, 6, 7, 8, 9, 10, 11], [0, 1, 2, 3, 4, 5, 6, 7, 8, 9, 10, 11, 12], [0, 1, 2, 3, 4, 5, 6, 7, 8, 9, 10, 11, 12, 13], [0, 1, 2, 3, 4, 5, 6, 7, 8, 9], [0, 1, 2, 3, 4, 5, 6, 7, 8, 9], [0, 1, 2, 3, 4, 5, 6, 7, 8, 9, 16], [0, 1, 2, 3, 4, 5, 6, 7, 8, 9, 15, 16, 17], [0, 1, 2, 3, 4, 5, 6, 7, 8, 9, 15, 16, 17, 18], [0, 1, 2, 3, 4, 5, 6, 7, 8, 9, 15, 16, 17, 18, 19], [0, 1, 2, 3, 4, 5, 6, 7, 8, 9, 10, 11, 12, 13, 14, 15, 16, 17, 18, 19, 20], [0, 1, 2, 3, 4, 5, 6, 7, 8, 9, 10, 11, 12, 13, 14, 15, 16, 17, 18, 19, 20, 21], [0, 1, 2, 3, 4, 5, 6, 7, 8, 9, 10, 11, 12, 13, 14, 15, 16, 17, 18, 19, 20, 21, 22]]) [
            ⟨(some 10), none, (.op (.mov (.tmp 0)))⟩,
            ⟨(some 11), none, (.op (.mov (.tmp 3)))⟩,
            ⟨(some 12), none, (.op (.index 5 (.tmp 10) (.tmp 11)))⟩,
            ⟨(some 13), none, (.op (.load 5 true (.tmp 12)))⟩,
            ⟨(some 14), none, (.call (.dat (.fn (.func 75) [] [])) [(.tmp 13)])⟩,
            ⟨(some 15), none, (.op (.not (.tmp 14)))⟩,
            ⟨(some 16), none, (.op (.mov (.tmp 15)))⟩,
            ⟨(some 17), (some (16, false)), (.op (.mov (.tmp 3)))⟩,
            ⟨(some 18), (some (16, false)), (.op (.arith .gtr (.tmp 17) (.dat (.lit (.int .i64 0)))))⟩,
            ⟨(some 19), (some (16, false)), (.op (.mov (.tmp 18)))⟩,
            ⟨(some 20), (some (19, true)), (.op (.mov (.tmp 0)))⟩,
            ⟨(some 21), (some (19, true)), (.op (.mov (.tmp 3)))⟩,
            ⟨(some 22), (some (19, true)), (.op (.index 5 (.tmp 20) (.tmp 21)))⟩,
            ⟨(some 23), (some (19, true)), (.op (.field 1 1 false (.tmp 22)))⟩,
            ⟨(some 24), (some (19, true)), (.op (.load 1 false (.tmp 23)))⟩,
            ⟨(some 25), (some (19, true)), (.op (.mov (.tmp 0)))⟩,
            ⟨(some 26), (some (19, true)), (.op (.mov (.tmp 3)))⟩,
            ⟨(some 27), (some (19, true)), (.op (.arith .sub (.tmp 26) (.dat (.lit (.int .i64 1)))))⟩,
            ⟨(some 28), (some (19, true)), (.op (.index 5 (.tmp 25) (.tmp 27)))⟩,
            ⟨(some 29), (some (19, true)), (.op (.field 1 1 false (.tmp 28)))⟩,
            ⟨(some 30), (some (19, true)), (.op (.load 1 false (.tmp 29)))⟩,
            ⟨(some 31), (some (19, true)), (.op (.arith .lss (.tmp 24) (.tmp 30)))⟩,
            ⟨(some 32), (some (16, false)), (.op (.pick (.tmp 19) (.tmp 31) (.dat (.lit (.bool false)))))⟩,
            ⟨(some 33), none, (.op (.pick (.tmp 16) (.dat (.lit (.bool true))) (.tmp 32)))⟩])
          (.cond (.tmp 33)
            (.seq (.region none [
              ⟨(some 2), none, (.op (.mov (.dat (.lit (.bool false)))))⟩])
            .ret)
            .skip)))
        (.region none [
          ⟨(some 8), none, (.op (.mov (.tmp 3)))⟩,
          ⟨(some 9), none, (.op (.arith .add (.tmp 8) (.dat (.lit (.int .i64 1)))))⟩,
          ⟨(some 3), none, (.op (.mov (.tmp 9)))⟩]))))))
    (.seq (.region none [
      ⟨(some 2), none, (.op (.mov (.dat (.lit (.bool true)))))⟩])
    .ret)))
  res := [.tmp 2]
theorem c52 : CmpF Tryd.prog 52 a52 := chkF_cmp (F := Tryd.f52) (by kernel_rfl) mixed (by kernel_rfl)
/-- hansard/permits.rules$1 -/
def a59 : AF where
  nt := 7
  body := (.seq (.region none [
      ⟨(some 3), none, (.op (.box true (.tmp 0)))⟩,
      ⟨(some 4), none, (.op (.box true (.tmp 1)))⟩,
      ⟨(some 6), none, (.op (.mov (.dat (.lit (.bool false)))))⟩])
    (.seq (.region none [
      ⟨(some 6), none, (.op (.mov (.dat (.lit (.bool true)))))⟩])
    .ret))
  res := [.tmp 6]
theorem c59 : CmpF Tryd.prog 59 a59 := chkF_cmp (F := Tryd.f59) (by kernel_rfl) mixed (by kernel_rfl)
/-- hansard/permits.rules$2 -/
def a60 : AF where
  nt := 22
  body := (.seq (.region none [
      ⟨(some 3), none, (.op (.box true (.tmp 0)))⟩,
      ⟨(some 4), none, (.op (.box true (.tmp 1)))⟩,
      ⟨(some 6), none, (.op (.mov (.dat (.lit (.bool false)))))⟩])
    (.seq (.region none [
      ⟨(some 7), none, (.op (.field 0 1 false (.tmp 3)))⟩,
      ⟨(some 8), none, (.op (.load 1 false (.tmp 7)))⟩,
      ⟨(some 9), none, (.op (.field 1 1 false (.tmp 4)))⟩,
      ⟨(some 10), none, (.op (.load 1 false (.tmp 9)))⟩,
      ⟨(some 11), none, (.op (.slice 5 (.tmp 8) (some (.tmp 10)) none))⟩,
      ⟨(some 12), none, (.op (.mov (.tmp 2)))⟩,
      ⟨(some 13), none, (.call (.dat (.fn (.func 61) [] [])) [(.tmp 11), (.tmp 12)])⟩,
      ⟨(some 14), none, (.op (.not (.tmp 13)))⟩,
      ⟨(some 15), none, (.op (.mov (.tmp 14)))⟩,
      ⟨(some 16), (some (15, true)), (.op (.field 3 1 false (.tmp 4)))⟩,
      ⟨(some 17), (some (15, true)), (.op (.load 1 false (.tmp 16)))⟩,
      ⟨(some 18), (some (15, true)), (.op (.mov (.tmp 2)))⟩,
      ⟨(some 19), (some (15, true)), (.call (.dat (.fn (.func 61) [] [])) [(.tmp 17), (.tmp 18)])⟩,
      ⟨(some 20), (some (15, true)), (.op (.not (.tmp 19)))⟩,
      ⟨(some 21), none, (.op (.pick (.tmp 15) (.tmp 20) (.dat (.lit (.bool false)))))⟩,
      ⟨(some 6), none, (.op (.mov (.tmp 21)))⟩])
    .ret))
  res := [.tmp 6]
theorem c60 : CmpF Tryd.prog 60 a60 := chkF_cmp (F := Tryd.f60) (by kernel_rfl) mixed (by kernel_rfl)
/-- slices.ContainsFunc(()hansard/api.Word,hansard/api.Word) -/
def a61 : AF where
  nt := 9
  body := (.seq (.region none [
      ⟨(some 4), none, (.op (.mov (.dat (.lit (.bool false)))))⟩])
    (.seq (.region none [
      ⟨(some 5), none, (.op (.mov (.tmp 0)))⟩,
      ⟨(some 6), none, (.op (.mov (.tmp 1)))⟩,
      ⟨(some 7), none, (.call (.dat (.fn (.func 79) [] [])) [(.tmp 5), (.tmp 6)])⟩,
      ⟨(some 8), none, (.op (.arith .geq (.tmp 7) (.dat (.lit (.int .i64 0)))))⟩,
      ⟨(some 4), none, (.op (.mov (.tmp 8)))⟩])
    .ret))
  res := [.tmp 4]
theorem c61 : CmpF Tryd.prog 61 a61 := chkF_cmp (F := Tryd.f61) (by kernel_rfl) mixed (by kernel_rfl)
/-- hansard/permits.isOld$1 -/
def a62 : AF where
  nt := 12
  body := (.seq (.region none [
      ⟨(some 3), none, (.op (.box true (.tmp 0)))⟩,
      ⟨(some 4), none, (.op (.mov (.dat (.lit (.bool false)))))⟩])
    (.seq (.region none [
      ⟨(some 5), none, (.op (.field 2 1 false (.tmp 3)))⟩,
      ⟨(some 6), none, (.op (.load 1 false (.tmp 5)))⟩,
      ⟨(some 7), none, (.op (.field 0 1 false (.tmp 1)))⟩,
      ⟨(some 8), none, (.op (.load 1 false (.tmp 7)))⟩,
      ⟨(some 9), none, (.op (.arith .add (.tmp 6) (.tmp 8)))⟩,
      ⟨(some 10), none, (.op (.load 1 false (.tmp 2)))⟩,
      ⟨(some 11), none, (.op (.arith .leq (.tmp 9) (.tmp 10)))⟩,
      ⟨(some 4), none, (.op (.mov (.tmp 11)))⟩])
    .ret))
  res := [.tmp 4]
theorem c62 : CmpF Tryd.prog 62 a62 := chkF_cmp (F := Tryd.f62) (by kernel_rfl) mixed (by kernel_rfl)
/-- hansard/hansardref17.Allowed -/
def a63 : AF where
  nt := 109
  body := (.seq (.region none [
      ⟨(some 2), none, (.op (.box true (.tmp 0)))⟩,
      ⟨(some 3), none, (.op (.box true (.tmp 1)))⟩,
      ⟨(some 4), none, (.op (.mov (.dat (.lit (.bool false)))))⟩])
    (.seq (.region none [
      ⟨(some 6), none, (.op (.field 0 1 false (.tmp 2)))⟩,
      ⟨(some 7), none, (.op (.load 1 false (.tmp 6)))⟩,
      ⟨(some 8), none, (.op (.len (.tmp 7)))⟩,
      ⟨(some 5), none, (.op (.mov (.tmp 8)))⟩])
    (.seq (.seq (.region none [
      ⟨(some 9), none, (.op (.field 0 1 false (.tmp 3)))⟩,
      ⟨(some 10), none, (.op (.load 1 false (.tmp 9)))⟩])
    (.block 0
      (.seq (.region none [
        ⟨(some 12), none, (.op (.arith .eql (.tmp 10) (.dat (.lit (.int .i64 1)))))⟩,
        ⟨(some 11), none, (.op (.mov (.tmp 12)))⟩])
      (.cond (.tmp 11)
        (.seq (.region none [
          ⟨(some 13), none, (.op (.field 1 1 false (.tmp 3)))⟩,
          ⟨(some 14), none, (.op (.load 1 false (.tmp 13)))⟩,
          ⟨(some 15), none, (.op (.arith .eql (.tmp 14) (.dat (.lit (.int .i64 0)))))⟩,
          ⟨(some 16), none, (.op (.mov (.tmp 15)))⟩,
          ⟨(some 17), (some (16, true)), (.op (.field 2 1 false (.tmp 3)))⟩,
          ⟨(some 18), (some (16, true)), (.op (.load 1 false (.tmp 17)))⟩,
          ⟨(some 19), (some (16, true)), (.op (.arith .eql (.tmp 18) (.dat (.lit (.int .i64 0)))))⟩,
          ⟨(some 20), none, (.op (.pick (.tmp 16) (.tmp 19) (.dat (.lit (.bool false)))))⟩,
          ⟨(some 21), none, (.op (.mov (.tmp 20)))⟩,
          ⟨(some 22), (some (21, true)), (.op (.field 3 1 false (.tmp 3)))⟩,
          ⟨(some 23), (some (21, true)), (.op (.load 1 false (.tmp 22)))⟩,
          ⟨(some 24), (some (21, true)), (.op (.len (.tmp 23)))⟩,
          ⟨(some 25), (some (21, true)), (.op (.arith .geq (.tmp 24) (.dat (.lit (.int .i64 1)))))⟩,
          ⟨(some 26), none, (.op (.pick (.tmp 21) (.tmp 25) (.dat (.lit (.bool false)))))⟩,
          ⟨(some 27), none, (.op (.mov (.tmp 26)))⟩,
          ⟨(some 28), (some (27, true)), (.op (.field 3 1 false (.tmp 3)))⟩,
          ⟨(some 29), (some (27, true)), (.op (.load 1 false (.tmp 28)))⟩,
          ⟨(some 30), (some (27, true)), (.op (.len (.tmp 29)))⟩,
          ⟨(some 31), (some (27, true)), (.op (.arith .leq (.tmp 30) (.dat (.lit (.int .i64 64)))))⟩,
          ⟨(some 32), none, (.op (.pick (.tmp 27) (.tmp 31) (.dat (.lit (.bool false)))))⟩,
          ⟨(some 4), none, (.op (.mov (.tmp 32)))⟩])
        .ret)
        (.seq (.region none [
          ⟨(some 34), none, (.op (.arith .eql (.tmp 10) (.dat (.lit (.int .i64 2)))))⟩,
          ⟨(some 33), none, (.op (.mov (.tmp 34)))⟩])
        (.cond (.tmp 33)
          (.seq (.seq (.region none [
            ⟨(some 35), none, (.op (.field 1 1 false (.tmp 3)))⟩,
            ⟨(some 36), none, (.op (.load 1 false (.tmp 35)))⟩,
            ⟨(some 37), none, (.op (.field 1 1 false (.tmp 2)))⟩,
            ⟨(some 38), none, (.op (.load 1 false (.tmp 37)))⟩,
            ⟨(some 39), none, (.op (.arith .lss (.tmp 36) (.tmp 38)))⟩,
            ⟨(some 40), none, (.op (.mov (.tmp 39)))⟩,
            ⟨(some 41), (some (40, false)), (.op (.field 1 1 false (.tmp 3)))⟩,
            ⟨(some 42), (some (40, false)), (.op (.load 1 false (.tmp 41)))⟩,
            ⟨(some 43), (some (40, false)), (.op (.mov (.tmp 5)))⟩,
            ⟨(some 44), (some (40, false)), (.op (.arith .gtr (.tmp 42) (.tmp 43)))⟩,
            ⟨(some 45), none, (.op (.pick (.tmp 40) (.dat (.lit (.bool true))) (.tmp 44)))⟩,
            ⟨(some 46), none, (.op (.mov (.tmp 45)))⟩,
            ⟨(some 47), (some (46, false)), (.op (.field 2 1 false (.tmp 3)))⟩,
            ⟨(some 48), (some (46, false)), (.op (.load 1 false (.tmp 47)))⟩,
            ⟨(some 49), (some (46, false)), (.op (.arith .lss (.tmp 48) (.dat (.lit (.int .i64 1)))))⟩,
            ⟨(some 50), none, (.op (.pick (.tmp 46) (.dat (.lit (.bool true))) (.tmp 49)))⟩,
            ⟨(some 51), none, (.op (.mov (.tmp 50)))⟩,
            ⟨(some 52), (some (51, false)), (.op (.field 2 1 false (.tmp 3)))⟩,
            ⟨(some 53), (some (51, false)), (.op (.load 1 false (.tmp 52)))⟩,
            ⟨(some 54), (some (51, false)), (.op (.arith .gtr (.tmp 53) (.dat (.lit (.int .i64 64)))))⟩,
            ⟨(some 55), none, (.op (.pick (.tmp 51) (.dat (.lit (.bool true))) (.tmp 54)))⟩,
            ⟨(some 56), none, (.op (.mov (.tmp 55)))⟩,
            ⟨(some 57), (some (56, false)), (.op (.field 1 1 false (.tmp 3)))⟩,
            ⟨(some 58), (some (56, false)), (.op (.load 1 false (.tmp 57)))⟩,
            ⟨(some 59), (some (56, false)), (.op (.field 2 1 false (.tmp 3)))⟩,
            ⟨(some 60), (some (56, false)), (.op (.load 1 false (.tmp 59)))⟩,
            ⟨(some 61), (some (56, false)), (.op (.arith .add (.tmp 58) (.tmp 60)))⟩,
            ⟨(some 62), (some (56, false)), (.op (.mov (.tmp 5)))⟩,
            ⟨(some 63), (some (56, false)), (.op (.arith .gtr (.tmp 61) (.tmp 62)))⟩,
            ⟨(some 64), none, (.op (.pick (.tmp 56) (.dat (.lit (.bool true))) (.tmp 63)))⟩,
            ⟨(some 65), none, (.op (.mov (.tmp 64)))⟩,
            ⟨(some 66), (some (65, false)), (.op (.field 3 1 false (.tmp 3)))⟩,
            ⟨(some 67), (some (65, false)), (.op (.load 1 false (.tmp 66)))⟩,
            ⟨(some 68), (some (65, false)), (.op (.len (.tmp 67)))⟩,
            ⟨(some 69), (some (65, false)), (.op (.arith .gtr (.tmp 68) (.dat (.lit (.int .i64 64)))))⟩,
            ⟨(some 70), none, (.op (.pick (.tmp 65) (.dat (.lit (.bool true))) (.tmp 69)))⟩])
          (.cond (.tmp 70)
            (.seq (.region none [
              ⟨(some 4), none, (.op (.mov (.dat (.lit (.bool false)))))⟩])
            .ret)
            .skip))
          (.seq (.region (some [[], [0], [], [2], [], [4], [], [6], [], [8], [6, 7, 8, 9], [2, 3, 4, 5, 6, 7, 8, 9, 10], [0, 1, 2, 3, 4, 5, 6, 7, 8, 9, 10, 11], [0, 1, 2, 3, 4, 5, 6, 7, 8, 9, 10, 11, 12], [0, 1, 2, 3, 4, 5, 6, 7, 8, 9, 10, 11, 12, 13]]) [
            ⟨(some 71), none, (.op (.field 3 1 false (.tmp 3)))⟩,
            ⟨(some 72), none, (.op (.load 1 false (.tmp 71)))⟩,
            ⟨(some 73), none, (.op (.field 0 1 false (.tmp 2)))⟩,
            ⟨(some 74), none, (.op (.load 1 false (.tmp 73)))⟩,
            ⟨(some 75), none, (.op (.field 1 1 false (.tmp 3)))⟩,
            ⟨(some 76), none, (.op (.load 1 false (.tmp 75)))⟩,
            ⟨(some 77), none, (.op (.field 1 1 false (.tmp 3)))⟩,
            ⟨(some 78), none, (.op (.load 1 false (.tmp 77)))⟩,
            ⟨(some 79), none, (.op (.field 2 1 false (.tmp 3)))⟩,
            ⟨(some 80), none, (.op (.load 1 false (.tmp 79)))⟩,
            ⟨(some 81), none, (.op (.arith .add (.tmp 78) (.tmp 80)))⟩,
            ⟨(some 82), none, (.op (.slice 5 (.tmp 74) (some (.tmp 76)) (some (.tmp 81))))⟩,
            ⟨(some 83), none, (.call (.dat (.fn (.func 80) [] [])) [(.tmp 72), (.tmp 82)])⟩,
            ⟨(some 84), none, (.op (.not (.tmp 83)))⟩,
            ⟨(some 4), none, (.op (.mov (.tmp 84)))⟩])
          .ret))
          (.seq (.region none [
            ⟨(some 86), none, (.op (.arith .eql (.tmp 10) (.dat (.lit (.int .i64 3)))))⟩,
            ⟨(some 85), none, (.op (.mov (.tmp 86)))⟩])
          (.cond (.tmp 85)
            (.seq (.region none [
              ⟨(some 87), none, (.op (.field 1 1 false (.tmp 3)))⟩,
              ⟨(some 88), none, (.op (.load 1 false (.tmp 87)))⟩,
              ⟨(some 89), none, (.op (.field 1 1 false (.tmp 2)))⟩,
              ⟨(some 90), none, (.op (.load 1 false (.tmp 89)))⟩,
              ⟨(some 91), none, (.op (.arith .geq (.tmp 88) (.tmp 90)))⟩,
              ⟨(some 92), none, (.op (.mov (.tmp 91)))⟩,
              ⟨(some 93), (some (92, true)), (.op (.field 1 1 false (.tmp 3)))⟩,
              ⟨(some 94), (some (92, true)), (.op (.load 1 false (.tmp 93)))⟩,
              ⟨(some 95), (some (92, true)), (.op (.mov (.tmp 5)))⟩,
              ⟨(some 96), (some (92, true)), (.op (.arith .leq (.tmp 94) (.tmp 95)))⟩,
              ⟨(some 97), none, (.op (.pick (.tmp 92) (.tmp 96) (.dat (.lit (.bool false)))))⟩,
              ⟨(some 98), none, (.op (.mov (.tmp 97)))⟩,
              ⟨(some 99), (some (98, true)), (.op (.field 2 1 false (.tmp 3)))⟩,
              ⟨(some 100), (some (98, true)), (.op (.load 1 false (.tmp 99)))⟩,
              ⟨(some 101), (some (98, true)), (.op (.arith .eql (.tmp 100) (.dat (.lit (.int .i64 0)))))⟩,
              ⟨(some 102), none, (.op (.pick (.tmp 98) (.tmp 101) (.dat (.lit (.bool false)))))⟩,
              ⟨(some 103), none, (.op (.mov (.tmp 102)))⟩,
              ⟨(some 104), (some (103, true)), (.op (.field 3 1 false (.tmp 3)))⟩,
              ⟨(some 105), (some (103, true)), (.op (.load 1 false (.tmp 104)))⟩,
              ⟨(some 106), (some (103, true)), (.op (.len (.tmp 105)))⟩,
              ⟨(some 107), (some (103, true)), (.op (.arith .eql (.tmp 106) (.dat (.lit (.int .i64 0)))))⟩,
              ⟨(some 108), none, (.op (.pick (.tmp 103) (.tmp 107) (.dat (.lit (.bool false)))))⟩,
              ⟨(some 4), none, (.op (.mov (.tmp 108)))⟩])
            .ret)
            .skip))))))))
    (.seq (.region none [
      ⟨(some 4), none, (.op (.mov (.dat (.lit (.bool false)))))⟩])
    .ret))))
  res := [.tmp 4]
theorem c63 : CmpF Tryd.prog 63 a63 := chkF_cmp (F := Tryd.f63) (by kernel_rfl) mixed (by kernel_rfl)
/-- slices.Backward(()hansard/api.Word,hansard/api.Word) -/
def a64 : AF where
  nt := 4
  body := (.seq (.region none [
      ⟨(some 1), none, (.op (.box false (.tmp 0)))⟩,
      ⟨(some 2), none, (.op (.mov (.dat (.lit (.nilFunc)))))⟩])
    (.seq (.region none [
      ⟨(some 3), none, (.op (.func (.func 81) [] [(.tmp 1)]))⟩,
      ⟨(some 2), none, (.op (.mov (.tmp 3)))⟩])
    .ret))
  res := [.tmp 2]
theorem c64 : CmpF Tryd.prog 64 a64 := chkF_cmp (F := Tryd.f64) (by kernel_rfl) mixed (by kernel_rfl)
/-- hansard/stream.right -/
def a65 : AF where
  nt := 54
  body := (.seq (.region none [
      ⟨(some 1), none, (.op (.box true (.tmp 0)))⟩,
      ⟨(some 2), none, (.op (.mov (.dat (.lit (.bool false)))))⟩])
    (.seq (.region none [
      ⟨(some 6), none, (.op (.field 0 1 false (.tmp 1)))⟩,
      ⟨(some 7), none, (.op (.load 1 false (.tmp 6)))⟩,
      ⟨(some 8), none, (.op (.mkslice 1 [(.tmp 7)]))⟩,
      ⟨(some 3), none, (.op (.alloc false [.nil 1]))⟩,
      ⟨none, none, (.op (.store 1 (.tmp 3) (.tmp 8)))⟩])
    (.seq (.region none [
      ⟨(some 9), none, (.op (.func (.func 82) [] [(.tmp 3)]))⟩,
      ⟨(some 4), none, (.op (.mov (.tmp 9)))⟩])
    (.seq (.region none [
      ⟨(some 10), none, (.op (.field 1 1 false (.tmp 1)))⟩,
      ⟨(some 11), none, (.op (.load 1 false (.tmp 10)))⟩,
      ⟨(some 12), none, (.op (.arith .geq (.tmp 11) (.dat (.lit (.int .i64 0)))))⟩,
      ⟨(some 13), none, (.op (.mov (.tmp 12)))⟩,
      ⟨(some 14), (some (13, true)), (.op (.field 1 1 false (.tmp 1)))⟩,
      ⟨(some 15), (some (13, true)), (.op (.load 1 false (.tmp 14)))⟩,
      ⟨(some 16), (some (13, true)), (.op (.field 2 1 false (.tmp 1)))⟩,
      ⟨(some 17), (some (13, true)), (.op (.load 1 false (.tmp 16)))⟩,
      ⟨(some 18), (some (13, true)), (.op (.arith .lss (.tmp 15) (.tmp 17)))⟩,
      ⟨(some 19), none, (.op (.pick (.tmp 13) (.tmp 18) (.dat (.lit (.bool false)))))⟩,
      ⟨(some 20), none, (.op (.mov (.tmp 19)))⟩,
      ⟨(some 21), (some (20, true)), (.op (.field 2 1 false (.tmp 1)))⟩,
      ⟨(some 22), (some (20, true)), (.op (.load 1 false (.tmp 21)))⟩,
      ⟨(some 23), (some (20, true)), (.op (.arith .lss (.tmp 22) (.dat (.lit (.int .i64 1099511627775)))))⟩,
      ⟨(some 24), none, (.op (.pick (.tmp 20) (.tmp 23) (.dat (.lit (.bool false)))))⟩,
      ⟨(some 5), none, (.op (.mov (.tmp 24)))⟩])
    (.seq (.sregion [
      ⟨(some 25), none, (.op (.mov (.tmp 5)))⟩,
      ⟨(some 26), none, (.op (.mov (.tmp 25)))⟩,
      ⟨(some 27), (some (26, true)), (.op (.field 0 1 false (.tmp 1)))⟩,
      ⟨(some 28), (some (26, true)), (.op (.load 1 false (.tmp 27)))⟩,
      ⟨(some 29), (some (26, true)), (.call (.dat (.fn (.func 84) [] [])) [(.tmp 28)])⟩,
      ⟨(some 30), none, (.op (.pick (.tmp 26) (.tmp 29) (.dat (.lit (.bool false)))))⟩,
      ⟨(some 31), none, (.op (.mov (.tmp 30)))⟩,
      ⟨(some 32), (some (31, true)), (.op (.field 3 1 false (.tmp 1)))⟩,
      ⟨(some 33), (some (31, true)), (.op (.load 1 false (.tmp 32)))⟩,
      ⟨(some 34), (some (31, true)), (.op (.arith .geq (.tmp 33) (.dat (.lit (.int .i64 0)))))⟩,
      ⟨(some 35), none, (.op (.pick (.tmp 31) (.tmp 34) (.dat (.lit (.bool false)))))⟩,
      ⟨(some 36), none, (.op (.mov (.tmp 35)))⟩,
      ⟨(some 37), (some (36, true)), (.op (.field 3 1 false (.tmp 1)))⟩,
      ⟨(some 38), (some (36, true)), (.op (.load 1 false (.tmp 37)))⟩,
      ⟨(some 39), (some (36, true)), (.op (.arith .lss (.tmp 38) (.dat (.lit (.int .i64 64)))))⟩,
      ⟨(some 40), none, (.op (.pick (.tmp 36) (.tmp 39) (.dat (.lit (.bool false)))))⟩,
      ⟨(some 41), none, (.op (.mov (.tmp 40)))⟩,
      ⟨(some 42), (some (41, true)), (.op (.field 4 1 false (.tmp 1)))⟩,
      ⟨(some 43), (some (41, true)), (.op (.load 1 false (.tmp 42)))⟩,
      ⟨(some 44), (some (41, true)), (.op (.len (.tmp 43)))⟩,
      ⟨(some 45), (some (41, true)), (.op (.arith .leq (.tmp 44) (.dat (.lit (.int .i64 4)))))⟩,
      ⟨(some 46), none, (.op (.pick (.tmp 41) (.tmp 45) (.dat (.lit (.bool false)))))⟩,
      ⟨(some 47), none, (.op (.mov (.tmp 46)))⟩,
      ⟨(some 48), (some (47, true)), (.op (.field 4 1 false (.tmp 1)))⟩,
      ⟨(some 49), (some (47, true)), (.op (.load 1 false (.tmp 48)))⟩,
      ⟨(some 50), (some (47, true)), (.op (.mov (.tmp 4)))⟩,
      ⟨(some 51), (some (47, true)), (.icall (.dat (.fn (.func 85) [] [])) [(.tmp 49), (.tmp 50)])⟩,
      ⟨(some 52), (some (47, true)), (.op (.not (.tmp 51)))⟩,
      ⟨(some 53), none, (.op (.pick (.tmp 47) (.tmp 52) (.dat (.lit (.bool false)))))⟩,
      ⟨(some 2), none, (.op (.mov (.tmp 53)))⟩])
    .ret)))))
  res := [.tmp 2]
theorem c65 : CmpF Tryd.prog 65 a65 := chkF_cmp (F := Tryd.f65) (by kernel_rfl) mixed (by kernel_rfl)
/-- hansard/stream.kinds$1 -/
def a66 : AF where
  nt := 25
  body := (.seq (.region none [
      ⟨(some 2), none, (.op (.box true (.tmp 0)))⟩,
      ⟨(some 3), none, (.op (.box true (.tmp 1)))⟩,
      ⟨(some 4), none, (.op (.mov (.dat (.lit (.bool false)))))⟩])
    (.seq (.region none [
      ⟨(some 5), none, (.op (.field 1 1 false (.tmp 3)))⟩,
      ⟨(some 6), none, (.op (.load 1 false (.tmp 5)))⟩,
      ⟨(some 7), none, (.op (.arith .eql (.tmp 6) (.dat (.lit (.int .i64 0)))))⟩,
      ⟨(some 8), none, (.op (.mov (.tmp 7)))⟩,
      ⟨(some 9), (some (8, true)), (.op (.field 2 1 false (.tmp 3)))⟩,
      ⟨(some 10), (some (8, true)), (.op (.load 1 false (.tmp 9)))⟩,
      ⟨(some 11), (some (8, true)), (.op (.arith .eql (.tmp 10) (.dat (.lit (.int .i64 0)))))⟩,
      ⟨(some 12), none, (.op (.pick (.tmp 8) (.tmp 11) (.dat (.lit (.bool false)))))⟩,
      ⟨(some 13), none, (.op (.mov (.tmp 12)))⟩,
      ⟨(some 14), (some (13, true)), (.op (.field 3 1 false (.tmp 3)))⟩,
      ⟨(some 15), (some (13, true)), (.op (.load 1 false (.tmp 14)))⟩,
      ⟨(some 16), (some (13, true)), (.op (.len (.tmp 15)))⟩,
      ⟨(some 17), (some (13, true)), (.op (.arith .gtr (.tmp 16) (.dat (.lit (.int .i64 0)))))⟩,
      ⟨(some 18), none, (.op (.pick (.tmp 13) (.tmp 17) (.dat (.lit (.bool false)))))⟩,
      ⟨(some 19), none, (.op (.mov (.tmp 18)))⟩,
      ⟨(some 20), (some (19, true)), (.op (.field 3 1 false (.tmp 3)))⟩,
      ⟨(some 21), (some (19, true)), (.op (.load 1 false (.tmp 20)))⟩,
      ⟨(some 22), (some (19, true)), (.op (.len (.tmp 21)))⟩,
      ⟨(some 23), (some (19, true)), (.op (.arith .leq (.tmp 22) (.dat (.lit (.int .i64 64)))))⟩,
      ⟨(some 24), none, (.op (.pick (.tmp 19) (.tmp 23) (.dat (.lit (.bool false)))))⟩,
      ⟨(some 4), none, (.op (.mov (.tmp 24)))⟩])
    .ret))
  res := [.tmp 4]
theorem c66 : CmpF Tryd.prog 66 a66 := chkF_cmp (F := Tryd.f66) (by kernel_rfl) mixed (by kernel_rfl)
/-- hansard/stream.kinds$2 -/
def a67 : AF where
  nt := 13
  body := (.seq (.region none [
      ⟨(some 2), none, (.op (.box true (.tmp 0)))⟩,
      ⟨(some 3), none, (.op (.box true (.tmp 1)))⟩,
      ⟨(some 4), none, (.op (.alloc true [.nil 5, .lit (.int .i64 0)]))⟩])
    (.seq (.region none [
      ⟨(some 5), none, (.op (.field 0 1 false (.tmp 2)))⟩,
      ⟨(some 6), none, (.op (.load 1 false (.tmp 5)))⟩,
      ⟨(some 7), none, (.op (.field 3 1 false (.tmp 3)))⟩,
      ⟨(some 8), none, (.op (.load 1 false (.tmp 7)))⟩,
      ⟨(some 9), none, (.op (.mkslice 1 [(.tmp 6), (.tmp 8)]))⟩,
      ⟨(some 10), none, (.call (.dat (.fn (.func 68) [] [])) [(.tmp 9)])⟩,
      ⟨(some 11), none, (.op (.field 0 1 false (.tmp 2)))⟩,
      ⟨none, none, (.op (.store 1 (.tmp 11) (.tmp 10)))⟩])
    (.seq (.region none [
      ⟨(some 12), none, (.op (.load 2 true (.tmp 2)))⟩,
      ⟨none, none, (.op (.store 2 (.tmp 4) (.tmp 12)))⟩])
    .ret)))
  res := [.cell 4 2 true]
theorem c67 : CmpF Tryd.prog 67 a67 := chkF_cmp (F := Tryd.f67) (by kernel_rfl) mixed (by kernel_rfl)
/-- hansard/stream.joined(hansard/api.Word) -/
def a68 : AF where
  nt := 5
  body := (.seq (.region none [
      ⟨(some 2), none, (.op (.mov (.dat (.nil 5))))⟩])
    (.seq (.region none [
      ⟨(some 3), none, (.op (.mov (.tmp 0)))⟩,
      ⟨(some 4), none, (.call (.dat (.fn (.func 86) [] [])) [(.tmp 3)])⟩,
      ⟨(some 2), none, (.op (.mov (.tmp 4)))⟩])
    .ret))
  res := [.tmp 2]
theorem c68 : CmpF Tryd.prog 68 a68 := chkF_cmp (F := Tryd.f68) (by kernel_rfl) mixed (by kernel_rfl)
/-- hansard/stream.kinds$3 -/
def a69 : AF where
  nt := 55
  body := (.seq (.region none [
      ⟨(some 2), none, (.op (.box true (.tmp 0)))⟩,
      ⟨(some 3), none, (.op (.box true (.tmp 1)))⟩,
      ⟨(some 4), none, (.op (.mov (.dat (.lit (.bool false)))))⟩])
    (.seq (.region none [
      ⟨(some 6), none, (.op (.field 0 1 false (.tmp 2)))⟩,
      ⟨(some 7), none, (.op (.load 1 false (.tmp 6)))⟩,
      ⟨(some 8), none, (.op (.len (.tmp 7)))⟩,
      ⟨(some 5), none, (.op (.mov (.tmp 8)))⟩])
    (.seq (.seq (.region none [
      ⟨(some 9), none, (.op (.field 1 1 false (.tmp 3)))⟩,
      ⟨(some 10), none, (.op (.load 1 false (.tmp 9)))⟩,
      ⟨(some 11), none, (.op (.field 1 1 false (.tmp 2)))⟩,
      ⟨(some 12), none, (.op (.load 1 false (.tmp 11)))⟩,
      ⟨(some 13), none, (.op (.arith .lss (.tmp 10) (.tmp 12)))⟩,
      ⟨(some 14), none, (.op (.mov (.tmp 13)))⟩,
      ⟨(some 15), (some (14, false)), (.op (.field 1 1 false (.tmp 3)))⟩,
      ⟨(some 16), (some (14, false)), (.op (.load 1 false (.tmp 15)))⟩,
      ⟨(some 17), (some (14, false)), (.op (.mov (.tmp 5)))⟩,
      ⟨(some 18), (some (14, false)), (.op (.arith .gtr (.tmp 16) (.tmp 17)))⟩,
      ⟨(some 19), none, (.op (.pick (.tmp 14) (.dat (.lit (.bool true))) (.tmp 18)))⟩,
      ⟨(some 20), none, (.op (.mov (.tmp 19)))⟩,
      ⟨(some 21), (some (20, false)), (.op (.field 2 1 false (.tmp 3)))⟩,
      ⟨(some 22), (some (20, false)), (.op (.load 1 false (.tmp 21)))⟩,
      ⟨(some 23), (some (20, false)), (.op (.arith .lss (.tmp 22) (.dat (.lit (.int .i64 1)))))⟩,
      ⟨(some 24), none, (.op (.pick (.tmp 20) (.dat (.lit (.bool true))) (.tmp 23)))⟩,
      ⟨(some 25), none, (.op (.mov (.tmp 24)))⟩,
      ⟨(some 26), (some (25, false)), (.op (.field 2 1 false (.tmp 3)))⟩,
      ⟨(some 27), (some (25, false)), (.op (.load 1 false (.tmp 26)))⟩,
      ⟨(some 28), (some (25, false)), (.op (.mov (.tmp 5)))⟩,
      ⟨(some 29), (some (25, false)), (.op (.field 1 1 false (.tmp 3)))⟩,
      ⟨(some 30), (some (25, false)), (.op (.load 1 false (.tmp 29)))⟩,
      ⟨(some 31), (some (25, false)), (.op (.arith .sub (.tmp 28) (.tmp 30)))⟩,
      ⟨(some 32), (some (25, false)), (.op (.minmax false (.dat (.lit (.int .i64 64))) (.tmp 31)))⟩,
      ⟨(some 33), (some (25, false)), (.op (.arith .gtr (.tmp 27) (.tmp 32)))⟩,
      ⟨(some 34), none, (.op (.pick (.tmp 25) (.dat (.lit (.bool true))) (.tmp 33)))⟩,
      ⟨(some 35), none, (.op (.mov (.tmp 34)))⟩,
      ⟨(some 36), (some (35, false)), (.op (.field 3 1 false (.tmp 3)))⟩,
      ⟨(some 37), (some (35, false)), (.op (.load 1 false (.tmp 36)))⟩,
      ⟨(some 38), (some (35, false)), (.op (.len (.tmp 37)))⟩,
      ⟨(some 39), (some (35, false)), (.op (.arith .gtr (.tmp 38) (.dat (.lit (.int .i64 64)))))⟩,
      ⟨(some 40), none, (.op (.pick (.tmp 35) (.dat (.lit (.bool true))) (.tmp 39)))⟩])
    (.cond (.tmp 40)
      (.seq (.region none [
        ⟨(some 4), none, (.op (.mov (.dat (.lit (.bool false)))))⟩])
      .ret)
      .skip))
    (.seq (.region (some [[], [0], [], [2], [], [4], [], [6], [], [8], [6, 7, 8, 9], [2, 3, 4, 5, 6, 7, 8, 9, 10], [0, 1, 2, 3, 4, 5, 6, 7, 8, 9, 10, 11], [0, 1, 2, 3, 4, 5, 6, 7, 8, 9, 10, 11, 12], [0, 1, 2, 3, 4, 5, 6, 7, 8, 9, 10, 11, 12, 13]]) [
      ⟨(some 41), none, (.op (.field 3 1 false (.tmp 3)))⟩,
      ⟨(some 42), none, (.op (.load 1 false (.tmp 41)))⟩,
      ⟨(some 43), none, (.op (.field 0 1 false (.tmp 2)))⟩,
      ⟨(some 44), none, (.op (.load 1 false (.tmp 43)))⟩,
      ⟨(some 45), none, (.op (.field 1 1 false (.tmp 3)))⟩,
      ⟨(some 46), none, (.op (.load 1 false (.tmp 45)))⟩,
      ⟨(some 47), none, (.op (.field 1 1 false (.tmp 3)))⟩,
      ⟨(some 48), none, (.op (.load 1 false (.tmp 47)))⟩,
      ⟨(some 49), none, (.op (.field 2 1 false (.tmp 3)))⟩,
      ⟨(some 50), none, (.op (.load 1 false (.tmp 49)))⟩,
      ⟨(some 51), none, (.op (.arith .add (.tmp 48) (.tmp 50)))⟩,
      ⟨(some 52), none, (.op (.slice 5 (.tmp 44) (some (.tmp 46)) (some (.tmp 51))))⟩,
      ⟨(some 53), none, (.call (.dat (.fn (.func 70) [] [])) [(.tmp 42), (.tmp 52), (.dat (.fn (.func 71) [] []))])⟩,
      ⟨(some 54), none, (.op (.not (.tmp 53)))⟩,
      ⟨(some 4), none, (.op (.mov (.tmp 54)))⟩])
    .ret))))
  res := [.tmp 4]
theorem c69 : CmpF Tryd.prog 69 a69 := chkF_cmp (F := Tryd.f69) (by kernel_rfl) mixed (by kernel_rfl)
/-- slices.EqualFunc(()hansard/api.Word,()hansard/api.Word,hansard/api.Word,hansard/api.Word) -/
def a70 : AF where
  nt := 32
  body := (.seq (.region none [
      ⟨(some 6), none, (.op (.mov (.dat (.lit (.bool false)))))⟩])
    (.seq (.seq (.region none [
      ⟨(some 10), none, (.op (.mov (.tmp 0)))⟩,
      ⟨(some 11), none, (.op (.len (.tmp 10)))⟩,
      ⟨(some 12), none, (.op (.mov (.tmp 1)))⟩,
      ⟨(some 13), none, (.op (.len (.tmp 12)))⟩,
      ⟨(some 14), none, (.op (.arith .neq (.tmp 11) (.tmp 13)))⟩])
    (.cond (.tmp 14)
      (.seq (.region none [
        ⟨(some 6), none, (.op (.mov (.dat (.lit (.bool false)))))⟩])
      .ret)
      .skip))
    (.seq (.seq (.region none [
      ⟨(some 15), none, (.op (.mov (.tmp 0)))⟩,
      ⟨(some 16), none, (.op (.len (.tmp 15)))⟩,
      ⟨(some 17), none, (.op (.mov (.dat (.lit (.int .i64 0)))))⟩])
    (.block 0
      (.loop
        (.seq (.region none [
          ⟨(some 18), none, (.op (.arith .lss (.tmp 17) (.tmp 16)))⟩])
        (.seq (.cond (.tmp 18)
          .skip
          (.exit 0))
        (.seq (.block 1
          (.seq (.region none [
            ⟨(some 19), none, (.op (.mov (.tmp 17)))⟩,
            ⟨(some 20), none, (.op (.index 5 (.tmp 15) (.tmp 17)))⟩,
            ⟨(some 21), none, (.op (.load 5 true (.tmp 20)))⟩,
            ⟨(some 8), none, (.op (.alloc true [.lit (.string ⟨#[]⟩), .lit (.int .i64 0), .lit (.int .i64 0), .lit (.int .i64 0), .nil 1]))⟩,
            ⟨(some 7), none, (.op (.mov (.tmp 19)))⟩,
            ⟨none, none, (.op (.store 5 (.tmp 8) (.tmp 21)))⟩])
          (.seq (.region none [
            ⟨(some 22), none, (.op (.mov (.tmp 1)))⟩,
            ⟨(some 23), none, (.op (.mov (.tmp 7)))⟩,
            ⟨(some 24), none, (.op (.index 5 (.tmp 22) (.tmp 23)))⟩,
            ⟨(some 25), none, (.op (.load 5 true (.tmp 24)))⟩,
            ⟨(some 9), none, (.op (.alloc true [.lit (.string ⟨#[]⟩), .lit (.int .i64 0), .lit (.int .i64 0), .lit (.int .i64 0), .nil 1]))⟩,
            ⟨none, none, (.op (.store 5 (.tmp 9) (.tmp 25)))⟩])
          (.seq (.region none [
            ⟨(some 26), none, (.op (.mov (.tmp 2)))⟩,
            ⟨(some 27), none, (.op (.load 5 true (.tmp 8)))⟩,
            ⟨(some 28), none, (.op (.load 5 true (.tmp 9)))⟩,
            ⟨(some 29), none, (.call (.tmp 26) [(.tmp 27), (.tmp 28)])⟩,
            ⟨(some 30), none, (.op (.not (.tmp 29)))⟩])
          (.cond (.tmp 30)
            (.seq (.region none [
              ⟨(some 6), none, (.op (.mov (.dat (.lit (.bool false)))))⟩])
            .ret)
            .skip)))))
        (.region none [
          ⟨(some 31), none, (.op (.arith .add (.tmp 17) (.dat (.lit (.int .i64 1)))))⟩,
          ⟨(some 17), none, (.op (.mov (.tmp 31)))⟩])))))))
    (.seq (.region none [
      ⟨(some 6), none, (.op (.mov (.dat (.lit (.bool true)))))⟩])
    .ret))))
  res := [.tmp 6]
theorem c70 : CmpF Tryd.prog 70 a70 := chkF_cmp (F := Tryd.f70) (by kernel_rfl) mixed (by kernel_rfl)
/-- hansard/stream.same -/
def a71 : AF where
  nt := 38
  body := (.seq (.region none [
      ⟨(some 2), none, (.op (.box true (.tmp 0)))⟩,
      ⟨(some 3), none, (.op (.box true (.tmp 1)))⟩,
      ⟨(some 4), none, (.op (.mov (.dat (.lit (.bool false)))))⟩])
    (.seq (.region none [
      ⟨(some 5), none, (.op (.field 0 1 false (.tmp 2)))⟩,
      ⟨(some 6), none, (.op (.load 1 false (.tmp 5)))⟩,
      ⟨(some 7), none, (.op (.field 0 1 false (.tmp 3)))⟩,
      ⟨(some 8), none, (.op (.load 1 false (.tmp 7)))⟩,
      ⟨(some 9), none, (.op (.arith .eql (.tmp 6) (.tmp 8)))⟩,
      ⟨(some 10), none, (.op (.mov (.tmp 9)))⟩,
      ⟨(some 11), (some (10, true)), (.op (.field 1 1 false (.tmp 2)))⟩,
      ⟨(some 12), (some (10, true)), (.op (.load 1 false (.tmp 11)))⟩,
      ⟨(some 13), (some (10, true)), (.op (.field 1 1 false (.tmp 3)))⟩,
      ⟨(some 14), (some (10, true)), (.op (.load 1 false (.tmp 13)))⟩,
      ⟨(some 15), (some (10, true)), (.op (.arith .eql (.tmp 12) (.tmp 14)))⟩,
      ⟨(some 16), none, (.op (.pick (.tmp 10) (.tmp 15) (.dat (.lit (.bool false)))))⟩,
      ⟨(some 17), none, (.op (.mov (.tmp 16)))⟩,
      ⟨(some 18), (some (17, true)), (.op (.field 2 1 false (.tmp 2)))⟩,
      ⟨(some 19), (some (17, true)), (.op (.load 1 false (.tmp 18)))⟩,
      ⟨(some 20), (some (17, true)), (.op (.field 2 1 false (.tmp 3)))⟩,
      ⟨(some 21), (some (17, true)), (.op (.load 1 false (.tmp 20)))⟩,
      ⟨(some 22), (some (17, true)), (.op (.arith .eql (.tmp 19) (.tmp 21)))⟩,
      ⟨(some 23), none, (.op (.pick (.tmp 17) (.tmp 22) (.dat (.lit (.bool false)))))⟩,
      ⟨(some 24), none, (.op (.mov (.tmp 23)))⟩,
      ⟨(some 25), (some (24, true)), (.op (.field 3 1 false (.tmp 2)))⟩,
      ⟨(some 26), (some (24, true)), (.op (.load 1 false (.tmp 25)))⟩,
      ⟨(some 27), (some (24, true)), (.op (.field 3 1 false (.tmp 3)))⟩,
      ⟨(some 28), (some (24, true)), (.op (.load 1 false (.tmp 27)))⟩,
      ⟨(some 29), (some (24, true)), (.op (.arith .eql (.tmp 26) (.tmp 28)))⟩,
      ⟨(some 30), none, (.op (.pick (.tmp 24) (.tmp 29) (.dat (.lit (.bool false)))))⟩,
      ⟨(some 31), none, (.op (.mov (.tmp 30)))⟩,
      ⟨(some 32), (some (31, true)), (.op (.field 4 1 false (.tmp 2)))⟩,
      ⟨(some 33), (some (31, true)), (.op (.load 1 false (.tmp 32)))⟩,
      ⟨(some 34), (some (31, true)), (.op (.field 4 1 false (.tmp 3)))⟩,
      ⟨(some 35), (some (31, true)), (.op (.load 1 false (.tmp 34)))⟩,
      ⟨(some 36), (some (31, true)), (.call (.dat (.fn (.func 87) [] [])) [(.tmp 33), (.tmp 35)])⟩,
      ⟨(some 37), none, (.op (.pick (.tmp 31) (.tmp 36) (.dat (.lit (.bool false)))))⟩,
      ⟨(some 4), none, (.op (.mov (.tmp 37)))⟩])
    .ret))
  res := [.tmp 4]
theorem c71 : CmpF Tryd.prog 71 a71 := chkF_cmp (F := Tryd.f71) (by kernel_rfl) mixed (by kernel_rfl)
/-- hansard/stream.kinds$4 -/
def a72 : AF where
  nt := 24
  body := (.seq (.region none [
      ⟨(some 2), none, (.op (.box true (.tmp 0)))⟩,
      ⟨(some 3), none, (.op (.box true (.tmp 1)))⟩,
      ⟨(some 4), none, (.op (.alloc true [.nil 5, .lit (.int .i64 0)]))⟩])
    (.seq (.region (some [[], [0], [], [2], [0, 1, 2, 3], [], [5], [], [7], [], [9], [], [11], [9, 10, 11, 12], [7, 8, 9, 10, 11, 12, 13], [0, 1, 2, 3, 4, 5, 6, 7, 8, 9, 10, 11, 12, 13, 14], [0, 1, 2, 3, 4, 5, 6, 7, 8, 9, 10, 11, 12, 13, 14, 15], [0, 1, 2, 3, 4, 5, 6, 7, 8, 9, 10, 11, 12, 13, 14, 15, 16], [0, 1, 2, 3, 4, 5, 6, 7, 8, 9, 10, 11, 12, 13, 14, 15, 16, 17]]) [
      ⟨(some 5), none, (.op (.field 0 1 false (.tmp 2)))⟩,
      ⟨(some 6), none, (.op (.load 1 false (.tmp 5)))⟩,
      ⟨(some 7), none, (.op (.field 1 1 false (.tmp 3)))⟩,
      ⟨(some 8), none, (.op (.load 1 false (.tmp 7)))⟩,
      ⟨(some 9), none, (.op (.slice 5 (.tmp 6) none (some (.tmp 8))))⟩,
      ⟨(some 10), none, (.op (.field 3 1 false (.tmp 3)))⟩,
      ⟨(some 11), none, (.op (.load 1 false (.tmp 10)))⟩,
      ⟨(some 12), none, (.op (.field 0 1 false (.tmp 2)))⟩,
      ⟨(some 13), none, (.op (.load 1 false (.tmp 12)))⟩,
      ⟨(some 14), none, (.op (.field 1 1 false (.tmp 3)))⟩,
      ⟨(some 15), none, (.op (.load 1 false (.tmp 14)))⟩,
      ⟨(some 16), none, (.op (.field 2 1 false (.tmp 3)))⟩,
      ⟨(some 17), none, (.op (.load 1 false (.tmp 16)))⟩,
      ⟨(some 18), none, (.op (.arith .add (.tmp 15) (.tmp 17)))⟩,
      ⟨(some 19), none, (.op (.slice 5 (.tmp 13) (some (.tmp 18)) none))⟩,
      ⟨(some 20), none, (.op (.mkslice 1 [(.tmp 9), (.tmp 11), (.tmp 19)]))⟩,
      ⟨(some 21), none, (.call (.dat (.fn (.func 68) [] [])) [(.tmp 20)])⟩,
      ⟨(some 22), none, (.op (.field 0 1 false (.tmp 2)))⟩,
      ⟨none, none, (.op (.store 1 (.tmp 22) (.tmp 21)))⟩])
    (.seq (.region none [
      ⟨(some 23), none, (.op (.load 2 true (.tmp 2)))⟩,
      ⟨none, none, (.op (.store 2 (.tmp 4) (.tmp 23)))⟩])
    .ret)))
  res := [.cell 4 2 true]
theorem c72 : CmpF Tryd.prog 72 a72 := chkF_cmp (F := Tryd.f72) (by kernel_rfl) mixed (by kernel_rfl)
/-- hansard/stream.kinds$5 -/
def a73 : AF where
  nt := 29
  body := (.seq (.region none [
      ⟨(some 2), none, (.op (.box true (.tmp 0)))⟩,
      ⟨(some 3), none, (.op (.box true (.tmp 1)))⟩,
      ⟨(some 4), none, (.op (.mov (.dat (.lit (.bool false)))))⟩])
    (.seq (.region none [
      ⟨(some 5), none, (.op (.field 1 1 false (.tmp 3)))⟩,
      ⟨(some 6), none, (.op (.load 1 false (.tmp 5)))⟩,
      ⟨(some 7), none, (.op (.field 1 1 false (.tmp 2)))⟩,
      ⟨(some 8), none, (.op (.load 1 false (.tmp 7)))⟩,
      ⟨(some 9), none, (.op (.arith .geq (.tmp 6) (.tmp 8)))⟩,
      ⟨(some 10), none, (.op (.mov (.tmp 9)))⟩,
      ⟨(some 11), (some (10, true)), (.op (.field 1 1 false (.tmp 3)))⟩,
      ⟨(some 12), (some (10, true)), (.op (.load 1 false (.tmp 11)))⟩,
      ⟨(some 13), (some (10, true)), (.op (.field 0 1 false (.tmp 2)))⟩,
      ⟨(some 14), (some (10, true)), (.op (.load 1 false (.tmp 13)))⟩,
      ⟨(some 15), (some (10, true)), (.op (.len (.tmp 14)))⟩,
      ⟨(some 16), (some (10, true)), (.op (.arith .leq (.tmp 12) (.tmp 15)))⟩,
      ⟨(some 17), none, (.op (.pick (.tmp 10) (.tmp 16) (.dat (.lit (.bool false)))))⟩,
      ⟨(some 18), none, (.op (.mov (.tmp 17)))⟩,
      ⟨(some 19), (some (18, true)), (.op (.field 2 1 false (.tmp 3)))⟩,
      ⟨(some 20), (some (18, true)), (.op (.load 1 false (.tmp 19)))⟩,
      ⟨(some 21), (some (18, true)), (.op (.arith .eql (.tmp 20) (.dat (.lit (.int .i64 0)))))⟩,
      ⟨(some 22), none, (.op (.pick (.tmp 18) (.tmp 21) (.dat (.lit (.bool false)))))⟩,
      ⟨(some 23), none, (.op (.mov (.tmp 22)))⟩,
      ⟨(some 24), (some (23, true)), (.op (.field 3 1 false (.tmp 3)))⟩,
      ⟨(some 25), (some (23, true)), (.op (.load 1 false (.tmp 24)))⟩,
      ⟨(some 26), (some (23, true)), (.op (.len (.tmp 25)))⟩,
      ⟨(some 27), (some (23, true)), (.op (.arith .eql (.tmp 26) (.dat (.lit (.int .i64 0)))))⟩,
      ⟨(some 28), none, (.op (.pick (.tmp 23) (.tmp 27) (.dat (.lit (.bool false)))))⟩,
      ⟨(some 4), none, (.op (.mov (.tmp 28)))⟩])
    .ret))
  res := [.tmp 4]
theorem c73 : CmpF Tryd.prog 73 a73 := chkF_cmp (F := Tryd.f73) (by kernel_rfl) mixed (by kernel_rfl)
/-- hansard/stream.kinds$6 -/
def a74 : AF where
  nt := 9
  body := (.seq (.region none [
      ⟨(some 2), none, (.op (.box true (.tmp 0)))⟩,
      ⟨(some 3), none, (.op (.box true (.tmp 1)))⟩,
      ⟨(some 4), none, (.op (.alloc true [.nil 5, .lit (.int .i64 0)]))⟩])
    (.seq (.region none [
      ⟨(some 5), none, (.op (.field 1 1 false (.tmp 3)))⟩,
      ⟨(some 6), none, (.op (.load 1 false (.tmp 5)))⟩,
      ⟨(some 7), none, (.op (.field 1 1 false (.tmp 2)))⟩,
      ⟨none, none, (.op (.store 1 (.tmp 7) (.tmp 6)))⟩])
    (.seq (.region none [
      ⟨(some 8), none, (.op (.load 2 true (.tmp 2)))⟩,
      ⟨none, none, (.op (.store 2 (.tmp 4) (.tmp 8)))⟩])
    .ret)))
  res := [.cell 4 2 true]
theorem c74 : CmpF Tryd.prog 74 a74 := chkF_cmp (F := Tryd.f74) (by kernel_rfl) mixed (by kernel_rfl)
/-- hansard/hansardref17.Right -/
def a75 : AF where
  nt := 77
  body := (.seq (.region none [
      ⟨(some 1), none, (.op (.box true (.tmp 0)))⟩,
      ⟨(some 2), none, (.op (.mov (.dat (.lit (.bool false)))))⟩])
    (.seq (.seq (.region none [
      ⟨(some 4), none, (.op (.field 0 1 false (.tmp 1)))⟩,
      ⟨(some 5), none, (.op (.load 1 false (.tmp 4)))⟩,
      ⟨(some 6), none, (.call (.dat (.fn (.func 88) [] [])) [(.tmp 5)])⟩,
      ⟨(some 7), none, (.op (.not (.tmp 6)))⟩,
      ⟨(some 8), none, (.op (.mov (.tmp 7)))⟩,
      ⟨(some 9), (some (8, false)), (.op (.field 1 1 false (.tmp 1)))⟩,
      ⟨(some 10), (some (8, false)), (.op (.load 1 false (.tmp 9)))⟩,
      ⟨(some 11), (some (8, false)), (.op (.arith .lss (.tmp 10) (.dat (.lit (.int .i64 0)))))⟩,
      ⟨(some 12), none, (.op (.pick (.tmp 8) (.dat (.lit (.bool true))) (.tmp 11)))⟩,
      ⟨(some 13), none, (.op (.mov (.tmp 12)))⟩,
      ⟨(some 14), (some (13, false)), (.op (.field 1 1 false (.tmp 1)))⟩,
      ⟨(some 15), (some (13, false)), (.op (.load 1 false (.tmp 14)))⟩,
      ⟨(some 16), (some (13, false)), (.op (.field 2 1 false (.tmp 1)))⟩,
      ⟨(some 17), (some (13, false)), (.op (.load 1 false (.tmp 16)))⟩,
      ⟨(some 18), (some (13, false)), (.op (.arith .geq (.tmp 15) (.tmp 17)))⟩,
      ⟨(some 19), none, (.op (.pick (.tmp 13) (.dat (.lit (.bool true))) (.tmp 18)))⟩,
      ⟨(some 20), none, (.op (.mov (.tmp 19)))⟩,
      ⟨(some 21), (some (20, false)), (.op (.field 2 1 false (.tmp 1)))⟩,
      ⟨(some 22), (some (20, false)), (.op (.load 1 false (.tmp 21)))⟩,
      ⟨(some 23), (some (20, false)), (.op (.arith .geq (.tmp 22) (.dat (.lit (.int .i64 1099511627775)))))⟩,
      ⟨(some 24), none, (.op (.pick (.tmp 20) (.dat (.lit (.bool true))) (.tmp 23)))⟩,
      ⟨(some 25), none, (.op (.mov (.tmp 24)))⟩,
      ⟨(some 26), (some (25, false)), (.op (.field 3 1 false (.tmp 1)))⟩,
      ⟨(some 27), (some (25, false)), (.op (.load 1 false (.tmp 26)))⟩,
      ⟨(some 28), (some (25, false)), (.op (.arith .lss (.tmp 27) (.dat (.lit (.int .i64 0)))))⟩,
      ⟨(some 29), none, (.op (.pick (.tmp 25) (.dat (.lit (.bool true))) (.tmp 28)))⟩,
      ⟨(some 30), none, (.op (.mov (.tmp 29)))⟩,
      ⟨(some 31), (some (30, false)), (.op (.field 3 1 false (.tmp 1)))⟩,
      ⟨(some 32), (some (30, false)), (.op (.load 1 false (.tmp 31)))⟩,
      ⟨(some 33), (some (30, false)), (.op (.arith .geq (.tmp 32) (.dat (.lit (.int .i64 64)))))⟩,
      ⟨(some 34), none, (.op (.pick (.tmp 30) (.dat (.lit (.bool true))) (.tmp 33)))⟩,
      ⟨(some 35), none, (.op (.mov (.tmp 34)))⟩,
      ⟨(some 36), (some (35, false)), (.op (.field 4 1 false (.tmp 1)))⟩,
      ⟨(some 37), (some (35, false)), (.op (.load 1 false (.tmp 36)))⟩,
      ⟨(some 38), (some (35, false)), (.op (.len (.tmp 37)))⟩,
      ⟨(some 39), (some (35, false)), (.op (.arith .gtr (.tmp 38) (.dat (.lit (.int .i64 4)))))⟩,
      ⟨(some 40), none, (.op (.pick (.tmp 35) (.dat (.lit (.bool true))) (.tmp 39)))⟩])
    (.cond (.tmp 40)
      (.seq (.region none [
        ⟨(some 2), none, (.op (.mov (.dat (.lit (.bool false)))))⟩])
      .ret)
      .skip))
    (.seq (.seq (.region none [
      ⟨(some 3), none, (.op (.mov (.dat (.lit (.int .i64 0)))))⟩])
    (.block 0
      (.loop
        (.seq (.seq (.region none [
          ⟨(some 41), none, (.op (.mov (.tmp 3)))⟩,
          ⟨(some 42), none, (.op (.field 4 1 false (.tmp 1)))⟩,
          ⟨(some 43), none, (.op (.load 1 false (.tmp 42)))⟩,
          ⟨(some 44), none, (.op (.len (.tmp 43)))⟩,
          ⟨(some 45), none, (.op (.arith .lss (.tmp 41) (.tmp 44)))⟩])
        (.cond (.tmp 45)
          .skip
          (.exit 0)))
        (.seq (.block 1
          (.seq (.region (some [[], [0], [], [0, 1, 2], [0, 1, 2, 3], [0, 1, 2, 3, 4], [0, 1, 2, 3, 4, 5], [0, 1, 2, 3, 4, 5, 6], [0, 1, 2, 3, 4, 5, 6, 7], [0, 1, 2, 3, 4, 5, 6, 7, 8], [0, 1, 2, 3, 4, 5, 6, 7], [0, 1, 2, 3, 4, 5, 6, 7, 8, 9, 10], [0, 1, 2, 3, 4, 5, 6, 7, 8, 9, 10, 11], [0, 1, 2, 3, 4, 5, 6, 7], [0, 1, 2, 3, 4, 5, 6, 7, 13], [0, 1, 2, 3, 4, 5, 6, 7, 8, 9, 10, 11, 12, 13, 14], [0, 1, 2, 3, 4, 5, 6, 7, 8, 9, 10, 11, 12, 13, 14, 15], [0, 1, 2, 3, 4, 5, 6, 7, 8, 9, 10, 11, 12, 13, 14, 15, 16], [0, 1, 2, 3, 4, 5, 6, 7, 8, 9, 10, 11, 12, 13, 14, 15, 16, 17], [0, 1, 2, 3, 4, 5, 6, 7, 8, 9, 10, 11, 12, 13, 14, 15, 16, 17, 18], [0, 1, 2, 3, 4, 5, 6, 7, 8, 9, 10, 11, 12, 13, 14, 15, 16, 17], [0, 1, 2, 3, 4, 5, 6, 7, 8, 9, 10, 11, 12, 13, 14, 15, 16, 17, 18, 19, 20], [0, 1, 2, 3, 4, 5, 6, 7, 8, 9, 10, 11, 12, 13, 14, 15, 16, 17], [0, 1, 2, 3, 4, 5, 6, 7, 8, 9, 10, 11, 12, 13, 14, 15, 16, 17, 22], [0, 1, 2, 3, 4, 5, 6, 7, 8, 9, 10, 11, 12, 13, 14, 15, 16, 17], [0, 1, 2, 3, 4, 5, 6, 7, 8, 9, 10, 11, 12, 13, 14, 15, 16, 17, 22, 23, 24], [0, 1, 2, 3, 4, 5, 6, 7, 8, 9, 10, 11, 12, 13, 14, 15, 16, 17, 22, 23, 24, 25], [0, 1, 2, 3, 4, 5, 6, 7, 8, 9, 10, 11, 12, 13, 14, 15, 16, 17, 18, 19, 20, 21, 22, 23, 24, 25, 26], [0, 1, 2, 3, 4, 5, 6, 7, 8, 9, 10, 11, 12, 13, 14, 15, 16, 17, 18, 19, 20, 21, 22, 23, 24, 25, 26, 27]]) [
            ⟨(some 48), none, (.op (.field 4 1 false (.tmp 1)))⟩,
            ⟨(some 49), none, (.op (.load 1 false (.tmp 48)))⟩,
            ⟨(some 50), none, (.op (.mov (.tmp 3)))⟩,
            ⟨(some 51), none, (.op (.index 1 (.tmp 49) (.tmp 50)))⟩,
            ⟨(some 52), none, (.op (.load 1 false (.tmp 51)))⟩,
            ⟨(some 53), none, (.call (.dat (.fn (.func 88) [] [])) [(.tmp 52)])⟩,
            ⟨(some 54), none, (.op (.not (.tmp 53)))⟩,
            ⟨(some 55), none, (.op (.mov (.tmp 54)))⟩,
            ⟨(some 56), (some (55, false)), (.op (.field 4 1 false (.tmp 1)))⟩,
            ⟨(some 57), (some (55, false)), (.op (.load 1 false (.tmp 56)))⟩,
            ⟨(some 58), (some (55, false)), (.op (.mov (.tmp 3)))⟩,
            ⟨(some 59), (some (55, false)), (.op (.index 1 (.tmp 57) (.tmp 58)))⟩,
            ⟨(some 60), (some (55, false)), (.op (.load 1 false (.tmp 59)))⟩,
            ⟨(some 61), (some (55, false)), (.op (.field 0 1 false (.tmp 1)))⟩,
            ⟨(some 62), (some (55, false)), (.op (.load 1 false (.tmp 61)))⟩,
            ⟨(some 63), (some (55, false)), (.op (.arith .eql (.tmp 60) (.tmp 62)))⟩,
            ⟨(some 64), none, (.op (.pick (.tmp 55) (.dat (.lit (.bool true))) (.tmp 63)))⟩,
            ⟨(some 65), none, (.op (.mov (.tmp 64)))⟩,
            ⟨(some 66), (some (65, false)), (.op (.field 4 1 false (.tmp 1)))⟩,
            ⟨(some 67), (some (65, false)), (.op (.load 1 false (.tmp 66)))⟩,
            ⟨(some 68), (some (65, false)), (.op (.mov (.tmp 3)))⟩,
            ⟨(some 69), (some (65, false)), (.op (.slice 1 (.tmp 67) none (some (.tmp 68))))⟩,
            ⟨(some 70), (some (65, false)), (.op (.field 4 1 false (.tmp 1)))⟩,
            ⟨(some 71), (some (65, false)), (.op (.load 1 false (.tmp 70)))⟩,
            ⟨(some 72), (some (65, false)), (.op (.mov (.tmp 3)))⟩,
            ⟨(some 73), (some (65, false)), (.op (.index 1 (.tmp 71) (.tmp 72)))⟩,
            ⟨(some 74), (some (65, false)), (.op (.load 1 false (.tmp 73)))⟩,
            ⟨(some 75), (some (65, false)), (.call (.dat (.fn (.func 89) [] [])) [(.tmp 69), (.tmp 74)])⟩,
            ⟨(some 76), none, (.op (.pick (.tmp 65) (.dat (.lit (.bool true))) (.tmp 75)))⟩])
          (.cond (.tmp 76)
            (.seq (.region none [
              ⟨(some 2), none, (.op (.mov (.dat (.lit (.bool false)))))⟩])
            .ret)
            .skip)))
        (.region none [
          ⟨(some 46), none, (.op (.mov (.tmp 3)))⟩,
          ⟨(some 47), none, (.op (.arith .add (.tmp 46) (.dat (.lit (.int .i64 1)))))⟩,
          ⟨(some 3), none, (.op (.mov (.tmp 47)))⟩]))))))
    (.seq (.region none [
      ⟨(some 2), none, (.op (.mov (.dat (.lit (.bool true)))))⟩])
    .ret))))
  res := [.tmp 2]
theorem c75 : CmpF Tryd.prog 75 a75 := chkF_cmp (F := Tryd.f75) (by kernel_rfl) mixed (by kernel_rfl)
/-- slices.IndexFunc(()hansard/api.Word,hansard/api.Word) -/
def a79 : AF where
  nt := 19
  body := (.seq (.region none [
      ⟨(some 4), none, (.op (.mov (.dat (.lit (.int .i64 0)))))⟩])
    (.seq (.seq (.region none [
      ⟨(some 6), none, (.op (.mov (.tmp 0)))⟩,
      ⟨(some 7), none, (.op (.len (.tmp 6)))⟩,
      ⟨(some 8), none, (.op (.mov (.dat (.lit (.int .i64 0)))))⟩])
    (.block 0
      (.loop
        (.seq (.region none [
          ⟨(some 9), none, (.op (.arith .lss (.tmp 8) (.tmp 7)))⟩])
        (.seq (.cond (.tmp 9)
          .skip
          (.exit 0))
        (.seq (.block 1
          (.seq (.region none [
            ⟨(some 10), none, (.op (.mov (.tmp 8)))⟩,
            ⟨(some 5), none, (.op (.mov (.tmp 10)))⟩])
          (.seq (.region none [
            ⟨(some 11), none, (.op (.mov (.tmp 1)))⟩,
            ⟨(some 12), none, (.op (.mov (.tmp 0)))⟩,
            ⟨(some 13), none, (.op (.mov (.tmp 5)))⟩,
            ⟨(some 14), none, (.op (.index 5 (.tmp 12) (.tmp 13)))⟩,
            ⟨(some 15), none, (.op (.load 5 true (.tmp 14)))⟩,
            ⟨(some 16), none, (.call (.tmp 11) [(.tmp 15)])⟩])
          (.cond (.tmp 16)
            (.seq (.region none [
              ⟨(some 17), none, (.op (.mov (.tmp 5)))⟩,
              ⟨(some 4), none, (.op (.mov (.tmp 17)))⟩])
            .ret)
            .skip))))
        (.region none [
          ⟨(some 18), none, (.op (.arith .add (.tmp 8) (.dat (.lit (.int .i64 1)))))⟩,
          ⟨(some 8), none, (.op (.mov (.tmp 18)))⟩])))))))
    (.seq (.region none [
      ⟨(some 4), none, (.op (.mov (.dat (.lit (.int .i64 (-1))))))⟩])
    .ret)))
  res := [.tmp 4]
theorem c79 : CmpF Tryd.prog 79 a79 := chkF_cmp (F := Tryd.f79) (by kernel_rfl) mixed (by kernel_rfl)
/-- hansard/hansardref17.SameWords -/
def a80 : AF where
  nt := 27
  body := (.seq (.region none [
      ⟨(some 4), none, (.op (.mov (.dat (.lit (.bool false)))))⟩])
    (.seq (.seq (.region none [
      ⟨(some 6), none, (.op (.mov (.tmp 0)))⟩,
      ⟨(some 7), none, (.op (.len (.tmp 6)))⟩,
      ⟨(some 8), none, (.op (.mov (.tmp 1)))⟩,
      ⟨(some 9), none, (.op (.len (.tmp 8)))⟩,
      ⟨(some 10), none, (.op (.arith .neq (.tmp 7) (.tmp 9)))⟩])
    (.cond (.tmp 10)
      (.seq (.region none [
        ⟨(some 4), none, (.op (.mov (.dat (.lit (.bool false)))))⟩])
      .ret)
      .skip))
    (.seq (.seq (.region none [
      ⟨(some 5), none, (.op (.mov (.dat (.lit (.int .i64 0)))))⟩])
    (.block 0
      (.loop
        (.seq (.seq (.region none [
          ⟨(some 11), none, (.op (.mov (.tmp 5)))⟩,
          ⟨(some 12), none, (.op (.mov (.tmp 0)))⟩,
          ⟨(some 13), none, (.op (.len (.tmp 12)))⟩,
          ⟨(some 14), none, (.op (.arith .lss (.tmp 11) (.tmp 13)))⟩])
        (.cond (.tmp 14)
          .skip
          (.exit 0)))
        (.seq (.block 1
          (.seq (.region (some [[], [], [0, 1], [0, 1, 2], [], [], [4, 5], [4, 5, 6], [0, 1, 2, 3, 4, 5, 6, 7], [0, 1, 2, 3, 4, 5, 6, 7, 8]]) [
            ⟨(some 17), none, (.op (.mov (.tmp 0)))⟩,
            ⟨(some 18), none, (.op (.mov (.tmp 5)))⟩,
            ⟨(some 19), none, (.op (.index 5 (.tmp 17) (.tmp 18)))⟩,
            ⟨(some 20), none, (.op (.load 5 true (.tmp 19)))⟩,
            ⟨(some 21), none, (.op (.mov (.tmp 1)))⟩,
            ⟨(some 22), none, (.op (.mov (.tmp 5)))⟩,
            ⟨(some 23), none, (.op (.index 5 (.tmp 21) (.tmp 22)))⟩,
            ⟨(some 24), none, (.op (.load 5 true (.tmp 23)))⟩,
            ⟨(some 25), none, (.call (.dat (.fn (.func 92) [] [])) [(.tmp 20), (.tmp 24)])⟩,
            ⟨(some 26), none, (.op (.not (.tmp 25)))⟩])
          (.cond (.tmp 26)
            (.seq (.region none [
              ⟨(some 4), none, (.op (.mov (.dat (.lit (.bool false)))))⟩])
            .ret)
            .skip)))
        (.region none [
          ⟨(some 15), none, (.op (.mov (.tmp 5)))⟩,
          ⟨(some 16), none, (.op (.arith .add (.tmp 15) (.dat (.lit (.int .i64 1)))))⟩,
          ⟨(some 5), none, (.op (.mov (.tmp 16)))⟩]))))))
    (.seq (.region none [
      ⟨(some 4), none, (.op (.mov (.dat (.lit (.bool true)))))⟩])
    .ret))))
  res := [.tmp 4]
theorem c80 : CmpF Tryd.prog 80 a80 := chkF_cmp (F := Tryd.f80) (by kernel_rfl) mixed (by kernel_rfl)
/-- slices.Backward(()hansard/api.Word,hansard/api.Word)$1 -/
def a81 : AF where
  nt := 19
  body := (.seq (.region none [
      ⟨(some 4), none, (.op (.load 1 false (.tmp 1)))⟩,
      ⟨(some 5), none, (.op (.len (.tmp 4)))⟩,
      ⟨(some 6), none, (.op (.arith .sub (.tmp 5) (.dat (.lit (.int .i64 1)))))⟩,
      ⟨(some 3), none, (.op (.mov (.tmp 6)))⟩])
    (.block 0
      (.loop
        (.seq (.seq (.region none [
          ⟨(some 7), none, (.op (.mov (.tmp 3)))⟩,
          ⟨(some 8), none, (.op (.arith .geq (.tmp 7) (.dat (.lit (.int .i64 0)))))⟩])
        (.cond (.tmp 8)
          .skip
          (.exit 0)))
        (.seq (.block 1
          (.seq (.sregion [
            ⟨(some 11), none, (.op (.mov (.tmp 0)))⟩,
            ⟨(some 12), none, (.op (.mov (.tmp 3)))⟩,
            ⟨(some 13), none, (.op (.load 1 false (.tmp 1)))⟩,
            ⟨(some 14), none, (.op (.mov (.tmp 3)))⟩,
            ⟨(some 15), none, (.op (.index 5 (.tmp 13) (.tmp 14)))⟩,
            ⟨(some 16), none, (.op (.load 5 true (.tmp 15)))⟩,
            ⟨(some 17), none, (.ycall (.tmp 11) [(.tmp 12), (.tmp 16)])⟩,
            ⟨(some 18), none, (.op (.not (.tmp 17)))⟩])
          (.cond (.tmp 18)
            .ret
            .skip)))
        (.region none [
          ⟨(some 9), none, (.op (.mov (.tmp 3)))⟩,
          ⟨(some 10), none, (.op (.arith .sub (.tmp 9) (.dat (.lit (.int .i64 1)))))⟩,
          ⟨(some 3), none, (.op (.mov (.tmp 10)))⟩]))))))
  res := []
theorem c81 : CmpF Tryd.prog 81 a81 := chkF_cmp (F := Tryd.f81) (by kernel_rfl) mixed (by kernel_rfl)
/-- hansard/stream.right$1 -/
def a82 : AF where
  nt := 18
  body := (.seq (.region none [
      ⟨(some 3), none, (.op (.mov (.dat (.lit (.bool false)))))⟩])
    (.seq (.region none [
      ⟨(some 5), none, (.op (.load 1 false (.tmp 1)))⟩,
      ⟨(some 6), none, (.op (.mov (.tmp 0)))⟩,
      ⟨(some 7), none, (.call (.dat (.fn (.func 83) [] [])) [(.tmp 5), (.tmp 6)])⟩,
      ⟨(some 4), none, (.op (.mov (.tmp 7)))⟩])
    (.seq (.region none [
      ⟨(some 8), none, (.op (.load 1 false (.tmp 1)))⟩,
      ⟨(some 9), none, (.op (.mov (.tmp 0)))⟩,
      ⟨(some 10), none, (.op (.mkslice 1 [(.tmp 9)]))⟩,
      ⟨(some 11), none, (.op (.append 1 16 (.tmp 8) (.tmp 10)))⟩,
      ⟨none, none, (.op (.store 1 (.tmp 1) (.tmp 11)))⟩])
    (.seq (.region none [
      ⟨(some 12), none, (.op (.mov (.tmp 4)))⟩,
      ⟨(some 13), none, (.op (.mov (.tmp 12)))⟩,
      ⟨(some 14), (some (13, false)), (.op (.mov (.tmp 0)))⟩,
      ⟨(some 15), (some (13, false)), (.call (.dat (.fn (.func 84) [] [])) [(.tmp 14)])⟩,
      ⟨(some 16), (some (13, false)), (.op (.not (.tmp 15)))⟩,
      ⟨(some 17), none, (.op (.pick (.tmp 13) (.dat (.lit (.bool true))) (.tmp 16)))⟩,
      ⟨(some 3), none, (.op (.mov (.tmp 17)))⟩])
    .ret))))
  res := [.tmp 3]
theorem c82 : CmpF Tryd.prog 82 a82 := chkF_cmp (F := Tryd.f82) (by kernel_rfl) mixed (by kernel_rfl)
/-- slices.Contains(()string,string) -/
def a83 : AF where
  nt := 9
  body := (.seq (.region none [
      ⟨(some 4), none, (.op (.mov (.dat (.lit (.bool false)))))⟩])
    (.seq (.region none [
      ⟨(some 5), none, (.op (.mov (.tmp 0)))⟩,
      ⟨(some 6), none, (.op (.mov (.tmp 1)))⟩,
      ⟨(some 7), none, (.call (.dat (.fn (.func 93) [] [])) [(.tmp 5), (.tmp 6)])⟩,
      ⟨(some 8), none, (.op (.arith .geq (.tmp 7) (.dat (.lit (.int .i64 0)))))⟩,
      ⟨(some 4), none, (.op (.mov (.tmp 8)))⟩])
    .ret))
  res := [.tmp 4]
theorem c83 : CmpF Tryd.prog 83 a83 := chkF_cmp (F := Tryd.f83) (by kernel_rfl) mixed (by kernel_rfl)
/-- hansard/text.Word -/
def a84 : AF where
  nt := 31
  body := (.seq (.region none [
      ⟨(some 2), none, (.op (.mov (.dat (.lit (.bool false)))))⟩])
    (.seq (.region none [
      ⟨(some 6), none, (.op (.mov (.tmp 0)))⟩,
      ⟨(some 7), none, (.call (.dat (.fn (.func 94) [] [])) [(.tmp 6)])⟩,
      ⟨(some 5), none, (.op (.mov (.tmp 7)))⟩,
      ⟨(some 8), none, (.op (.extract (.tmp 5) 0))⟩,
      ⟨(some 9), none, (.op (.extract (.tmp 5) 1))⟩,
      ⟨(some 3), none, (.op (.mov (.tmp 8)))⟩,
      ⟨(some 4), none, (.op (.mov (.tmp 9)))⟩])
    (.seq (.region none [
      ⟨(some 10), none, (.op (.mov (.tmp 4)))⟩,
      ⟨(some 11), none, (.op (.arith .eql (.tmp 10) (.dat (.lit (.int .i64 0)))))⟩,
      ⟨(some 12), none, (.op (.mov (.tmp 11)))⟩,
      ⟨(some 13), (some (12, true)), (.op (.mov (.tmp 0)))⟩,
      ⟨(some 14), (some (12, true)), (.op (.lenS (.tmp 13)))⟩,
      ⟨(some 15), (some (12, true)), (.op (.arith .gtr (.tmp 14) (.dat (.lit (.int .i64 0)))))⟩,
      ⟨(some 16), none, (.op (.pick (.tmp 12) (.tmp 15) (.dat (.lit (.bool false)))))⟩,
      ⟨(some 17), none, (.op (.mov (.tmp 16)))⟩,
      ⟨(some 18), (some (17, true)), (.op (.mov (.tmp 0)))⟩,
      ⟨(some 19), (some (17, true)), (.op (.lenS (.tmp 18)))⟩,
      ⟨(some 20), (some (17, true)), (.op (.arith .leq (.tmp 19) (.dat (.lit (.int .i64 64)))))⟩,
      ⟨(some 21), none, (.op (.pick (.tmp 17) (.tmp 20) (.dat (.lit (.bool false)))))⟩,
      ⟨(some 22), none, (.op (.mov (.tmp 21)))⟩,
      ⟨(some 23), (some (22, true)), (.op (.mov (.tmp 3)))⟩,
      ⟨(some 24), (some (22, true)), (.call (.dat (.fn (.func 96) [] [])) [])⟩,
      ⟨(some 25), (some (22, true)), (.op (.index 2 (.tmp 24) (.dat (.lit (.int .i64 0)))))⟩,
      ⟨(some 26), (some (22, true)), (.op (.field 1 1 false (.tmp 25)))⟩,
      ⟨(some 27), (some (22, true)), (.op (.load 1 false (.tmp 26)))⟩,
      ⟨(some 28), (some (22, true)), (.call (.dat (.fn (.func 95) [] [])) [(.tmp 23), (.tmp 27)])⟩,
      ⟨(some 29), (some (22, true)), (.op (.not (.tmp 28)))⟩,
      ⟨(some 30), none, (.op (.pick (.tmp 22) (.tmp 29) (.dat (.lit (.bool false)))))⟩,
      ⟨(some 2), none, (.op (.mov (.tmp 30)))⟩])
    .ret)))
  res := [.tmp 2]
theorem c84 : CmpF Tryd.prog 84 a84 := chkF_cmp (F := Tryd.f84) (by kernel_rfl) mixed (by kernel_rfl)
/-- slices.ContainsFunc(()string,string) -/
def a85 : AF where
  nt := 9
  body := (.seq (.region none [
      ⟨(some 4), none, (.op (.mov (.dat (.lit (.bool false)))))⟩])
    (.seq (.sregion [
      ⟨(some 5), none, (.op (.mov (.tmp 0)))⟩,
      ⟨(some 6), none, (.op (.mov (.tmp 1)))⟩,
      ⟨(some 7), none, (.icall (.dat (.fn (.func 97) [] [])) [(.tmp 5), (.tmp 6)])⟩,
      ⟨(some 8), none, (.op (.arith .geq (.tmp 7) (.dat (.lit (.int .i64 0)))))⟩,
      ⟨(some 4), none, (.op (.mov (.tmp 8)))⟩])
    .ret))
  res := [.tmp 4]
theorem c85 : CmpF Tryd.prog 85 a85 := chkF_cmp (F := Tryd.f85) (by kernel_rfl) mixed (by kernel_rfl)
/-- slices.Concat(()hansard/api.Word,hansard/api.Word) -/
def a86 : AF where
  nt := 36
  body := (.seq (.region none [
      ⟨(some 2), none, (.op (.mov (.dat (.nil 5))))⟩])
    (.seq (.region none [
      ⟨(some 3), none, (.op (.mov (.dat (.lit (.int .i64 0)))))⟩])
    (.seq (.seq (.region none [
      ⟨(some 9), none, (.op (.mov (.tmp 0)))⟩,
      ⟨(some 10), none, (.op (.len (.tmp 9)))⟩,
      ⟨(some 11), none, (.op (.mov (.dat (.lit (.int .i64 0)))))⟩])
    (.block 0
      (.loop
        (.seq (.region none [
          ⟨(some 12), none, (.op (.arith .lss (.tmp 11) (.tmp 10)))⟩])
        (.seq (.cond (.tmp 12)
          .skip
          (.exit 0))
        (.seq (.block 1
          (.seq (.region none [
            ⟨(some 13), none, (.op (.index 1 (.tmp 9) (.tmp 11)))⟩,
            ⟨(some 14), none, (.op (.load 1 false (.tmp 13)))⟩,
            ⟨(some 5), none, (.op (.mov (.tmp 14)))⟩])
          (.seq (.region none [
            ⟨(some 15), none, (.op (.mov (.tmp 3)))⟩,
            ⟨(some 16), none, (.op (.mov (.tmp 5)))⟩,
            ⟨(some 17), none, (.op (.len (.tmp 16)))⟩,
            ⟨(some 18), none, (.op (.arith .add (.tmp 15) (.tmp 17)))⟩,
            ⟨(some 3), none, (.op (.mov (.tmp 18)))⟩])
          (.seq (.region none [
            ⟨(some 19), none, (.op (.mov (.tmp 3)))⟩,
            ⟨(some 20), none, (.op (.arith .lss (.tmp 19) (.dat (.lit (.int .i64 0)))))⟩])
          (.cond (.tmp 20)
            (.sregion [
              ⟨(some 21), none, (.op (.ifc 9 (.dat (.lit (.string ⟨#[108, 101, 110, 32, 111, 117, 116, 32, 111, 102, 32, 114, 97, 110, 103, 101]⟩)))))⟩,
              ⟨none, none, (.panic (.tmp 21))⟩])
            .skip)))))
        (.region none [
          ⟨(some 22), none, (.op (.arith .add (.tmp 11) (.dat (.lit (.int .i64 1)))))⟩,
          ⟨(some 11), none, (.op (.mov (.tmp 22)))⟩])))))))
    (.seq (.sregion [
      ⟨(some 23), none, (.op (.mov (.tmp 3)))⟩,
      ⟨(some 24), none, (.icall (.dat (.fn (.func 98) [] [])) [(.dat (.nil 5)), (.tmp 23)])⟩,
      ⟨(some 6), none, (.op (.mov (.tmp 24)))⟩])
    (.seq (.seq (.region none [
      ⟨(some 25), none, (.op (.mov (.tmp 0)))⟩,
      ⟨(some 26), none, (.op (.len (.tmp 25)))⟩,
      ⟨(some 27), none, (.op (.mov (.dat (.lit (.int .i64 0)))))⟩])
    (.block 2
      (.loop
        (.seq (.region none [
          ⟨(some 28), none, (.op (.arith .lss (.tmp 27) (.tmp 26)))⟩])
        (.seq (.cond (.tmp 28)
          .skip
          (.exit 2))
        (.seq (.block 3
          (.seq (.region none [
            ⟨(some 29), none, (.op (.index 1 (.tmp 25) (.tmp 27)))⟩,
            ⟨(some 30), none, (.op (.load 1 false (.tmp 29)))⟩,
            ⟨(some 8), none, (.op (.mov (.tmp 30)))⟩])
          (.region none [
            ⟨(some 31), none, (.op (.mov (.tmp 6)))⟩,
            ⟨(some 32), none, (.op (.mov (.tmp 8)))⟩,
            ⟨(some 33), none, (.op (.append 5 64 (.tmp 31) (.tmp 32)))⟩,
            ⟨(some 6), none, (.op (.mov (.tmp 33)))⟩])))
        (.region none [
          ⟨(some 34), none, (.op (.arith .add (.tmp 27) (.dat (.lit (.int .i64 1)))))⟩,
          ⟨(some 27), none, (.op (.mov (.tmp 34)))⟩])))))))
    (.seq (.region none [
      ⟨(some 35), none, (.op (.mov (.tmp 6)))⟩,
      ⟨(some 2), none, (.op (.mov (.tmp 35)))⟩])
    .ret))))))
  res := [.tmp 2]
theorem c86 : CmpF Tryd.prog 86 a86 := chkF_cmp (F := Tryd.f86) (by kernel_rfl) mixed (by kernel_rfl)
/-- slices.Equal(()string,string) -/
def a87 : AF where
  nt := 26
  body := (.seq (.region none [
      ⟨(some 4), none, (.op (.mov (.dat (.lit (.bool false)))))⟩])
    (.seq (.seq (.region none [
      ⟨(some 6), none, (.op (.mov (.tmp 0)))⟩,
      ⟨(some 7), none, (.op (.len (.tmp 6)))⟩,
      ⟨(some 8), none, (.op (.mov (.tmp 1)))⟩,
      ⟨(some 9), none, (.op (.len (.tmp 8)))⟩,
      ⟨(some 10), none, (.op (.arith .neq (.tmp 7) (.tmp 9)))⟩])
    (.cond (.tmp 10)
      (.seq (.region none [
        ⟨(some 4), none, (.op (.mov (.dat (.lit (.bool false)))))⟩])
      .ret)
      .skip))
    (.seq (.seq (.region none [
      ⟨(some 11), none, (.op (.mov (.tmp 0)))⟩,
      ⟨(some 12), none, (.op (.len (.tmp 11)))⟩,
      ⟨(some 13), none, (.op (.mov (.dat (.lit (.int .i64 0)))))⟩])
    (.block 0
      (.loop
        (.seq (.region none [
          ⟨(some 14), none, (.op (.arith .lss (.tmp 13) (.tmp 12)))⟩])
        (.seq (.cond (.tmp 14)
          .skip
          (.exit 0))
        (.seq (.block 1
          (.seq (.region none [
            ⟨(some 15), none, (.op (.mov (.tmp 13)))⟩,
            ⟨(some 5), none, (.op (.mov (.tmp 15)))⟩])
          (.seq (.region (some [[], [], [0, 1], [0, 1, 2], [], [], [4, 5], [4, 5, 6], [0, 1, 2, 3, 4, 5, 6, 7]]) [
            ⟨(some 16), none, (.op (.mov (.tmp 0)))⟩,
            ⟨(some 17), none, (.op (.mov (.tmp 5)))⟩,
            ⟨(some 18), none, (.op (.index 1 (.tmp 16) (.tmp 17)))⟩,
            ⟨(some 19), none, (.op (.load 1 false (.tmp 18)))⟩,
            ⟨(some 20), none, (.op (.mov (.tmp 1)))⟩,
            ⟨(some 21), none, (.op (.mov (.tmp 5)))⟩,
            ⟨(some 22), none, (.op (.index 1 (.tmp 20) (.tmp 21)))⟩,
            ⟨(some 23), none, (.op (.load 1 false (.tmp 22)))⟩,
            ⟨(some 24), none, (.op (.arith .neq (.tmp 19) (.tmp 23)))⟩])
          (.cond (.tmp 24)
            (.seq (.region none [
              ⟨(some 4), none, (.op (.mov (.dat (.lit (.bool false)))))⟩])
            .ret)
            .skip))))
        (.region none [
          ⟨(some 25), none, (.op (.arith .add (.tmp 13) (.dat (.lit (.int .i64 1)))))⟩,
          ⟨(some 13), none, (.op (.mov (.tmp 25)))⟩])))))))
    (.seq (.region none [
      ⟨(some 4), none, (.op (.mov (.dat (.lit (.bool true)))))⟩])
    .ret))))
  res := [.tmp 4]
theorem c87 : CmpF Tryd.prog 87 a87 := chkF_cmp (F := Tryd.f87) (by kernel_rfl) mixed (by kernel_rfl)
/-- hansard/hansardref09.Word -/
def a88 : AF where
  nt := 32
  body := (.seq (.region none [
      ⟨(some 2), none, (.op (.mov (.dat (.lit (.bool false)))))⟩])
    (.seq (.seq (.region none [
      ⟨(some 6), none, (.op (.mov (.tmp 0)))⟩,
      ⟨(some 7), none, (.op (.lenS (.tmp 6)))⟩,
      ⟨(some 8), none, (.op (.arith .lss (.tmp 7) (.dat (.lit (.int .i64 1)))))⟩,
      ⟨(some 9), none, (.op (.mov (.tmp 8)))⟩,
      ⟨(some 10), (some (9, false)), (.op (.mov (.tmp 0)))⟩,
      ⟨(some 11), (some (9, false)), (.op (.lenS (.tmp 10)))⟩,
      ⟨(some 12), (some (9, false)), (.op (.arith .gtr (.tmp 11) (.dat (.lit (.int .i64 64)))))⟩,
      ⟨(some 13), none, (.op (.pick (.tmp 9) (.dat (.lit (.bool true))) (.tmp 12)))⟩])
    (.cond (.tmp 13)
      (.seq (.region none [
        ⟨(some 2), none, (.op (.mov (.dat (.lit (.bool false)))))⟩])
      .ret)
      .skip))
    (.seq (.region none [
      ⟨(some 15), none, (.op (.mov (.tmp 0)))⟩,
      ⟨(some 16), none, (.call (.dat (.fn (.func 99) [] [])) [(.tmp 15)])⟩,
      ⟨(some 14), none, (.op (.mov (.tmp 16)))⟩,
      ⟨(some 17), none, (.op (.extract (.tmp 14) 0))⟩,
      ⟨(some 18), none, (.op (.extract (.tmp 14) 1))⟩,
      ⟨(some 3), none, (.op (.mov (.tmp 17)))⟩,
      ⟨(some 4), none, (.op (.mov (.tmp 18)))⟩])
    (.seq (.seq (.region none [
      ⟨(some 19), none, (.op (.mov (.tmp 4)))⟩,
      ⟨(some 20), none, (.op (.arith .neq (.tmp 19) (.dat (.lit (.int .i64 0)))))⟩])
    (.cond (.tmp 20)
      (.seq (.region none [
        ⟨(some 2), none, (.op (.mov (.dat (.lit (.bool false)))))⟩])
      .ret)
      .skip))
    (.seq (.seq (.region none [
      ⟨(some 5), none, (.op (.mov (.dat (.lit (.int .i64 0)))))⟩])
    (.block 0
      (.loop
        (.seq (.seq (.region none [
          ⟨(some 21), none, (.op (.mov (.tmp 5)))⟩,
          ⟨(some 22), none, (.op (.mov (.tmp 3)))⟩,
          ⟨(some 23), none, (.op (.len (.tmp 22)))⟩,
          ⟨(some 24), none, (.op (.arith .lss (.tmp 21) (.tmp 23)))⟩])
        (.cond (.tmp 24)
          .skip
          (.exit 0)))
        (.seq (.block 1
          (.seq (.region none [
            ⟨(some 27), none, (.op (.mov (.tmp 3)))⟩,
            ⟨(some 28), none, (.op (.mov (.tmp 5)))⟩,
            ⟨(some 29), none, (.op (.index 1 (.tmp 27) (.tmp 28)))⟩,
            ⟨(some 30), none, (.op (.load 1 false (.tmp 29)))⟩,
            ⟨(some 31), none, (.call (.dat (.fn (.func 100) [] [])) [(.tmp 30)])⟩])
          (.cond (.tmp 31)
            (.seq (.region none [
              ⟨(some 2), none, (.op (.mov (.dat (.lit (.bool false)))))⟩])
            .ret)
            .skip)))
        (.region none [
          ⟨(some 25), none, (.op (.mov (.tmp 5)))⟩,
          ⟨(some 26), none, (.op (.arith .add (.tmp 25) (.dat (.lit (.int .i64 1)))))⟩,
          ⟨(some 5), none, (.op (.mov (.tmp 26)))⟩]))))))
    (.seq (.region none [
      ⟨(some 2), none, (.op (.mov (.dat (.lit (.bool true)))))⟩])
    .ret))))))
  res := [.tmp 2]
theorem c88 : CmpF Tryd.prog 88 a88 := chkF_cmp (F := Tryd.f88) (by kernel_rfl) mixed (by kernel_rfl)
/-- hansard/hansardref17.Has -/
def a89 : AF where
  nt := 18
  body := (.seq (.region none [
      ⟨(some 4), none, (.op (.mov (.dat (.lit (.bool false)))))⟩])
    (.seq (.seq (.region none [
      ⟨(some 5), none, (.op (.mov (.dat (.lit (.int .i64 0)))))⟩])
    (.block 0
      (.loop
        (.seq (.seq (.region none [
          ⟨(some 6), none, (.op (.mov (.tmp 5)))⟩,
          ⟨(some 7), none, (.op (.mov (.tmp 0)))⟩,
          ⟨(some 8), none, (.op (.len (.tmp 7)))⟩,
          ⟨(some 9), none, (.op (.arith .lss (.tmp 6) (.tmp 8)))⟩])
        (.cond (.tmp 9)
          .skip
          (.exit 0)))
        (.seq (.block 1
          (.seq (.region none [
            ⟨(some 12), none, (.op (.mov (.tmp 0)))⟩,
            ⟨(some 13), none, (.op (.mov (.tmp 5)))⟩,
            ⟨(some 14), none, (.op (.index 1 (.tmp 12) (.tmp 13)))⟩,
            ⟨(some 15), none, (.op (.load 1 false (.tmp 14)))⟩,
            ⟨(some 16), none, (.op (.mov (.tmp 1)))⟩,
            ⟨(some 17), none, (.op (.arith .eql (.tmp 15) (.tmp 16)))⟩])
          (.cond (.tmp 17)
            (.seq (.region none [
              ⟨(some 4), none, (.op (.mov (.dat (.lit (.bool true)))))⟩])
            .ret)
            .skip)))
        (.region none [
          ⟨(some 10), none, (.op (.mov (.tmp 5)))⟩,
          ⟨(some 11), none, (.op (.arith .add (.tmp 10) (.dat (.lit (.int .i64 1)))))⟩,
          ⟨(some 5), none, (.op (.mov (.tmp 11)))⟩]))))))
    (.seq (.region none [
      ⟨(some 4), none, (.op (.mov (.dat (.lit (.bool false)))))⟩])
    .ret)))
  res := [.tmp 4]
theorem c89 : CmpF Tryd.prog 89 a89 := chkF_cmp (F := Tryd.f89) (by kernel_rfl) mixed (by kernel_rfl)
/-- hansard/hansardref17.SameWord -/
def a92 : AF where
  nt := 38
  body := (.seq (.region none [
      ⟨(some 2), none, (.op (.box true (.tmp 0)))⟩,
      ⟨(some 3), none, (.op (.box true (.tmp 1)))⟩,
      ⟨(some 4), none, (.op (.mov (.dat (.lit (.bool false)))))⟩])
    (.seq (.region none [
      ⟨(some 5), none, (.op (.field 0 1 false (.tmp 2)))⟩,
      ⟨(some 6), none, (.op (.load 1 false (.tmp 5)))⟩,
      ⟨(some 7), none, (.op (.field 0 1 false (.tmp 3)))⟩,
      ⟨(some 8), none, (.op (.load 1 false (.tmp 7)))⟩,
      ⟨(some 9), none, (.op (.arith .eql (.tmp 6) (.tmp 8)))⟩,
      ⟨(some 10), none, (.op (.mov (.tmp 9)))⟩,
      ⟨(some 11), (some (10, true)), (.op (.field 1 1 false (.tmp 2)))⟩,
      ⟨(some 12), (some (10, true)), (.op (.load 1 false (.tmp 11)))⟩,
      ⟨(some 13), (some (10, true)), (.op (.field 1 1 false (.tmp 3)))⟩,
      ⟨(some 14), (some (10, true)), (.op (.load 1 false (.tmp 13)))⟩,
      ⟨(some 15), (some (10, true)), (.op (.arith .eql (.tmp 12) (.tmp 14)))⟩,
      ⟨(some 16), none, (.op (.pick (.tmp 10) (.tmp 15) (.dat (.lit (.bool false)))))⟩,
      ⟨(some 17), none, (.op (.mov (.tmp 16)))⟩,
      ⟨(some 18), (some (17, true)), (.op (.field 2 1 false (.tmp 2)))⟩,
      ⟨(some 19), (some (17, true)), (.op (.load 1 false (.tmp 18)))⟩,
      ⟨(some 20), (some (17, true)), (.op (.field 2 1 false (.tmp 3)))⟩,
      ⟨(some 21), (some (17, true)), (.op (.load 1 false (.tmp 20)))⟩,
      ⟨(some 22), (some (17, true)), (.op (.arith .eql (.tmp 19) (.tmp 21)))⟩,
      ⟨(some 23), none, (.op (.pick (.tmp 17) (.tmp 22) (.dat (.lit (.bool false)))))⟩,
      ⟨(some 24), none, (.op (.mov (.tmp 23)))⟩,
      ⟨(some 25), (some (24, true)), (.op (.field 3 1 false (.tmp 2)))⟩,
      ⟨(some 26), (some (24, true)), (.op (.load 1 false (.tmp 25)))⟩,
      ⟨(some 27), (some (24, true)), (.op (.field 3 1 false (.tmp 3)))⟩,
      ⟨(some 28), (some (24, true)), (.op (.load 1 false (.tmp 27)))⟩,
      ⟨(some 29), (some (24, true)), (.op (.arith .eql (.tmp 26) (.tmp 28)))⟩,
      ⟨(some 30), none, (.op (.pick (.tmp 24) (.tmp 29) (.dat (.lit (.bool false)))))⟩,
      ⟨(some 31), none, (.op (.mov (.tmp 30)))⟩,
      ⟨(some 32), (some (31, true)), (.op (.field 4 1 false (.tmp 2)))⟩,
      ⟨(some 33), (some (31, true)), (.op (.load 1 false (.tmp 32)))⟩,
      ⟨(some 34), (some (31, true)), (.op (.field 4 1 false (.tmp 3)))⟩,
      ⟨(some 35), (some (31, true)), (.op (.load 1 false (.tmp 34)))⟩,
      ⟨(some 36), (some (31, true)), (.call (.dat (.fn (.func 101) [] [])) [(.tmp 33), (.tmp 35)])⟩,
      ⟨(some 37), none, (.op (.pick (.tmp 31) (.tmp 36) (.dat (.lit (.bool false)))))⟩,
      ⟨(some 4), none, (.op (.mov (.tmp 37)))⟩])
    .ret))
  res := [.tmp 4]
theorem c92 : CmpF Tryd.prog 92 a92 := chkF_cmp (F := Tryd.f92) (by kernel_rfl) mixed (by kernel_rfl)
/-- slices.Index(()string,string) -/
def a93 : AF where
  nt := 19
  body := (.seq (.region none [
      ⟨(some 4), none, (.op (.mov (.dat (.lit (.int .i64 0)))))⟩])
    (.seq (.seq (.region none [
      ⟨(some 6), none, (.op (.mov (.tmp 0)))⟩,
      ⟨(some 7), none, (.op (.len (.tmp 6)))⟩,
      ⟨(some 8), none, (.op (.mov (.dat (.lit (.int .i64 0)))))⟩])
    (.block 0
      (.loop
        (.seq (.region none [
          ⟨(some 9), none, (.op (.arith .lss (.tmp 8) (.tmp 7)))⟩])
        (.seq (.cond (.tmp 9)
          .skip
          (.exit 0))
        (.seq (.block 1
          (.seq (.region none [
            ⟨(some 10), none, (.op (.mov (.tmp 8)))⟩,
            ⟨(some 5), none, (.op (.mov (.tmp 10)))⟩])
          (.seq (.region none [
            ⟨(some 11), none, (.op (.mov (.tmp 1)))⟩,
            ⟨(some 12), none, (.op (.mov (.tmp 0)))⟩,
            ⟨(some 13), none, (.op (.mov (.tmp 5)))⟩,
            ⟨(some 14), none, (.op (.index 1 (.tmp 12) (.tmp 13)))⟩,
            ⟨(some 15), none, (.op (.load 1 false (.tmp 14)))⟩,
            ⟨(some 16), none, (.op (.arith .eql (.tmp 11) (.tmp 15)))⟩])
          (.cond (.tmp 16)
            (.seq (.region none [
              ⟨(some 17), none, (.op (.mov (.tmp 5)))⟩,
              ⟨(some 4), none, (.op (.mov (.tmp 17)))⟩])
            .ret)
            .skip))))
        (.region none [
          ⟨(some 18), none, (.op (.arith .add (.tmp 8) (.dat (.lit (.int .i64 1)))))⟩,
          ⟨(some 8), none, (.op (.mov (.tmp 18)))⟩])))))))
    (.seq (.region none [
      ⟨(some 4), none, (.op (.mov (.dat (.lit (.int .i64 (-1))))))⟩])
    .ret)))
  res := [.tmp 4]
theorem c93 : CmpF Tryd.prog 93 a93 := chkF_cmp (F := Tryd.f93) (by kernel_rfl) mixed (by kernel_rfl)
/-- hansard/text.Runes -/
def a94 : AF where
  nt := 11
  body := (.seq (.region none [
      ⟨(some 2), none, (.op (.alloc false [.nil 1]))⟩,
      ⟨(some 3), none, (.op (.alloc false [.lit (.int .i64 0)]))⟩])
    (.seq (.sregion [
      ⟨(some 4), none, (.op (.func (.func 102) [] [(.tmp 2), (.tmp 3)]))⟩,
      ⟨none, none, (.defer (.tmp 4) [])⟩])
    (.seq (.seq (.region none [
      ⟨(some 5), none, (.op (.mov (.tmp 0)))⟩,
      ⟨(some 6), none, (.op (.lenS (.tmp 5)))⟩,
      ⟨(some 7), none, (.op (.arith .gtr (.tmp 6) (.dat (.lit (.int .i64 4096)))))⟩])
    (.cond (.tmp 7)
      (.seq (.region none [
        ⟨none, none, (.op (.store 1 (.tmp 2) (.dat (.nil 1))))⟩,
        ⟨none, none, (.op (.store 1 (.tmp 3) (.dat (.lit (.int .i64 2)))))⟩])
      .ret)
      .skip))
    (.seq (.sregion [
      ⟨(some 8), none, (.op (.mov (.tmp 0)))⟩,
      ⟨(some 9), none, (.icall (.dat (.fn (.func 104) [] [])) [(.tmp 8)])⟩,
      ⟨(some 10), none, (.icall (.dat (.fn (.func 103) [] [])) [(.tmp 9)])⟩,
      ⟨none, none, (.op (.store 1 (.tmp 2) (.tmp 10)))⟩,
      ⟨none, none, (.op (.store 1 (.tmp 3) (.dat (.lit (.int .i64 0)))))⟩])
    .ret))))
  res := [.cell 2 1 false, .cell 3 1 false]
theorem c94 : CmpF Tryd.prog 94 a94 := chkF_cmp (F := Tryd.f94) (by kernel_rfl) mixed (by kernel_rfl)
/-- slices.ContainsFunc(()int,int) -/
def a95 : AF where
  nt := 9
  body := (.seq (.region none [
      ⟨(some 4), none, (.op (.mov (.dat (.lit (.bool false)))))⟩])
    (.seq (.region none [
      ⟨(some 5), none, (.op (.mov (.tmp 0)))⟩,
      ⟨(some 6), none, (.op (.mov (.tmp 1)))⟩,
      ⟨(some 7), none, (.call (.dat (.fn (.func 105) [] [])) [(.tmp 5), (.tmp 6)])⟩,
      ⟨(some 8), none, (.op (.arith .geq (.tmp 7) (.dat (.lit (.int .i64 0)))))⟩,
      ⟨(some 4), none, (.op (.mov (.tmp 8)))⟩])
    .ret))
  res := [.tmp 4]
theorem c95 : CmpF Tryd.prog 95 a95 := chkF_cmp (F := Tryd.f95) (by kernel_rfl) mixed (by kernel_rfl)
/-- hansard/text.classes -/
def a96 : AF where
  nt := 20
  body := (.seq (.region none [
      ⟨(some 0), none, (.op (.mov (.dat (.nil 2))))⟩])
    (.seq (.region none [
      ⟨(some 1), none, (.op (.build [.lit (.int .i64 0), .lit (.nilFunc)] [(0, 1, (.dat (.lit (.int .i64 1)))), (1, 1, (.dat (.fn (.func 106) [] [])))]))⟩,
      ⟨(some 2), none, (.op (.build [.lit (.int .i64 0), .lit (.int .i64 0)] [(0, 1, (.dat (.lit (.int .i64 48)))), (1, 1, (.dat (.lit (.int .i64 57))))]))⟩,
      ⟨(some 3), none, (.op (.mkslice 2 [(.tmp 2)]))⟩,
      ⟨(some 4), none, (.call (.dat (.fn (.func 107) [] [])) [(.tmp 3)])⟩,
      ⟨(some 5), none, (.op (.build [.lit (.int .i64 0), .lit (.nilFunc)] [(0, 1, (.dat (.lit (.int .i64 2)))), (1, 1, (.tmp 4))]))⟩,
      ⟨(some 6), none, (.op (.build [.lit (.int .i64 0), .lit (.int .i64 0)] [(0, 1, (.dat (.lit (.int .i64 65)))), (1, 1, (.dat (.lit (.int .i64 90))))]))⟩,
      ⟨(some 7), none, (.op (.build [.lit (.int .i64 0), .lit (.int .i64 0)] [(0, 1, (.dat (.lit (.int .i64 97)))), (1, 1, (.dat (.lit (.int .i64 122))))]))⟩,
      ⟨(some 8), none, (.op (.build [.lit (.int .i64 0), .lit (.int .i64 0)] [(0, 1, (.dat (.lit (.int .i64 192)))), (1, 1, (.dat (.lit (.int .i64 214))))]))⟩,
      ⟨(some 9), none, (.op (.build [.lit (.int .i64 0), .lit (.int .i64 0)] [(0, 1, (.dat (.lit (.int .i64 216)))), (1, 1, (.dat (.lit (.int .i64 246))))]))⟩,
      ⟨(some 10), none, (.op (.build [.lit (.int .i64 0), .lit (.int .i64 0)] [(0, 1, (.dat (.lit (.int .i64 248)))), (1, 1, (.dat (.lit (.int .i64 591))))]))⟩,
      ⟨(some 11), none, (.op (.build [.lit (.int .i64 0), .lit (.int .i64 0)] [(0, 1, (.dat (.lit (.int .i64 880)))), (1, 1, (.dat (.lit (.int .i64 1279))))]))⟩,
      ⟨(some 12), none, (.op (.mkslice 2 [(.tmp 6), (.tmp 7), (.tmp 8), (.tmp 9), (.tmp 10), (.tmp 11)]))⟩,
      ⟨(some 13), none, (.call (.dat (.fn (.func 107) [] [])) [(.tmp 12)])⟩,
      ⟨(some 14), none, (.op (.build [.lit (.int .i64 0), .lit (.nilFunc)] [(0, 1, (.dat (.lit (.int .i64 3)))), (1, 1, (.tmp 13))]))⟩,
      ⟨(some 15), none, (.op (.build [.lit (.int .i64 0), .lit (.int .i64 0)] [(0, 1, (.dat (.lit (.int .i64 1424)))), (1, 1, (.dat (.lit (.int .i64 1983))))]))⟩,
      ⟨(some 16), none, (.op (.mkslice 2 [(.tmp 15)]))⟩,
      ⟨(some 17), none, (.call (.dat (.fn (.func 107) [] [])) [(.tmp 16)])⟩,
      ⟨(some 18), none, (.op (.build [.lit (.int .i64 0), .lit (.nilFunc)] [(0, 1, (.dat (.lit (.int .i64 4)))), (1, 1, (.tmp 17))]))⟩,
      ⟨(some 19), none, (.op (.mkslice 2 [(.tmp 1), (.tmp 5), (.tmp 14), (.tmp 18)]))⟩,
      ⟨(some 0), none, (.op (.mov (.tmp 19)))⟩])
    .ret))
  res := [.tmp 0]
theorem c96 : CmpF Tryd.prog 96 a96 := chkF_cmp (F := Tryd.f96) (by kernel_rfl) mixed (by kernel_rfl)
/-- slices.IndexFunc(()string,string) -/
def a97 : AF where
  nt := 19
  body := (.seq (.region none [
      ⟨(some 4), none, (.op (.mov (.dat (.lit (.int .i64 0)))))⟩])
    (.seq (.seq (.region none [
      ⟨(some 6), none, (.op (.mov (.tmp 0)))⟩,
      ⟨(some 7), none, (.op (.len (.tmp 6)))⟩,
      ⟨(some 8), none, (.op (.mov (.dat (.lit (.int .i64 0)))))⟩])
    (.block 0
      (.loop
        (.seq (.region none [
          ⟨(some 9), none, (.op (.arith .lss (.tmp 8) (.tmp 7)))⟩])
        (.seq (.cond (.tmp 9)
          .skip
          (.exit 0))
        (.seq (.block 1
          (.seq (.region none [
            ⟨(some 10), none, (.op (.mov (.tmp 8)))⟩,
            ⟨(some 5), none, (.op (.mov (.tmp 10)))⟩])
          (.seq (.sregion [
            ⟨(some 11), none, (.op (.mov (.tmp 1)))⟩,
            ⟨(some 12), none, (.op (.mov (.tmp 0)))⟩,
            ⟨(some 13), none, (.op (.mov (.tmp 5)))⟩,
            ⟨(some 14), none, (.op (.index 1 (.tmp 12) (.tmp 13)))⟩,
            ⟨(some 15), none, (.op (.load 1 false (.tmp 14)))⟩,
            ⟨(some 16), none, (.icall (.tmp 11) [(.tmp 15)])⟩])
          (.cond (.tmp 16)
            (.seq (.region none [
              ⟨(some 17), none, (.op (.mov (.tmp 5)))⟩,
              ⟨(some 4), none, (.op (.mov (.tmp 17)))⟩])
            .ret)
            .skip))))
        (.region none [
          ⟨(some 18), none, (.op (.arith .add (.tmp 8) (.dat (.lit (.int .i64 1)))))⟩,
          ⟨(some 8), none, (.op (.mov (.tmp 18)))⟩])))))))
    (.seq (.region none [
      ⟨(some 4), none, (.op (.mov (.dat (.lit (.int .i64 (-1))))))⟩])
    .ret)))
  res := [.tmp 4]
theorem c97 : CmpF Tryd.prog 97 a97 := chkF_cmp (F := Tryd.f97) (by kernel_rfl) mixed (by kernel_rfl)
/-- slices.Grow(()hansard/api.Word,hansard/api.Word) -/
def a98 : AF where
  nt := 27
  body := (.seq (.region none [
      ⟨(some 4), none, (.op (.mov (.dat (.nil 5))))⟩])
    (.seq (.seq (.region none [
      ⟨(some 5), none, (.op (.mov (.tmp 1)))⟩,
      ⟨(some 6), none, (.op (.arith .lss (.tmp 5) (.dat (.lit (.int .i64 0)))))⟩])
    (.cond (.tmp 6)
      (.sregion [
        ⟨(some 7), none, (.op (.ifc 9 (.dat (.lit (.string ⟨#[99, 97, 110, 110, 111, 116, 32, 98, 101, 32, 110, 101, 103, 97, 116, 105, 118, 101]⟩)))))⟩,
        ⟨none, none, (.panic (.tmp 7))⟩])
      .skip))
    (.seq (.seq (.region none [
      ⟨(some 8), none, (.op (.mov (.tmp 1)))⟩,
      ⟨(some 9), none, (.op (.mov (.tmp 0)))⟩,
      ⟨(some 10), none, (.op (.ext .capNil [(.tmp 9)]))⟩,
      ⟨(some 11), none, (.op (.mov (.tmp 0)))⟩,
      ⟨(some 12), none, (.op (.len (.tmp 11)))⟩,
      ⟨(some 13), none, (.op (.arith .sub (.tmp 10) (.tmp 12)))⟩,
      ⟨(some 14), none, (.op (.arith .sub (.tmp 8) (.tmp 13)))⟩,
      ⟨(some 1), none, (.op (.mov (.tmp 14)))⟩])
    (.seq (.region none [
      ⟨(some 15), none, (.op (.mov (.tmp 1)))⟩,
      ⟨(some 16), none, (.op (.arith .gtr (.tmp 15) (.dat (.lit (.int .i64 0)))))⟩])
    (.cond (.tmp 16)
      (.region none [
        ⟨(some 17), none, (.op (.mov (.tmp 0)))⟩,
        ⟨(some 18), none, (.op (.mov (.tmp 0)))⟩,
        ⟨(some 19), none, (.op (.ext .capNil [(.tmp 18)]))⟩,
        ⟨(some 20), none, (.op (.slice 5 (.tmp 17) none (some (.tmp 19))))⟩,
        ⟨(some 21), none, (.op (.mov (.tmp 1)))⟩,
        ⟨(some 22), none, (.op (.ext (.appendN 5 64) [(.tmp 20), (.tmp 21)]))⟩,
        ⟨(some 23), none, (.op (.mov (.tmp 0)))⟩,
        ⟨(some 24), none, (.op (.len (.tmp 23)))⟩,
        ⟨(some 25), none, (.op (.slice 5 (.tmp 22) none (some (.tmp 24))))⟩,
        ⟨(some 0), none, (.op (.mov (.tmp 25)))⟩])
      .skip)))
    (.seq (.region none [
      ⟨(some 26), none, (.op (.mov (.tmp 0)))⟩,
      ⟨(some 4), none, (.op (.mov (.tmp 26)))⟩])
    .ret))))
  res := [.tmp 4]
theorem c98 : CmpF Tryd.prog 98 a98 := chkF_cmp (F := Tryd.f98) (by kernel_rfl) mixed (by kernel_rfl)
/-- hansard/hansardref09.Runes -/
def a99 : AF where
  nt := 29
  body := (.seq (.region none [
      ⟨(some 2), none, (.op (.mov (.dat (.nil 1))))⟩,
      ⟨(some 3), none, (.op (.mov (.dat (.lit (.int .i64 0)))))⟩])
    (.seq (.seq (.region none [
      ⟨(some 7), none, (.op (.mov (.tmp 0)))⟩,
      ⟨(some 8), none, (.op (.lenS (.tmp 7)))⟩,
      ⟨(some 9), none, (.op (.arith .gtr (.tmp 8) (.dat (.lit (.int .i64 4096)))))⟩])
    (.cond (.tmp 9)
      (.seq (.region none [
        ⟨(some 2), none, (.op (.mov (.dat (.nil 1))))⟩,
        ⟨(some 3), none, (.op (.mov (.dat (.lit (.int .i64 2)))))⟩])
      .ret)
      .skip))
    (.seq (.region none [
      ⟨(some 10), none, (.op (.mkslice 1 []))⟩,
      ⟨(some 4), none, (.op (.mov (.tmp 10)))⟩])
    (.seq (.block 0
      (.loop
        (.seq (.seq (.region none [
          ⟨(some 11), none, (.op (.mov (.tmp 0)))⟩,
          ⟨(some 12), none, (.op (.lenS (.tmp 11)))⟩,
          ⟨(some 13), none, (.op (.arith .gtr (.tmp 12) (.dat (.lit (.int .i64 0)))))⟩])
        (.cond (.tmp 13)
          .skip
          (.exit 0)))
        (.block 1
          (.seq (.region none [
            ⟨(some 15), none, (.op (.mov (.tmp 0)))⟩,
            ⟨(some 16), none, (.call (.dat (.fn (.func 108) [] [])) [(.tmp 15)])⟩,
            ⟨(some 14), none, (.op (.mov (.tmp 16)))⟩,
            ⟨(some 17), none, (.op (.extract (.tmp 14) 0))⟩,
            ⟨(some 18), none, (.op (.extract (.tmp 14) 1))⟩,
            ⟨(some 5), none, (.op (.mov (.tmp 17)))⟩,
            ⟨(some 6), none, (.op (.mov (.tmp 18)))⟩])
          (.seq (.seq (.region none [
            ⟨(some 19), none, (.op (.mov (.tmp 6)))⟩,
            ⟨(some 20), none, (.op (.arith .eql (.tmp 19) (.dat (.lit (.int .i64 0)))))⟩])
          (.cond (.tmp 20)
            (.seq (.region none [
              ⟨(some 2), none, (.op (.mov (.dat (.nil 1))))⟩,
              ⟨(some 3), none, (.op (.mov (.dat (.lit (.int .i64 90)))))⟩])
            .ret)
            .skip))
          (.seq (.region none [
            ⟨(some 21), none, (.op (.mov (.tmp 4)))⟩,
            ⟨(some 22), none, (.op (.mov (.tmp 5)))⟩,
            ⟨(some 23), none, (.op (.mkslice 1 [(.tmp 22)]))⟩,
            ⟨(some 24), none, (.op (.append 1 8 (.tmp 21) (.tmp 23)))⟩,
            ⟨(some 4), none, (.op (.mov (.tmp 24)))⟩])
          (.region none [
            ⟨(some 25), none, (.op (.mov (.tmp 0)))⟩,
            ⟨(some 26), none, (.op (.mov (.tmp 6)))⟩,
            ⟨(some 27), none, (.op (.sliceS (.tmp 25) (some (.tmp 26)) none))⟩,
            ⟨(some 0), none, (.op (.mov (.tmp 27)))⟩]))))))))
    (.seq (.region none [
      ⟨(some 28), none, (.op (.mov (.tmp 4)))⟩,
      ⟨(some 2), none, (.op (.mov (.tmp 28)))⟩,
      ⟨(some 3), none, (.op (.mov (.dat (.lit (.int .i64 0)))))⟩])
    .ret)))))
  res := [.tmp 2, .tmp 3]
theorem c99 : CmpF Tryd.prog 99 a99 := chkF_cmp (F := Tryd.f99) (by kernel_rfl) mixed (by kernel_rfl)
/-- hansard/hansardref09.Space -/
def a100 : AF where
  nt := 12
  body := (.seq (.region none [
      ⟨(some 2), none, (.op (.mov (.dat (.lit (.bool false)))))⟩])
    (.seq (.region none [
      ⟨(some 6), none, (.op (.mov (.tmp 0)))⟩,
      ⟨(some 7), none, (.call (.dat (.fn (.func 109) [] [])) [(.tmp 6)])⟩,
      ⟨(some 5), none, (.op (.mov (.tmp 7)))⟩,
      ⟨(some 8), none, (.op (.extract (.tmp 5) 0))⟩,
      ⟨(some 9), none, (.op (.extract (.tmp 5) 1))⟩,
      ⟨(some 3), none, (.op (.mov (.tmp 8)))⟩,
      ⟨(some 4), none, (.op (.mov (.tmp 9)))⟩])
    (.seq (.region none [
      ⟨(some 10), none, (.op (.mov (.tmp 3)))⟩,
      ⟨(some 11), none, (.op (.arith .eql (.tmp 10) (.dat (.lit (.int .i64 1)))))⟩,
      ⟨(some 2), none, (.op (.mov (.tmp 11)))⟩])
    .ret)))
  res := [.tmp 2]
theorem c100 : CmpF Tryd.prog 100 a100 := chkF_cmp (F := Tryd.f100) (by kernel_rfl) mixed (by kernel_rfl)
/-- hansard/hansardref09.Same -/
def a101 : AF where
  nt := 26
  body := (.seq (.region none [
      ⟨(some 4), none, (.op (.mov (.dat (.lit (.bool false)))))⟩])
    (.seq (.seq (.region none [
      ⟨(some 6), none, (.op (.mov (.tmp 0)))⟩,
      ⟨(some 7), none, (.op (.len (.tmp 6)))⟩,
      ⟨(some 8), none, (.op (.mov (.tmp 1)))⟩,
      ⟨(some 9), none, (.op (.len (.tmp 8)))⟩,
      ⟨(some 10), none, (.op (.arith .neq (.tmp 7) (.tmp 9)))⟩])
    (.cond (.tmp 10)
      (.seq (.region none [
        ⟨(some 4), none, (.op (.mov (.dat (.lit (.bool false)))))⟩])
      .ret)
      .skip))
    (.seq (.seq (.region none [
      ⟨(some 5), none, (.op (.mov (.dat (.lit (.int .i64 0)))))⟩])
    (.block 0
      (.loop
        (.seq (.seq (.region none [
          ⟨(some 11), none, (.op (.mov (.tmp 5)))⟩,
          ⟨(some 12), none, (.op (.mov (.tmp 0)))⟩,
          ⟨(some 13), none, (.op (.len (.tmp 12)))⟩,
          ⟨(some 14), none, (.op (.arith .lss (.tmp 11) (.tmp 13)))⟩])
        (.cond (.tmp 14)
          .skip
          (.exit 0)))
        (.seq (.block 1
          (.seq (.region (some [[], [], [0, 1], [0, 1, 2], [], [], [4, 5], [4, 5, 6], [0, 1, 2, 3, 4, 5, 6, 7]]) [
            ⟨(some 17), none, (.op (.mov (.tmp 0)))⟩,
            ⟨(some 18), none, (.op (.mov (.tmp 5)))⟩,
            ⟨(some 19), none, (.op (.index 1 (.tmp 17) (.tmp 18)))⟩,
            ⟨(some 20), none, (.op (.load 1 false (.tmp 19)))⟩,
            ⟨(some 21), none, (.op (.mov (.tmp 1)))⟩,
            ⟨(some 22), none, (.op (.mov (.tmp 5)))⟩,
            ⟨(some 23), none, (.op (.index 1 (.tmp 21) (.tmp 22)))⟩,
            ⟨(some 24), none, (.op (.load 1 false (.tmp 23)))⟩,
            ⟨(some 25), none, (.op (.arith .neq (.tmp 20) (.tmp 24)))⟩])
          (.cond (.tmp 25)
            (.seq (.region none [
              ⟨(some 4), none, (.op (.mov (.dat (.lit (.bool false)))))⟩])
            .ret)
            .skip)))
        (.region none [
          ⟨(some 15), none, (.op (.mov (.tmp 5)))⟩,
          ⟨(some 16), none, (.op (.arith .add (.tmp 15) (.dat (.lit (.int .i64 1)))))⟩,
          ⟨(some 5), none, (.op (.mov (.tmp 16)))⟩]))))))
    (.seq (.region none [
      ⟨(some 4), none, (.op (.mov (.dat (.lit (.bool true)))))⟩])
    .ret))))
  res := [.tmp 4]
theorem c101 : CmpF Tryd.prog 101 a101 := chkF_cmp (F := Tryd.f101) (by kernel_rfl) mixed (by kernel_rfl)
/-- hansard/text.Runes$1 -/
def a102 : AR where
  nt := 16
  ta := 5
  tb := 2
  rest := (.seq (.region none [
      ⟨(some 6), none, (.op (.mov (.tmp 2)))⟩,
      ⟨(some 7), none, (.op (.ext (.isNil true) [(.tmp 6)]))⟩])
    (.cond (.tmp 7)
      (.seq (.seq (.region none [
        ⟨(some 9), none, (.op (.mov (.tmp 2)))⟩,
        ⟨(some 10), none, (.op (.ext (.tassert 137 (.agg [])) [(.tmp 9)]))⟩,
        ⟨(some 8), none, (.op (.mov (.tmp 10)))⟩,
        ⟨(some 11), none, (.op (.extract (.tmp 8) 0))⟩,
        ⟨(some 12), none, (.op (.extract (.tmp 8) 1))⟩,
        ⟨(some 3), none, (.op (.alloc true []))⟩,
        ⟨none, none, (.op (.store 0 (.tmp 3) (.tmp 11)))⟩,
        ⟨(some 4), none, (.op (.mov (.tmp 12)))⟩])
      (.seq (.region none [
        ⟨(some 13), none, (.op (.mov (.tmp 4)))⟩,
        ⟨(some 14), none, (.op (.not (.tmp 13)))⟩])
      (.cond (.tmp 14)
        (.sregion [
          ⟨(some 15), none, (.op (.mov (.tmp 2)))⟩,
          ⟨none, none, (.panic (.tmp 15))⟩])
        .skip)))
      (.region none [
        ⟨none, none, (.op (.store 1 (.tmp 0) (.dat (.nil 1))))⟩,
        ⟨none, none, (.op (.store 1 (.tmp 1) (.dat (.lit (.int .i64 90)))))⟩]))
      .skip))
  res := []
theorem c102 : CmpRF Tryd.prog 102 a102 := chkRF_cmp (F := Tryd.f102) (by kernel_rfl) mixed (by kernel_rfl)
/-- slices.Collect(int) -/
def a103 : AF where
  nt := 5
  body := (.seq (.region none [
      ⟨(some 2), none, (.op (.mov (.dat (.nil 1))))⟩])
    (.seq (.sregion [
      ⟨(some 3), none, (.op (.mov (.tmp 0)))⟩,
      ⟨(some 4), none, (.icall (.dat (.fn (.func 110) [] [])) [(.dat (.nil 1)), (.tmp 3)])⟩,
      ⟨(some 2), none, (.op (.mov (.tmp 4)))⟩])
    .ret))
  res := [.tmp 2]
theorem c103 : CmpF Tryd.prog 103 a103 := chkF_cmp (F := Tryd.f103) (by kernel_rfl) mixed (by kernel_rfl)
/-- hansard/text.points -/
def a104 : AF where
  nt := 4
  body := (.seq (.region none [
      ⟨(some 1), none, (.op (.box false (.tmp 0)))⟩,
      ⟨(some 2), none, (.op (.mov (.dat (.lit (.nilFunc)))))⟩])
    (.seq (.region none [
      ⟨(some 3), none, (.op (.func (.func 111) [] [(.tmp 1)]))⟩,
      ⟨(some 2), none, (.op (.mov (.tmp 3)))⟩])
    .ret))
  res := [.tmp 2]
theorem c104 : CmpF Tryd.prog 104 a104 := chkF_cmp (F := Tryd.f104) (by kernel_rfl) mixed (by kernel_rfl)
/-- slices.IndexFunc(()int,int) -/
def a105 : AF where
  nt := 19
  body := (.seq (.region none [
      ⟨(some 4), none, (.op (.mov (.dat (.lit (.int .i64 0)))))⟩])
    (.seq (.seq (.region none [
      ⟨(some 6), none, (.op (.mov (.tmp 0)))⟩,
      ⟨(some 7), none, (.op (.len (.tmp 6)))⟩,
      ⟨(some 8), none, (.op (.mov (.dat (.lit (.int .i64 0)))))⟩])
    (.block 0
      (.loop
        (.seq (.region none [
          ⟨(some 9), none, (.op (.arith .lss (.tmp 8) (.tmp 7)))⟩])
        (.seq (.cond (.tmp 9)
          .skip
          (.exit 0))
        (.seq (.block 1
          (.seq (.region none [
            ⟨(some 10), none, (.op (.mov (.tmp 8)))⟩,
            ⟨(some 5), none, (.op (.mov (.tmp 10)))⟩])
          (.seq (.region none [
            ⟨(some 11), none, (.op (.mov (.tmp 1)))⟩,
            ⟨(some 12), none, (.op (.mov (.tmp 0)))⟩,
            ⟨(some 13), none, (.op (.mov (.tmp 5)))⟩,
            ⟨(some 14), none, (.op (.index 1 (.tmp 12) (.tmp 13)))⟩,
            ⟨(some 15), none, (.op (.load 1 false (.tmp 14)))⟩,
            ⟨(some 16), none, (.call (.tmp 11) [(.tmp 15)])⟩])
          (.cond (.tmp 16)
            (.seq (.region none [
              ⟨(some 17), none, (.op (.mov (.tmp 5)))⟩,
              ⟨(some 4), none, (.op (.mov (.tmp 17)))⟩])
            .ret)
            .skip))))
        (.region none [
          ⟨(some 18), none, (.op (.arith .add (.tmp 8) (.dat (.lit (.int .i64 1)))))⟩,
          ⟨(some 8), none, (.op (.mov (.tmp 18)))⟩])))))))
    (.seq (.region none [
      ⟨(some 4), none, (.op (.mov (.dat (.lit (.int .i64 (-1))))))⟩])
    .ret)))
  res := [.tmp 4]
theorem c105 : CmpF Tryd.prog 105 a105 := chkF_cmp (F := Tryd.f105) (by kernel_rfl) mixed (by kernel_rfl)
/-- hansard/text.classes$1 -/
def a106 : AF where
  nt := 17
  body := (.seq (.region none [
      ⟨(some 2), none, (.op (.mov (.dat (.lit (.bool false)))))⟩])
    (.seq (.region none [
      ⟨(some 3), none, (.op (.mov (.tmp 0)))⟩,
      ⟨(some 4), none, (.op (.arith .eql (.tmp 3) (.dat (.lit (.int .i64 32)))))⟩,
      ⟨(some 5), none, (.op (.mov (.tmp 4)))⟩,
      ⟨(some 6), (some (5, false)), (.op (.mov (.tmp 0)))⟩,
      ⟨(some 7), (some (5, false)), (.op (.arith .eql (.tmp 6) (.dat (.lit (.int .i64 9)))))⟩,
      ⟨(some 8), none, (.op (.pick (.tmp 5) (.dat (.lit (.bool true))) (.tmp 7)))⟩,
      ⟨(some 9), none, (.op (.mov (.tmp 8)))⟩,
      ⟨(some 10), (some (9, false)), (.op (.mov (.tmp 0)))⟩,
      ⟨(some 11), (some (9, false)), (.op (.arith .eql (.tmp 10) (.dat (.lit (.int .i64 10)))))⟩,
      ⟨(some 12), none, (.op (.pick (.tmp 9) (.dat (.lit (.bool true))) (.tmp 11)))⟩,
      ⟨(some 13), none, (.op (.mov (.tmp 12)))⟩,
      ⟨(some 14), (some (13, false)), (.op (.mov (.tmp 0)))⟩,
      ⟨(some 15), (some (13, false)), (.op (.arith .eql (.tmp 14) (.dat (.lit (.int .i64 13)))))⟩,
      ⟨(some 16), none, (.op (.pick (.tmp 13) (.dat (.lit (.bool true))) (.tmp 15)))⟩,
      ⟨(some 2), none, (.op (.mov (.tmp 16)))⟩])
    .ret))
  res := [.tmp 2]
theorem c106 : CmpF Tryd.prog 106 a106 := chkF_cmp (F := Tryd.f106) (by kernel_rfl) mixed (by kernel_rfl)
/-- hansard/text.among -/
def a107 : AF where
  nt := 4
  body := (.seq (.region none [
      ⟨(some 1), none, (.op (.box false (.tmp 0)))⟩,
      ⟨(some 2), none, (.op (.mov (.dat (.lit (.nilFunc)))))⟩])
    (.seq (.region none [
      ⟨(some 3), none, (.op (.func (.func 113) [] [(.tmp 1)]))⟩,
      ⟨(some 2), none, (.op (.mov (.tmp 3)))⟩])
    .ret))
  res := [.tmp 2]
theorem c107 : CmpF Tryd.prog 107 a107 := chkF_cmp (F := Tryd.f107) (by kernel_rfl) mixed (by kernel_rfl)
/-- hansard/hansardref09.first -/
def a108 : AF where
  nt := 57
  body := (.seq (.region none [
      ⟨(some 2), none, (.op (.mov (.dat (.lit (.int .i64 0)))))⟩,
      ⟨(some 3), none, (.op (.mov (.dat (.lit (.int .i64 0)))))⟩])
    (.seq (.region none [
      ⟨(some 9), none, (.op (.mov (.tmp 0)))⟩,
      ⟨(some 10), none, (.op (.ext .strIdx [(.tmp 9), (.dat (.lit (.int .i64 0)))]))⟩,
      ⟨(some 11), none, (.op (.conv .i64 (.tmp 10)))⟩,
      ⟨(some 12), none, (.call (.dat (.fn (.func 116) [] [])) [(.tmp 11)])⟩,
      ⟨(some 8), none, (.op (.mov (.tmp 12)))⟩,
      ⟨(some 13), none, (.op (.extract (.tmp 8) 0))⟩,
      ⟨(some 14), none, (.op (.extract (.tmp 8) 1))⟩,
      ⟨(some 4), none, (.op (.mov (.tmp 13)))⟩,
      ⟨(some 5), none, (.op (.mov (.tmp 14)))⟩])
    (.seq (.seq (.region none [
      ⟨(some 15), none, (.op (.mov (.tmp 4)))⟩,
      ⟨(some 16), none, (.op (.arith .eql (.tmp 15) (.dat (.lit (.int .i64 0)))))⟩,
      ⟨(some 17), none, (.op (.mov (.tmp 16)))⟩,
      ⟨(some 18), (some (17, false)), (.op (.mov (.tmp 4)))⟩,
      ⟨(some 19), (some (17, false)), (.op (.mov (.tmp 0)))⟩,
      ⟨(some 20), (some (17, false)), (.op (.lenS (.tmp 19)))⟩,
      ⟨(some 21), (some (17, false)), (.op (.arith .gtr (.tmp 18) (.tmp 20)))⟩,
      ⟨(some 22), none, (.op (.pick (.tmp 17) (.dat (.lit (.bool true))) (.tmp 21)))⟩])
    (.cond (.tmp 22)
      (.seq (.region none [
        ⟨(some 2), none, (.op (.mov (.dat (.lit (.int .i64 0)))))⟩,
        ⟨(some 3), none, (.op (.mov (.dat (.lit (.int .i64 0)))))⟩])
      .ret)
      .skip))
    (.seq (.seq (.region none [
      ⟨(some 6), none, (.op (.mov (.dat (.lit (.int .i64 1)))))⟩])
    (.block 0
      (.loop
        (.seq (.seq (.region none [
          ⟨(some 23), none, (.op (.mov (.tmp 6)))⟩,
          ⟨(some 24), none, (.op (.mov (.tmp 4)))⟩,
          ⟨(some 25), none, (.op (.arith .lss (.tmp 23) (.tmp 24)))⟩])
        (.cond (.tmp 25)
          .skip
          (.exit 0)))
        (.seq (.block 1
          (.seq (.region none [
            ⟨(some 28), none, (.op (.mov (.tmp 0)))⟩,
            ⟨(some 29), none, (.op (.mov (.tmp 6)))⟩,
            ⟨(some 30), none, (.op (.ext .strIdx [(.tmp 28), (.tmp 29)]))⟩,
            ⟨(some 31), none, (.op (.conv .i64 (.tmp 30)))⟩,
            ⟨(some 7), none, (.op (.mov (.tmp 31)))⟩])
          (.seq (.seq (.region none [
            ⟨(some 32), none, (.op (.mov (.tmp 7)))⟩,
            ⟨(some 33), none, (.op (.arith .lss (.tmp 32) (.dat (.lit (.int .i64 128)))))⟩,
            ⟨(some 34), none, (.op (.mov (.tmp 33)))⟩,
            ⟨(some 35), (some (34, false)), (.op (.mov (.tmp 7)))⟩,
            ⟨(some 36), (some (34, false)), (.op (.arith .geq (.tmp 35) (.dat (.lit (.int .i64 192)))))⟩,
            ⟨(some 37), none, (.op (.pick (.tmp 34) (.dat (.lit (.bool true))) (.tmp 36)))⟩])
          (.cond (.tmp 37)
            (.seq (.region none [
              ⟨(some 2), none, (.op (.mov (.dat (.lit (.int .i64 0)))))⟩,
              ⟨(some 3), none, (.op (.mov (.dat (.lit (.int .i64 0)))))⟩])
            .ret)
            .skip))
          (.region none [
            ⟨(some 38), none, (.op (.mov (.tmp 5)))⟩,
            ⟨(some 39), none, (.op (.arith .mul (.tmp 38) (.dat (.lit (.int .i64 64)))))⟩,
            ⟨(some 40), none, (.op (.mov (.tmp 7)))⟩,
            ⟨(some 41), none, (.op (.arith .add (.tmp 39) (.tmp 40)))⟩,
            ⟨(some 42), none, (.op (.arith .sub (.tmp 41) (.dat (.lit (.int .i64 128)))))⟩,
            ⟨(some 5), none, (.op (.mov (.tmp 42)))⟩]))))
        (.region none [
          ⟨(some 26), none, (.op (.mov (.tmp 6)))⟩,
          ⟨(some 27), none, (.op (.arith .add (.tmp 26) (.dat (.lit (.int .i64 1)))))⟩,
          ⟨(some 6), none, (.op (.mov (.tmp 27)))⟩]))))))
    (.seq (.seq (.region (some [[], [0], [0, 1], [0, 1, 2], [0, 1, 2, 3], [0, 1, 2, 3, 4], [0, 1, 2, 3, 4, 5], [0, 1, 2, 3], [0, 1, 2, 3], [0, 1, 2, 3, 7, 8], [0, 1, 2, 3, 4, 5, 6, 7, 8, 9], [0, 1, 2, 3, 4, 5, 6, 7, 8, 9, 10]]) [
      ⟨(some 43), none, (.op (.mov (.tmp 5)))⟩,
      ⟨(some 44), none, (.call (.dat (.fn (.func 117) [] [])) [(.tmp 43)])⟩,
      ⟨(some 45), none, (.op (.not (.tmp 44)))⟩,
      ⟨(some 46), none, (.op (.mov (.tmp 45)))⟩,
      ⟨(some 47), (some (46, false)), (.op (.mov (.tmp 5)))⟩,
      ⟨(some 48), (some (46, false)), (.call (.dat (.fn (.func 118) [] [])) [(.tmp 47)])⟩,
      ⟨(some 49), (some (46, false)), (.op (.ext .bytesStr [(.tmp 48)]))⟩,
      ⟨(some 50), (some (46, false)), (.op (.mov (.tmp 0)))⟩,
      ⟨(some 51), (some (46, false)), (.op (.mov (.tmp 4)))⟩,
      ⟨(some 52), (some (46, false)), (.op (.sliceS (.tmp 50) none (some (.tmp 51))))⟩,
      ⟨(some 53), (some (46, false)), (.op (.arith .neq (.tmp 49) (.tmp 52)))⟩,
      ⟨(some 54), none, (.op (.pick (.tmp 46) (.dat (.lit (.bool true))) (.tmp 53)))⟩])
    (.cond (.tmp 54)
      (.seq (.region none [
        ⟨(some 2), none, (.op (.mov (.dat (.lit (.int .i64 0)))))⟩,
        ⟨(some 3), none, (.op (.mov (.dat (.lit (.int .i64 0)))))⟩])
      .ret)
      .skip))
    (.seq (.region none [
      ⟨(some 55), none, (.op (.mov (.tmp 5)))⟩,
      ⟨(some 56), none, (.op (.mov (.tmp 4)))⟩,
      ⟨(some 2), none, (.op (.mov (.tmp 55)))⟩,
      ⟨(some 3), none, (.op (.mov (.tmp 56)))⟩])
    .ret))))))
  res := [.tmp 2, .tmp 3]
theorem c108 : CmpF Tryd.prog 108 a108 := chkF_cmp (F := Tryd.f108) (by kernel_rfl) mixed (by kernel_rfl)
/-- hansard/hansardref09.Kind -/
def a109 : AF where
  nt := 76
  body := (.seq (.region none [
      ⟨(some 2), none, (.op (.mov (.dat (.lit (.int .i64 0)))))⟩,
      ⟨(some 3), none, (.op (.mov (.dat (.lit (.int .i64 0)))))⟩])
    (.seq (.block 0
      (.seq (.region none [
        ⟨(some 5), none, (.op (.mov (.tmp 0)))⟩,
        ⟨(some 6), none, (.call (.dat (.fn (.func 117) [] [])) [(.tmp 5)])⟩,
        ⟨(some 7), none, (.op (.not (.tmp 6)))⟩,
        ⟨(some 4), none, (.op (.mov (.tmp 7)))⟩])
      (.cond (.tmp 4)
        (.seq (.region none [
          ⟨(some 2), none, (.op (.mov (.dat (.lit (.int .i64 0)))))⟩,
          ⟨(some 3), none, (.op (.mov (.dat (.lit (.int .i64 90)))))⟩])
        .ret)
        (.seq (.region none [
          ⟨(some 9), none, (.op (.mov (.tmp 0)))⟩,
          ⟨(some 10), none, (.op (.arith .eql (.tmp 9) (.dat (.lit (.int .i64 9)))))⟩,
          ⟨(some 11), none, (.op (.mov (.tmp 10)))⟩,
          ⟨(some 12), (some (11, false)), (.op (.mov (.tmp 0)))⟩,
          ⟨(some 13), (some (11, false)), (.op (.arith .eql (.tmp 12) (.dat (.lit (.int .i64 10)))))⟩,
          ⟨(some 14), none, (.op (.pick (.tmp 11) (.dat (.lit (.bool true))) (.tmp 13)))⟩,
          ⟨(some 15), none, (.op (.mov (.tmp 14)))⟩,
          ⟨(some 16), (some (15, false)), (.op (.mov (.tmp 0)))⟩,
          ⟨(some 17), (some (15, false)), (.op (.arith .eql (.tmp 16) (.dat (.lit (.int .i64 13)))))⟩,
          ⟨(some 18), none, (.op (.pick (.tmp 15) (.dat (.lit (.bool true))) (.tmp 17)))⟩,
          ⟨(some 19), none, (.op (.mov (.tmp 18)))⟩,
          ⟨(some 20), (some (19, false)), (.op (.mov (.tmp 0)))⟩,
          ⟨(some 21), (some (19, false)), (.op (.arith .eql (.tmp 20) (.dat (.lit (.int .i64 32)))))⟩,
          ⟨(some 22), none, (.op (.pick (.tmp 19) (.dat (.lit (.bool true))) (.tmp 21)))⟩,
          ⟨(some 8), none, (.op (.mov (.tmp 22)))⟩])
        (.cond (.tmp 8)
          (.seq (.region none [
            ⟨(some 2), none, (.op (.mov (.dat (.lit (.int .i64 1)))))⟩,
            ⟨(some 3), none, (.op (.mov (.dat (.lit (.int .i64 0)))))⟩])
          .ret)
          (.seq (.region none [
            ⟨(some 24), none, (.op (.mov (.tmp 0)))⟩,
            ⟨(some 25), none, (.op (.arith .geq (.tmp 24) (.dat (.lit (.int .i64 48)))))⟩,
            ⟨(some 26), none, (.op (.mov (.tmp 25)))⟩,
            ⟨(some 27), (some (26, true)), (.op (.mov (.tmp 0)))⟩,
            ⟨(some 28), (some (26, true)), (.op (.arith .leq (.tmp 27) (.dat (.lit (.int .i64 57)))))⟩,
            ⟨(some 29), none, (.op (.pick (.tmp 26) (.tmp 28) (.dat (.lit (.bool false)))))⟩,
            ⟨(some 23), none, (.op (.mov (.tmp 29)))⟩])
          (.cond (.tmp 23)
            (.seq (.region none [
              ⟨(some 2), none, (.op (.mov (.dat (.lit (.int .i64 2)))))⟩,
              ⟨(some 3), none, (.op (.mov (.dat (.lit (.int .i64 0)))))⟩])
            .ret)
            (.seq (.region none [
              ⟨(some 31), none, (.op (.mov (.tmp 0)))⟩,
              ⟨(some 32), none, (.op (.arith .geq (.tmp 31) (.dat (.lit (.int .i64 65)))))⟩,
              ⟨(some 33), none, (.op (.mov (.tmp 32)))⟩,
              ⟨(some 34), (some (33, true)), (.op (.mov (.tmp 0)))⟩,
              ⟨(some 35), (some (33, true)), (.op (.arith .leq (.tmp 34) (.dat (.lit (.int .i64 90)))))⟩,
              ⟨(some 36), none, (.op (.pick (.tmp 33) (.tmp 35) (.dat (.lit (.bool false)))))⟩,
              ⟨(some 37), none, (.op (.mov (.tmp 36)))⟩,
              ⟨(some 38), (some (37, false)), (.op (.mov (.tmp 0)))⟩,
              ⟨(some 39), (some (37, false)), (.op (.arith .geq (.tmp 38) (.dat (.lit (.int .i64 97)))))⟩,
              ⟨(some 40), (some (37, false)), (.op (.mov (.tmp 39)))⟩,
              ⟨(some 41), (some (40, true)), (.op (.mov (.tmp 0)))⟩,
              ⟨(some 42), (some (40, true)), (.op (.arith .leq (.tmp 41) (.dat (.lit (.int .i64 122)))))⟩,
              ⟨(some 43), (some (37, false)), (.op (.pick (.tmp 40) (.tmp 42) (.dat (.lit (.bool false)))))⟩,
              ⟨(some 44), none, (.op (.pick (.tmp 37) (.dat (.lit (.bool true))) (.tmp 43)))⟩,
              ⟨(some 45), none, (.op (.mov (.tmp 44)))⟩,
              ⟨(some 46), (some (45, false)), (.op (.mov (.tmp 0)))⟩,
              ⟨(some 47), (some (45, false)), (.op (.arith .geq (.tmp 46) (.dat (.lit (.int .i64 192)))))⟩,
              ⟨(some 48), (some (45, false)), (.op (.mov (.tmp 47)))⟩,
              ⟨(some 49), (some (48, true)), (.op (.mov (.tmp 0)))⟩,
              ⟨(some 50), (some (48, true)), (.op (.arith .leq (.tmp 49) (.dat (.lit (.int .i64 591)))))⟩,
              ⟨(some 51), (some (45, false)), (.op (.pick (.tmp 48) (.tmp 50) (.dat (.lit (.bool false)))))⟩,
              ⟨(some 52), (some (45, false)), (.op (.mov (.tmp 51)))⟩,
              ⟨(some 53), (some (52, true)), (.op (.mov (.tmp 0)))⟩,
              ⟨(some 54), (some (52, true)), (.op (.arith .neq (.tmp 53) (.dat (.lit (.int .i64 215)))))⟩,
              ⟨(some 55), (some (45, false)), (.op (.pick (.tmp 52) (.tmp 54) (.dat (.lit (.bool false)))))⟩,
              ⟨(some 56), (some (45, false)), (.op (.mov (.tmp 55)))⟩,
              ⟨(some 57), (some (56, true)), (.op (.mov (.tmp 0)))⟩,
              ⟨(some 58), (some (56, true)), (.op (.arith .neq (.tmp 57) (.dat (.lit (.int .i64 247)))))⟩,
              ⟨(some 59), (some (45, false)), (.op (.pick (.tmp 56) (.tmp 58) (.dat (.lit (.bool false)))))⟩,
              ⟨(some 60), none, (.op (.pick (.tmp 45) (.dat (.lit (.bool true))) (.tmp 59)))⟩,
              ⟨(some 61), none, (.op (.mov (.tmp 60)))⟩,
              ⟨(some 62), (some (61, false)), (.op (.mov (.tmp 0)))⟩,
              ⟨(some 63), (some (61, false)), (.op (.arith .geq (.tmp 62) (.dat (.lit (.int .i64 880)))))⟩,
              ⟨(some 64), (some (61, false)), (.op (.mov (.tmp 63)))⟩,
              ⟨(some 65), (some (64, true)), (.op (.mov (.tmp 0)))⟩,
              ⟨(some 66), (some (64, true)), (.op (.arith .leq (.tmp 65) (.dat (.lit (.int .i64 1279)))))⟩,
              ⟨(some 67), (some (61, false)), (.op (.pick (.tmp 64) (.tmp 66) (.dat (.lit (.bool false)))))⟩,
              ⟨(some 68), none, (.op (.pick (.tmp 61) (.dat (.lit (.bool true))) (.tmp 67)))⟩,
              ⟨(some 30), none, (.op (.mov (.tmp 68)))⟩])
            (.cond (.tmp 30)
              (.seq (.region none [
                ⟨(some 2), none, (.op (.mov (.dat (.lit (.int .i64 3)))))⟩,
                ⟨(some 3), none, (.op (.mov (.dat (.lit (.int .i64 0)))))⟩])
              .ret)
              (.seq (.region none [
                ⟨(some 70), none, (.op (.mov (.tmp 0)))⟩,
                ⟨(some 71), none, (.op (.arith .geq (.tmp 70) (.dat (.lit (.int .i64 1424)))))⟩,
                ⟨(some 72), none, (.op (.mov (.tmp 71)))⟩,
                ⟨(some 73), (some (72, true)), (.op (.mov (.tmp 0)))⟩,
                ⟨(some 74), (some (72, true)), (.op (.arith .leq (.tmp 73) (.dat (.lit (.int .i64 1983)))))⟩,
                ⟨(some 75), none, (.op (.pick (.tmp 72) (.tmp 74) (.dat (.lit (.bool false)))))⟩,
                ⟨(some 69), none, (.op (.mov (.tmp 75)))⟩])
              (.cond (.tmp 69)
                (.seq (.region none [
                  ⟨(some 2), none, (.op (.mov (.dat (.lit (.int .i64 4)))))⟩,
                  ⟨(some 3), none, (.op (.mov (.dat (.lit (.int .i64 0)))))⟩])
                .ret)
                .skip)))))))))))
    (.seq (.region none [
      ⟨(some 2), none, (.op (.mov (.dat (.lit (.int .i64 0)))))⟩,
      ⟨(some 3), none, (.op (.mov (.dat (.lit (.int .i64 0)))))⟩])
    .ret)))
  res := [.tmp 2, .tmp 3]
theorem c109 : CmpF Tryd.prog 109 a109 := chkF_cmp (F := Tryd.f109) (by kernel_rfl) mixed (by kernel_rfl)
/-- slices.AppendSeq(()int,int) -/
def a110 : AF where
  nt := 13
  body := (.seq (.region none [
      ⟨(some 2), none, (.op (.box false (.tmp 0)))⟩,
      ⟨(some 4), none, (.op (.mov (.dat (.nil 1))))⟩])
    (.seq (.seq (.region none [
      ⟨(some 6), none, (.op (.mov (.tmp 1)))⟩])
    (.block 0
      (.range (.tmp 6) [7]
        (.region none [
          ⟨(some 5), none, (.op (.mov (.tmp 7)))⟩])
        (.block 1
          (.region none [
            ⟨(some 8), none, (.op (.load 1 false (.tmp 2)))⟩,
            ⟨(some 9), none, (.op (.mov (.tmp 5)))⟩,
            ⟨(some 10), none, (.op (.mkslice 1 [(.tmp 9)]))⟩,
            ⟨(some 11), none, (.op (.append 1 8 (.tmp 8) (.tmp 10)))⟩,
            ⟨none, none, (.op (.store 1 (.tmp 2) (.tmp 11)))⟩])))))
    (.seq (.region none [
      ⟨(some 12), none, (.op (.load 1 false (.tmp 2)))⟩,
      ⟨(some 4), none, (.op (.mov (.tmp 12)))⟩])
    .ret)))
  res := [.tmp 4]
theorem c110 : CmpF Tryd.prog 110 a110 := chkF_cmp (F := Tryd.f110) (by kernel_rfl) mixed (by kernel_rfl)
/-- hansard/text.points$1 -/
def a111 : AF where
  nt := 29
  body := (.block 0
      (.loop
        (.seq (.seq (.region none [
          ⟨(some 5), none, (.op (.load 1 false (.tmp 1)))⟩,
          ⟨(some 6), none, (.op (.lenS (.tmp 5)))⟩,
          ⟨(some 7), none, (.op (.arith .gtr (.tmp 6) (.dat (.lit (.int .i64 0)))))⟩])
        (.cond (.tmp 7)
          .skip
          (.exit 0)))
        (.block 1
          (.seq (.region none [
            ⟨(some 9), none, (.op (.load 1 false (.tmp 1)))⟩,
            ⟨(some 10), none, (.call (.dat (.fn (.func 112) [] [])) [(.tmp 9)])⟩,
            ⟨(some 8), none, (.op (.mov (.tmp 10)))⟩,
            ⟨(some 11), none, (.op (.extract (.tmp 8) 0))⟩,
            ⟨(some 12), none, (.op (.extract (.tmp 8) 1))⟩,
            ⟨(some 3), none, (.op (.mov (.tmp 11)))⟩,
            ⟨(some 4), none, (.op (.mov (.tmp 12)))⟩])
          (.seq (.seq (.region none [
            ⟨(some 13), none, (.op (.mov (.tmp 3)))⟩,
            ⟨(some 14), none, (.op (.arith .eql (.tmp 13) (.dat (.lit (.int .i32 65533)))))⟩,
            ⟨(some 15), none, (.op (.mov (.tmp 14)))⟩,
            ⟨(some 16), (some (15, true)), (.op (.mov (.tmp 4)))⟩,
            ⟨(some 17), (some (15, true)), (.op (.arith .lss (.tmp 16) (.dat (.lit (.int .i64 2)))))⟩,
            ⟨(some 18), none, (.op (.pick (.tmp 15) (.tmp 17) (.dat (.lit (.bool false)))))⟩])
          (.cond (.tmp 18)
            (.sregion [
              ⟨(some 19), none, (.op (.build [] []))⟩,
              ⟨(some 20), none, (.op (.ifc 137 (.tmp 19)))⟩,
              ⟨none, none, (.panic (.tmp 20))⟩])
            .skip))
          (.seq (.region none [
            ⟨(some 21), none, (.op (.load 1 false (.tmp 1)))⟩,
            ⟨(some 22), none, (.op (.mov (.tmp 4)))⟩,
            ⟨(some 23), none, (.op (.sliceS (.tmp 21) (some (.tmp 22)) none))⟩,
            ⟨none, none, (.op (.store 1 (.tmp 1) (.tmp 23)))⟩])
          (.seq (.sregion [
            ⟨(some 24), none, (.op (.mov (.tmp 0)))⟩,
            ⟨(some 25), none, (.op (.mov (.tmp 3)))⟩,
            ⟨(some 26), none, (.op (.conv .i64 (.tmp 25)))⟩,
            ⟨(some 27), none, (.ycall (.tmp 24) [(.tmp 26)])⟩,
            ⟨(some 28), none, (.op (.not (.tmp 27)))⟩])
          (.cond (.tmp 28)
            .ret
            .skip)))))))))
  res := []
theorem c111 : CmpF Tryd.prog 111 a111 := chkF_cmp (F := Tryd.f111) (by kernel_rfl) mixed (by kernel_rfl)
/-- unicode/utf8.DecodeRuneInString -/
def a112 : AF where
  nt := 19
  body := (.seq (.region none [
      ⟨(some 2), none, (.op (.mov (.dat (.lit (.int .i32 0)))))⟩,
      ⟨(some 3), none, (.op (.mov (.dat (.lit (.int .i64 0)))))⟩])
    (.seq (.seq (.region none [
      ⟨(some 4), none, (.op (.mov (.tmp 0)))⟩,
      ⟨(some 5), none, (.op (.arith .neq (.tmp 4) (.dat (.lit (.string ⟨#[]⟩)))))⟩,
      ⟨(some 6), none, (.op (.mov (.tmp 5)))⟩,
      ⟨(some 7), (some (6, true)), (.op (.mov (.tmp 0)))⟩,
      ⟨(some 8), (some (6, true)), (.op (.ext .strIdx [(.tmp 7), (.dat (.lit (.int .i64 0)))]))⟩,
      ⟨(some 9), (some (6, true)), (.op (.arith .lss (.tmp 8) (.dat (.lit (.int .u8 128)))))⟩,
      ⟨(some 10), none, (.op (.pick (.tmp 6) (.tmp 9) (.dat (.lit (.bool false)))))⟩])
    (.cond (.tmp 10)
      (.seq (.region none [
        ⟨(some 11), none, (.op (.mov (.tmp 0)))⟩,
        ⟨(some 12), none, (.op (.ext .strIdx [(.tmp 11), (.dat (.lit (.int .i64 0)))]))⟩,
        ⟨(some 13), none, (.op (.conv .i32 (.tmp 12)))⟩,
        ⟨(some 2), none, (.op (.mov (.tmp 13)))⟩,
        ⟨(some 3), none, (.op (.mov (.dat (.lit (.int .i64 1)))))⟩])
      .ret)
      (.region none [
        ⟨(some 15), none, (.op (.mov (.tmp 0)))⟩,
        ⟨(some 16), none, (.call (.dat (.fn (.func 119) [] [])) [(.tmp 15)])⟩,
        ⟨(some 14), none, (.op (.mov (.tmp 16)))⟩,
        ⟨(some 17), none, (.op (.extract (.tmp 14) 0))⟩,
        ⟨(some 18), none, (.op (.extract (.tmp 14) 1))⟩,
        ⟨(some 2), none, (.op (.mov (.tmp 17)))⟩,
        ⟨(some 3), none, (.op (.mov (.tmp 18)))⟩])))
    .ret))
  res := [.tmp 2, .tmp 3]
theorem c112 : CmpF Tryd.prog 112 a112 := chkF_cmp (F := Tryd.f112) (by kernel_rfl) mixed (by kernel_rfl)
/-- hansard/hansardref09.long -/
def a116 : AF where
  nt := 35
  body := (.seq (.region none [
      ⟨(some 2), none, (.op (.mov (.dat (.lit (.int .i64 0)))))⟩,
      ⟨(some 3), none, (.op (.mov (.dat (.lit (.int .i64 0)))))⟩])
    (.seq (.block 0
      (.seq (.region none [
        ⟨(some 5), none, (.op (.mov (.tmp 0)))⟩,
        ⟨(some 6), none, (.op (.arith .lss (.tmp 5) (.dat (.lit (.int .i64 128)))))⟩,
        ⟨(some 4), none, (.op (.mov (.tmp 6)))⟩])
      (.cond (.tmp 4)
        (.seq (.region none [
          ⟨(some 7), none, (.op (.mov (.tmp 0)))⟩,
          ⟨(some 2), none, (.op (.mov (.dat (.lit (.int .i64 1)))))⟩,
          ⟨(some 3), none, (.op (.mov (.tmp 7)))⟩])
        .ret)
        (.seq (.region none [
          ⟨(some 9), none, (.op (.mov (.tmp 0)))⟩,
          ⟨(some 10), none, (.op (.arith .geq (.tmp 9) (.dat (.lit (.int .i64 192)))))⟩,
          ⟨(some 11), none, (.op (.mov (.tmp 10)))⟩,
          ⟨(some 12), (some (11, true)), (.op (.mov (.tmp 0)))⟩,
          ⟨(some 13), (some (11, true)), (.op (.arith .lss (.tmp 12) (.dat (.lit (.int .i64 224)))))⟩,
          ⟨(some 14), none, (.op (.pick (.tmp 11) (.tmp 13) (.dat (.lit (.bool false)))))⟩,
          ⟨(some 8), none, (.op (.mov (.tmp 14)))⟩])
        (.cond (.tmp 8)
          (.seq (.region none [
            ⟨(some 15), none, (.op (.mov (.tmp 0)))⟩,
            ⟨(some 16), none, (.op (.arith .sub (.tmp 15) (.dat (.lit (.int .i64 192)))))⟩,
            ⟨(some 2), none, (.op (.mov (.dat (.lit (.int .i64 2)))))⟩,
            ⟨(some 3), none, (.op (.mov (.tmp 16)))⟩])
          .ret)
          (.seq (.region none [
            ⟨(some 18), none, (.op (.mov (.tmp 0)))⟩,
            ⟨(some 19), none, (.op (.arith .geq (.tmp 18) (.dat (.lit (.int .i64 224)))))⟩,
            ⟨(some 20), none, (.op (.mov (.tmp 19)))⟩,
            ⟨(some 21), (some (20, true)), (.op (.mov (.tmp 0)))⟩,
            ⟨(some 22), (some (20, true)), (.op (.arith .lss (.tmp 21) (.dat (.lit (.int .i64 240)))))⟩,
            ⟨(some 23), none, (.op (.pick (.tmp 20) (.tmp 22) (.dat (.lit (.bool false)))))⟩,
            ⟨(some 17), none, (.op (.mov (.tmp 23)))⟩])
          (.cond (.tmp 17)
            (.seq (.region none [
              ⟨(some 24), none, (.op (.mov (.tmp 0)))⟩,
              ⟨(some 25), none, (.op (.arith .sub (.tmp 24) (.dat (.lit (.int .i64 224)))))⟩,
              ⟨(some 2), none, (.op (.mov (.dat (.lit (.int .i64 3)))))⟩,
              ⟨(some 3), none, (.op (.mov (.tmp 25)))⟩])
            .ret)
            (.seq (.region none [
              ⟨(some 27), none, (.op (.mov (.tmp 0)))⟩,
              ⟨(some 28), none, (.op (.arith .geq (.tmp 27) (.dat (.lit (.int .i64 240)))))⟩,
              ⟨(some 29), none, (.op (.mov (.tmp 28)))⟩,
              ⟨(some 30), (some (29, true)), (.op (.mov (.tmp 0)))⟩,
              ⟨(some 31), (some (29, true)), (.op (.arith .lss (.tmp 30) (.dat (.lit (.int .i64 248)))))⟩,
              ⟨(some 32), none, (.op (.pick (.tmp 29) (.tmp 31) (.dat (.lit (.bool false)))))⟩,
              ⟨(some 26), none, (.op (.mov (.tmp 32)))⟩])
            (.cond (.tmp 26)
              (.seq (.region none [
                ⟨(some 33), none, (.op (.mov (.tmp 0)))⟩,
                ⟨(some 34), none, (.op (.arith .sub (.tmp 33) (.dat (.lit (.int .i64 240)))))⟩,
                ⟨(some 2), none, (.op (.mov (.dat (.lit (.int .i64 4)))))⟩,
                ⟨(some 3), none, (.op (.mov (.tmp 34)))⟩])
              .ret)
              .skip)))))))))
    (.seq (.region none [
      ⟨(some 2), none, (.op (.mov (.dat (.lit (.int .i64 0)))))⟩,
      ⟨(some 3), none, (.op (.mov (.dat (.lit (.int .i64 0)))))⟩])
    .ret)))
  res := [.tmp 2, .tmp 3]
theorem c116 : CmpF Tryd.prog 116 a116 := chkF_cmp (F := Tryd.f116) (by kernel_rfl) mixed (by kernel_rfl)
/-- hansard/hansardref09.Point -/
def a117 : AF where
  nt := 17
  body := (.seq (.region none [
      ⟨(some 2), none, (.op (.mov (.dat (.lit (.bool false)))))⟩])
    (.seq (.region none [
      ⟨(some 3), none, (.op (.mov (.tmp 0)))⟩,
      ⟨(some 4), none, (.op (.arith .geq (.tmp 3) (.dat (.lit (.int .i64 0)))))⟩,
      ⟨(some 5), none, (.op (.mov (.tmp 4)))⟩,
      ⟨(some 6), (some (5, true)), (.op (.mov (.tmp 0)))⟩,
      ⟨(some 7), (some (5, true)), (.op (.arith .leq (.tmp 6) (.dat (.lit (.int .i64 1114111)))))⟩,
      ⟨(some 8), none, (.op (.pick (.tmp 5) (.tmp 7) (.dat (.lit (.bool false)))))⟩,
      ⟨(some 9), none, (.op (.mov (.tmp 8)))⟩,
      ⟨(some 10), (some (9, true)), (.op (.mov (.tmp 0)))⟩,
      ⟨(some 11), (some (9, true)), (.op (.arith .lss (.tmp 10) (.dat (.lit (.int .i64 55296)))))⟩,
      ⟨(some 12), (some (9, true)), (.op (.mov (.tmp 11)))⟩,
      ⟨(some 13), (some (12, false)), (.op (.mov (.tmp 0)))⟩,
      ⟨(some 14), (some (12, false)), (.op (.arith .gtr (.tmp 13) (.dat (.lit (.int .i64 57343)))))⟩,
      ⟨(some 15), (some (9, true)), (.op (.pick (.tmp 12) (.dat (.lit (.bool true))) (.tmp 14)))⟩,
      ⟨(some 16), none, (.op (.pick (.tmp 9) (.tmp 15) (.dat (.lit (.bool false)))))⟩,
      ⟨(some 2), none, (.op (.mov (.tmp 16)))⟩])
    .ret))
  res := [.tmp 2]
theorem c117 : CmpF Tryd.prog 117 a117 := chkF_cmp (F := Tryd.f117) (by kernel_rfl) mixed (by kernel_rfl)
/-- hansard/hansardref09.Bytes -/
def a118 : AF where
  nt := 54
  body := (.seq (.region none [
      ⟨(some 2), none, (.op (.mov (.dat (.nil 1))))⟩])
    (.seq (.seq (.region none [
      ⟨(some 3), none, (.op (.mov (.tmp 0)))⟩,
      ⟨(some 4), none, (.op (.arith .lss (.tmp 3) (.dat (.lit (.int .i64 128)))))⟩])
    (.cond (.tmp 4)
      (.seq (.region none [
        ⟨(some 5), none, (.op (.mov (.tmp 0)))⟩,
        ⟨(some 6), none, (.op (.conv .u8 (.tmp 5)))⟩,
        ⟨(some 7), none, (.op (.mkslice 1 [(.tmp 6)]))⟩,
        ⟨(some 2), none, (.op (.mov (.tmp 7)))⟩])
      .ret)
      .skip))
    (.seq (.seq (.region none [
      ⟨(some 8), none, (.op (.mov (.tmp 0)))⟩,
      ⟨(some 9), none, (.op (.arith .lss (.tmp 8) (.dat (.lit (.int .i64 2048)))))⟩])
    (.cond (.tmp 9)
      (.seq (.region none [
        ⟨(some 10), none, (.op (.mov (.tmp 0)))⟩,
        ⟨(some 11), none, (.op (.arith .quo (.tmp 10) (.dat (.lit (.int .i64 64)))))⟩,
        ⟨(some 12), none, (.op (.arith .add (.dat (.lit (.int .i64 192))) (.tmp 11)))⟩,
        ⟨(some 13), none, (.op (.conv .u8 (.tmp 12)))⟩,
        ⟨(some 14), none, (.op (.mov (.tmp 0)))⟩,
        ⟨(some 15), none, (.op (.arith .rem (.tmp 14) (.dat (.lit (.int .i64 64)))))⟩,
        ⟨(some 16), none, (.op (.arith .add (.dat (.lit (.int .i64 128))) (.tmp 15)))⟩,
        ⟨(some 17), none, (.op (.conv .u8 (.tmp 16)))⟩,
        ⟨(some 18), none, (.op (.mkslice 1 [(.tmp 13), (.tmp 17)]))⟩,
        ⟨(some 2), none, (.op (.mov (.tmp 18)))⟩])
      .ret)
      .skip))
    (.seq (.seq (.region none [
      ⟨(some 19), none, (.op (.mov (.tmp 0)))⟩,
      ⟨(some 20), none, (.op (.arith .lss (.tmp 19) (.dat (.lit (.int .i64 65536)))))⟩])
    (.cond (.tmp 20)
      (.seq (.region none [
        ⟨(some 21), none, (.op (.mov (.tmp 0)))⟩,
        ⟨(some 22), none, (.op (.arith .quo (.tmp 21) (.dat (.lit (.int .i64 4096)))))⟩,
        ⟨(some 23), none, (.op (.arith .add (.dat (.lit (.int .i64 224))) (.tmp 22)))⟩,
        ⟨(some 24), none, (.op (.conv .u8 (.tmp 23)))⟩,
        ⟨(some 25), none, (.op (.mov (.tmp 0)))⟩,
        ⟨(some 26), none, (.op (.arith .quo (.tmp 25) (.dat (.lit (.int .i64 64)))))⟩,
        ⟨(some 27), none, (.op (.arith .rem (.tmp 26) (.dat (.lit (.int .i64 64)))))⟩,
        ⟨(some 28), none, (.op (.arith .add (.dat (.lit (.int .i64 128))) (.tmp 27)))⟩,
        ⟨(some 29), none, (.op (.conv .u8 (.tmp 28)))⟩,
        ⟨(some 30), none, (.op (.mov (.tmp 0)))⟩,
        ⟨(some 31), none, (.op (.arith .rem (.tmp 30) (.dat (.lit (.int .i64 64)))))⟩,
        ⟨(some 32), none, (.op (.arith .add (.dat (.lit (.int .i64 128))) (.tmp 31)))⟩,
        ⟨(some 33), none, (.op (.conv .u8 (.tmp 32)))⟩,
        ⟨(some 34), none, (.op (.mkslice 1 [(.tmp 24), (.tmp 29), (.tmp 33)]))⟩,
        ⟨(some 2), none, (.op (.mov (.tmp 34)))⟩])
      .ret)
      .skip))
    (.seq (.region none [
      ⟨(some 35), none, (.op (.mov (.tmp 0)))⟩,
      ⟨(some 36), none, (.op (.arith .quo (.tmp 35) (.dat (.lit (.int .i64 262144)))))⟩,
      ⟨(some 37), none, (.op (.arith .add (.dat (.lit (.int .i64 240))) (.tmp 36)))⟩,
      ⟨(some 38), none, (.op (.conv .u8 (.tmp 37)))⟩,
      ⟨(some 39), none, (.op (.mov (.tmp 0)))⟩,
      ⟨(some 40), none, (.op (.arith .quo (.tmp 39) (.dat (.lit (.int .i64 4096)))))⟩,
      ⟨(some 41), none, (.op (.arith .rem (.tmp 40) (.dat (.lit (.int .i64 64)))))⟩,
      ⟨(some 42), none, (.op (.arith .add (.dat (.lit (.int .i64 128))) (.tmp 41)))⟩,
      ⟨(some 43), none, (.op (.conv .u8 (.tmp 42)))⟩,
      ⟨(some 44), none, (.op (.mov (.tmp 0)))⟩,
      ⟨(some 45), none, (.op (.arith .quo (.tmp 44) (.dat (.lit (.int .i64 64)))))⟩,
      ⟨(some 46), none, (.op (.arith .rem (.tmp 45) (.dat (.lit (.int .i64 64)))))⟩,
      ⟨(some 47), none, (.op (.arith .add (.dat (.lit (.int .i64 128))) (.tmp 46)))⟩,
      ⟨(some 48), none, (.op (.conv .u8 (.tmp 47)))⟩,
      ⟨(some 49), none, (.op (.mov (.tmp 0)))⟩,
      ⟨(some 50), none, (.op (.arith .rem (.tmp 49) (.dat (.lit (.int .i64 64)))))⟩,
      ⟨(some 51), none, (.op (.arith .add (.dat (.lit (.int .i64 128))) (.tmp 50)))⟩,
      ⟨(some 52), none, (.op (.conv .u8 (.tmp 51)))⟩,
      ⟨(some 53), none, (.op (.mkslice 1 [(.tmp 38), (.tmp 43), (.tmp 48), (.tmp 52)]))⟩,
      ⟨(some 2), none, (.op (.mov (.tmp 53)))⟩])
    .ret)))))
  res := [.tmp 2]
theorem c118 : CmpF Tryd.prog 118 a118 := chkF_cmp (F := Tryd.f118) (by kernel_rfl) mixed (by kernel_rfl)
end Go.Proofs.YtlfpnfjibgeehaaDoor
end
