import Derived.Test.YtafmbianlodemaaComp
namespace Go.Abs
set_option linter.unusedVariables false
set_option linter.unusedSimpArgs false
set_option linter.unusedSectionVars false
set_option maxRecDepth 10000
/-! 3: wharfage/wharfagelaw26.DrrTells -/
def law26_DrrTells.pol : Pol := { glob := [], mva := [], root := [(4, 4), (5, 5), (9, 9), (12, 12), (15, 15), (17, 17)], rs := [8], live := [] }
def law26_DrrTells.a : AFun := ⟨4, [.tmp 8],
  (.seq (.region [⟨none, (some 4), .boxL (.tmp 0)⟩,
    ⟨none, (some 5), .boxL (.tmp 1)⟩,
    ⟨none, (some 8), .mov (.const (.bool false))⟩] false)
  (.seq (.region [⟨none, (some 19), .load [.int .i64, .int .i64, .int .i64, .int .i64, .int .i64, .int .i64, .int .i64, .int .i64, .int .i64, .int .i64, .int .i64] true (some 4) (.tmp 4)⟩,
    ⟨none, (some 20), .call 10 [(.tmp 19)] [.ag]⟩,
    ⟨none, (some 21), .load [.int .i64, .int .i64, .int .i64, .int .i64, .int .i64, .int .i64, .int .i64, .int .i64] true (some 5) (.tmp 5)⟩,
    ⟨none, (some 22), .call 9 [(.tmp 20), (.tmp 21)] [.ag, .int .i64, .bool]⟩,
    ⟨none, (some 18), .mov (.tmp 22)⟩,
    ⟨none, (some 23), .extract (.tmp 18) 0⟩,
    ⟨none, (some 24), .extract (.tmp 18) 1⟩,
    ⟨none, (some 25), .extract (.tmp 18) 2⟩,
    ⟨none, (some 9), .allocL [(.at (.int .i64 0)), (.at (.int .i64 0)), (.at (.int .i64 0)), (.at (.int .i64 0)), (.at (.int .i64 0)), (.at (.int .i64 0)), (.at (.int .i64 0)), (.at (.int .i64 0)), (.at (.int .i64 0)), (.at (.int .i64 0)), (.at (.int .i64 0))]⟩,
    ⟨none, none, .store 11 (some 9) (.tmp 9) (.tmp 23)⟩,
    ⟨none, (some 10), .mov (.tmp 24)⟩,
    ⟨none, (some 11), .mov (.tmp 25)⟩] true)
  (.seq (.region [⟨none, (some 27), .load [.int .i64, .int .i64, .int .i64, .int .i64, .int .i64, .int .i64, .int .i64, .int .i64, .int .i64, .int .i64, .int .i64] true (some 4) (.tmp 4)⟩,
    ⟨none, (some 28), .load [.int .i64, .int .i64, .int .i64, .int .i64, .int .i64, .int .i64, .int .i64, .int .i64] true (some 5) (.tmp 5)⟩,
    ⟨none, (some 29), .call 11 [(.tmp 27), (.tmp 28)] [.ag, .int .i64, .bool]⟩,
    ⟨none, (some 26), .mov (.tmp 29)⟩,
    ⟨none, (some 30), .extract (.tmp 26) 0⟩,
    ⟨none, (some 31), .extract (.tmp 26) 1⟩,
    ⟨none, (some 32), .extract (.tmp 26) 2⟩,
    ⟨none, (some 12), .allocL [(.at (.int .i64 0)), (.at (.int .i64 0)), (.at (.int .i64 0)), (.at (.int .i64 0)), (.at (.int .i64 0)), (.at (.int .i64 0)), (.at (.int .i64 0)), (.at (.int .i64 0)), (.at (.int .i64 0)), (.at (.int .i64 0)), (.at (.int .i64 0))]⟩,
    ⟨none, none, .store 11 (some 12) (.tmp 12) (.tmp 30)⟩,
    ⟨none, (some 13), .mov (.tmp 31)⟩,
    ⟨none, (some 14), .mov (.tmp 32)⟩] false)
  (.seq (.region [⟨none, (some 34), .mov (.tmp 2)⟩,
    ⟨none, (some 35), .mov (.tmp 3)⟩,
    ⟨none, (some 36), .call 12 [(.tmp 34), (.tmp 35)] [.ag, .int .i64]⟩,
    ⟨none, (some 33), .mov (.tmp 36)⟩,
    ⟨none, (some 37), .extract (.tmp 33) 0⟩,
    ⟨none, (some 38), .extract (.tmp 33) 1⟩,
    ⟨none, (some 15), .allocL [(.at (.int .i64 0)), (.at (.int .i64 0)), (.at (.int .i64 0)), (.at (.int .i64 0)), (.at (.int .i64 0)), (.at (.int .i64 0)), (.at (.int .i64 0)), (.at (.int .i64 0)), (.at (.int .i64 0)), (.at (.int .i64 0)), (.at (.int .i64 0))]⟩,
    ⟨none, none, .store 11 (some 15) (.tmp 15) (.tmp 37)⟩,
    ⟨none, (some 16), .mov (.tmp 38)⟩] false)
  (.seq (.region [⟨none, (some 39), .mov (.tmp 2)⟩,
    ⟨none, (some 40), .mov (.tmp 3)⟩,
    ⟨none, (some 41), .mov (.tmp 2)⟩,
    ⟨none, (some 42), .minmax true [(.tmp 41), (.const (.int .i64 1))]⟩,
    ⟨none, (some 43), .bin .sub (.tmp 42) (.const (.int .i64 1))⟩,
    ⟨none, (some 44), .build [(.at (.int .i64 0)), (.at (.int .i64 0)), (.at (.int .i64 0)), (.at (.int .i64 0)), (.at (.int .i64 0)), (.at (.int .i64 0)), (.at (.int .i64 0)), (.at (.int .i64 0)), (.at (.int .i64 0)), (.at (.int .i64 0)), (.at (.int .i64 0))] [(0, 1, (.tmp 39)), (1, 1, (.tmp 40)), (2, 1, (.tmp 43))]⟩,
    ⟨none, (some 17), .allocL [(.at (.int .i64 0)), (.at (.int .i64 0)), (.at (.int .i64 0)), (.at (.int .i64 0)), (.at (.int .i64 0)), (.at (.int .i64 0)), (.at (.int .i64 0)), (.at (.int .i64 0)), (.at (.int .i64 0)), (.at (.int .i64 0)), (.at (.int .i64 0))]⟩,
    ⟨none, none, .store 11 (some 17) (.tmp 17) (.tmp 44)⟩] false)
  (.seq (.seq (.region [⟨none, (some 45), .load [.int .i64, .int .i64, .int .i64, .int .i64, .int .i64, .int .i64, .int .i64, .int .i64, .int .i64, .int .i64, .int .i64] true (some 17) (.tmp 17)⟩,
    ⟨none, (some 46), .call 13 [(.tmp 45)] [.bool]⟩,
    ⟨none, (some 47), .mov (.tmp 16)⟩,
    ⟨none, (some 48), .bin .eql (.tmp 47) (.const (.int .i64 0))⟩,
    ⟨none, (some 49), .eqA true [.bool] 4 (.tmp 46) (.tmp 48)⟩,
    ⟨none, (some 50), .mov (.tmp 49)⟩,
    ⟨some (50, false), (some 51), .mov (.tmp 16)⟩,
    ⟨some (50, false), (some 52), .bin .eql (.tmp 51) (.const (.int .i64 0))⟩,
    ⟨some (50, false), (some 53), .mov (.tmp 52)⟩,
    ⟨some (53, true), (some 54), .load [.int .i64, .int .i64, .int .i64, .int .i64, .int .i64, .int .i64, .int .i64, .int .i64, .int .i64, .int .i64, .int .i64] true (some 15) (.tmp 15)⟩,
    ⟨some (53, true), (some 55), .load [.int .i64, .int .i64, .int .i64, .int .i64, .int .i64, .int .i64, .int .i64, .int .i64, .int .i64, .int .i64, .int .i64] true (some 17) (.tmp 17)⟩,
    ⟨some (53, true), (some 56), .call 10 [(.tmp 55)] [.ag]⟩,
    ⟨some (53, true), (some 57), .eqA true [.int .i64, .int .i64, .int .i64, .int .i64, .int .i64, .int .i64, .int .i64, .int .i64, .int .i64, .int .i64, .int .i64] 25 (.tmp 54) (.tmp 56)⟩,
    ⟨some (50, false), (some 58), .pick (.tmp 53) (.tmp 57) (.const (.bool false))⟩,
    ⟨none, (some 59), .pick (.tmp 50) (.const (.bool true)) (.tmp 58)⟩,
    ⟨none, (some 60), .mov (.tmp 59)⟩,
    ⟨some (60, false), (some 61), .mov (.tmp 16)⟩,
    ⟨some (60, false), (some 62), .bin .neq (.tmp 61) (.const (.int .i64 0))⟩,
    ⟨some (60, false), (some 63), .mov (.tmp 62)⟩,
    ⟨some (63, true), (some 64), .mov (.tmp 16)⟩,
    ⟨some (63, true), (some 65), .bin .neq (.tmp 64) (.const (.int .i64 18))⟩,
    ⟨some (63, true), (some 66), .mov (.tmp 65)⟩,
    ⟨some (66, false), (some 67), .load [.int .i64, .int .i64, .int .i64, .int .i64, .int .i64, .int .i64, .int .i64, .int .i64, .int .i64, .int .i64, .int .i64] true (some 15) (.tmp 15)⟩,
    ⟨some (66, false), (some 68), .build [(.at (.int .i64 0)), (.at (.int .i64 0)), (.at (.int .i64 0)), (.at (.int .i64 0)), (.at (.int .i64 0)), (.at (.int .i64 0)), (.at (.int .i64 0)), (.at (.int .i64 0)), (.at (.int .i64 0)), (.at (.int .i64 0)), (.at (.int .i64 0))] []⟩,
    ⟨some (66, false), (some 69), .eqA true [.int .i64, .int .i64, .int .i64, .int .i64, .int .i64, .int .i64, .int .i64, .int .i64, .int .i64, .int .i64, .int .i64] 25 (.tmp 67) (.tmp 68)⟩,
    ⟨some (63, true), (some 70), .pick (.tmp 66) (.const (.bool true)) (.tmp 69)⟩,
    ⟨some (60, false), (some 71), .pick (.tmp 63) (.tmp 70) (.const (.bool false))⟩,
    ⟨none, (some 72), .pick (.tmp 60) (.const (.bool true)) (.tmp 71)⟩] true)
  (.cond (.tmp 72) (.seq (.region [⟨none, (some 8), .mov (.const (.bool false))⟩] false)
   .ret)
   .skip))
  (.seq (.region [⟨none, (some 73), .call 14 [] [.bool]⟩,
    ⟨none, (some 74), .mov (.tmp 73)⟩,
    ⟨some (74, true), (some 75), .load [.int .i64, .int .i64, .int .i64, .int .i64, .int .i64, .int .i64, .int .i64, .int .i64, .int .i64, .int .i64, .int .i64] true (some 9) (.tmp 9)⟩,
    ⟨some (74, true), (some 76), .load [.int .i64, .int .i64, .int .i64, .int .i64, .int .i64, .int .i64, .int .i64, .int .i64, .int .i64, .int .i64, .int .i64] true (some 12) (.tmp 12)⟩,
    ⟨some (74, true), (some 77), .call 10 [(.tmp 76)] [.ag]⟩,
    ⟨some (74, true), (some 78), .eqA false [.int .i64, .int .i64, .int .i64, .int .i64, .int .i64, .int .i64, .int .i64, .int .i64, .int .i64, .int .i64, .int .i64] 25 (.tmp 75) (.tmp 77)⟩,
    ⟨none, (some 79), .pick (.tmp 74) (.tmp 78) (.const (.bool false))⟩,
    ⟨none, (some 80), .mov (.tmp 79)⟩,
    ⟨some (80, true), (some 81), .mov (.tmp 10)⟩,
    ⟨some (80, true), (some 82), .mov (.tmp 13)⟩,
    ⟨some (80, true), (some 83), .bin .eql (.tmp 81) (.tmp 82)⟩,
    ⟨none, (some 84), .pick (.tmp 80) (.tmp 83) (.const (.bool false))⟩,
    ⟨none, (some 85), .mov (.tmp 84)⟩,
    ⟨some (85, true), (some 86), .mov (.tmp 11)⟩,
    ⟨some (85, true), (some 87), .mov (.tmp 14)⟩,
    ⟨some (85, true), (some 88), .eqA false [.bool] 4 (.tmp 86) (.tmp 87)⟩,
    ⟨none, (some 89), .pick (.tmp 85) (.tmp 88) (.const (.bool false))⟩,
    ⟨none, (some 90), .mov (.tmp 89)⟩,
    ⟨some (90, true), (some 91), .load [.int .i64, .int .i64, .int .i64, .int .i64, .int .i64, .int .i64, .int .i64, .int .i64, .int .i64, .int .i64, .int .i64] true (some 4) (.tmp 4)⟩,
    ⟨some (90, true), (some 92), .call 10 [(.tmp 91)] [.ag]⟩,
    ⟨some (90, true), (some 93), .call 15 [(.tmp 92)] [.int .i64]⟩,
    ⟨some (90, true), (some 94), .bin .eql (.tmp 93) (.const (.int .i64 0))⟩,
    ⟨some (90, true), (some 95), .load [.int .i64, .int .i64, .int .i64, .int .i64, .int .i64, .int .i64, .int .i64, .int .i64, .int .i64, .int .i64, .int .i64] true (some 4) (.tmp 4)⟩,
    ⟨some (90, true), (some 96), .call 13 [(.tmp 95)] [.bool]⟩,
    ⟨some (90, true), (some 97), .eqA false [.bool] 4 (.tmp 94) (.tmp 96)⟩,
    ⟨none, (some 98), .pick (.tmp 90) (.tmp 97) (.const (.bool false))⟩,
    ⟨none, (some 99), .mov (.tmp 98)⟩,
    ⟨some (99, true), (some 100), .load [.int .i64, .int .i64, .int .i64, .int .i64, .int .i64, .int .i64, .int .i64, .int .i64, .int .i64, .int .i64, .int .i64] true (some 4) (.tmp 4)⟩,
    ⟨some (99, true), (some 101), .call 10 [(.tmp 100)] [.ag]⟩,
    ⟨some (99, true), (some 102), .call 15 [(.tmp 101)] [.int .i64]⟩,
    ⟨some (99, true), (some 103), .bin .eql (.tmp 102) (.const (.int .i64 0))⟩,
    ⟨some (99, true), (some 104), .mov (.tmp 103)⟩,
    ⟨some (104, false), (some 105), .load [.int .i64, .int .i64, .int .i64, .int .i64, .int .i64, .int .i64, .int .i64, .int .i64, .int .i64, .int .i64, .int .i64] true (some 4) (.tmp 4)⟩,
    ⟨some (104, false), (some 106), .call 10 [(.tmp 105)] [.ag]⟩,
    ⟨some (104, false), (some 107), .call 15 [(.tmp 106)] [.int .i64]⟩,
    ⟨some (104, false), (some 108), .bin .eql (.tmp 107) (.const (.int .i64 18))⟩,
    ⟨some (99, true), (some 109), .pick (.tmp 104) (.const (.bool true)) (.tmp 108)⟩,
    ⟨none, (some 110), .pick (.tmp 99) (.tmp 109) (.const (.bool false))⟩,
    ⟨none, (some 8), .mov (.tmp 110)⟩] true)
  .ret)))))))⟩


/-! 4: wharfage/wharfagelaw26.DrrFair -/
def law26_DrrFair.pol : Pol := { glob := [], mva := [16, 145], root := [(11, 11), (18, 18), (60, 18), (64, 18), (67, 18), (68, 18), (19, 19), (89, 18), (100, 18), (135, 18), (140, 18)], rs := [10], live := [([0, 1, 11, 13, 14, 15, 16, 51, 52, 53], [1, 15, 16]), ([1, 15, 16, 151, 152], []), ([1, 15, 16, 24, 151, 152, 158, 159], [1, 15, 16, 151, 152])] }
def law26_DrrFair.L0 : ACode :=
  (.seq (.region [⟨none, (some 54), .bin .lss (.tmp 53) (.tmp 52)⟩] false)
  (.seq (.cond (.tmp 54) .skip
   (.exit 0))
  (.seq (.block 1 (.seq (.region [⟨none, (some 55), .indexAddrS 8 (.tmp 51) (.tmp 53)⟩,
     ⟨none, (some 56), .load [.int .i64, .int .i64, .int .i64, .int .i64, .int .i64, .int .i64, .int .i64, .int .i64] true none (.tmp 55)⟩,
     ⟨none, (some 18), .allocL [(.at (.int .i64 0)), (.at (.int .i64 0)), (.at (.int .i64 0)), (.at (.int .i64 0)), (.at (.int .i64 0)), (.at (.int .i64 0)), (.at (.int .i64 0)), (.at (.int .i64 0))]⟩,
     ⟨none, none, .store 8 (some 18) (.tmp 18) (.tmp 56)⟩] false)
   (.seq (.region [⟨none, (some 57), .mov (.tmp 13)⟩,
     ⟨none, (some 58), .mov (.tmp 14)⟩,
     ⟨none, (some 59), .mov (.tmp 13)⟩,
     ⟨none, (some 60), .indexAddrA 8 1 (.tmp 18) (.tmp 59)⟩,
     ⟨none, (some 61), .load [.int .i64] false (some 18) (.tmp 60)⟩,
     ⟨none, (some 62), .minmax true [(.tmp 61), (.const (.int .i64 1))]⟩,
     ⟨none, (some 63), .mov (.tmp 14)⟩,
     ⟨none, (some 64), .indexAddrA 8 1 (.tmp 18) (.tmp 63)⟩,
     ⟨none, (some 65), .load [.int .i64] false (some 18) (.tmp 64)⟩,
     ⟨none, (some 66), .minmax true [(.tmp 65), (.const (.int .i64 1))]⟩,
     ⟨none, (some 67), .indexAddrA 8 1 (.tmp 18) (.tmp 57)⟩,
     ⟨none, none, .store 1 (some 18) (.tmp 67) (.tmp 62)⟩,
     ⟨none, (some 68), .indexAddrA 8 1 (.tmp 18) (.tmp 58)⟩,
     ⟨none, none, .store 1 (some 18) (.tmp 68) (.tmp 66)⟩] true)
   (.seq (.region [⟨none, (some 70), .load [.int .i64, .int .i64, .int .i64, .int .i64, .int .i64, .int .i64, .int .i64, .int .i64, .int .i64, .int .i64, .int .i64] true (some 11) (.tmp 11)⟩,
     ⟨none, (some 71), .load [.int .i64, .int .i64, .int .i64, .int .i64, .int .i64, .int .i64, .int .i64, .int .i64] true (some 18) (.tmp 18)⟩,
     ⟨none, (some 72), .call 9 [(.tmp 70), (.tmp 71)] [.ag, .int .i64, .bool]⟩,
     ⟨none, (some 69), .mov (.tmp 72)⟩,
     ⟨none, (some 73), .extract (.tmp 69) 0⟩,
     ⟨none, (some 74), .extract (.tmp 69) 1⟩,
     ⟨none, (some 75), .extract (.tmp 69) 2⟩,
     ⟨none, (some 19), .allocL [(.at (.int .i64 0)), (.at (.int .i64 0)), (.at (.int .i64 0)), (.at (.int .i64 0)), (.at (.int .i64 0)), (.at (.int .i64 0)), (.at (.int .i64 0)), (.at (.int .i64 0)), (.at (.int .i64 0)), (.at (.int .i64 0)), (.at (.int .i64 0))]⟩,
     ⟨none, none, .store 11 (some 19) (.tmp 19) (.tmp 73)⟩,
     ⟨none, (some 20), .mov (.tmp 74)⟩,
     ⟨none, (some 21), .mov (.tmp 75)⟩] false)
   (.seq (.seq (.region [⟨none, (some 76), .mov (.tmp 21)⟩,
     ⟨none, (some 77), .un .not (.tmp 76)⟩,
     ⟨none, (some 78), .mov (.tmp 77)⟩,
     ⟨some (78, false), (some 79), .mov (.tmp 20)⟩,
     ⟨some (78, false), (some 80), .bin .lss (.tmp 79) (.const (.int .i64 0))⟩,
     ⟨none, (some 81), .pick (.tmp 78) (.const (.bool true)) (.tmp 80)⟩,
     ⟨none, (some 82), .mov (.tmp 81)⟩,
     ⟨some (82, false), (some 83), .mov (.tmp 20)⟩,
     ⟨some (82, false), (some 84), .mov (.tmp 0)⟩,
     ⟨some (82, false), (some 85), .bin .geq (.tmp 83) (.tmp 84)⟩,
     ⟨none, (some 86), .pick (.tmp 82) (.const (.bool true)) (.tmp 85)⟩,
     ⟨none, (some 87), .mov (.tmp 86)⟩,
     ⟨some (87, false), (some 88), .mov (.tmp 20)⟩,
     ⟨some (87, false), (some 89), .indexAddrA 8 1 (.tmp 18) (.tmp 88)⟩,
     ⟨some (87, false), (some 90), .load [.int .i64] false (some 18) (.tmp 89)⟩,
     ⟨some (87, false), (some 91), .bin .lss (.tmp 90) (.const (.int .i64 1))⟩,
     ⟨none, (some 92), .pick (.tmp 87) (.const (.bool true)) (.tmp 91)⟩,
     ⟨none, (some 93), .mov (.tmp 92)⟩,
     ⟨some (93, false), (some 94), .load [.int .i64, .int .i64, .int .i64, .int .i64, .int .i64, .int .i64, .int .i64, .int .i64, .int .i64, .int .i64, .int .i64] true (some 19) (.tmp 19)⟩,
     ⟨some (93, false), (some 95), .call 15 [(.tmp 94)] [.int .i64]⟩,
     ⟨some (93, false), (some 96), .bin .neq (.tmp 95) (.const (.int .i64 0))⟩,
     ⟨none, (some 97), .pick (.tmp 93) (.const (.bool true)) (.tmp 96)⟩] false)
   (.cond (.tmp 97) (.seq (.region [⟨none, (some 10), .mov (.const (.bool false))⟩] false)
    .ret)
    .skip))
   (.seq (.region [⟨none, (some 98), .load [.int .i64, .int .i64, .int .i64, .int .i64, .int .i64, .int .i64, .int .i64, .int .i64, .int .i64, .int .i64, .int .i64] true (some 19) (.tmp 19)⟩,
     ⟨none, none, .store 11 (some 11) (.tmp 11) (.tmp 98)⟩] false)
   (.seq (.region [⟨none, (some 99), .mov (.tmp 20)⟩,
     ⟨none, (some 100), .indexAddrA 8 1 (.tmp 18) (.tmp 99)⟩,
     ⟨none, (some 101), .load [.int .i64] false (some 18) (.tmp 100)⟩,
     ⟨none, (some 102), .mov (.tmp 1)⟩,
     ⟨none, (some 103), .minmax false [(.tmp 101), (.tmp 102)]⟩,
     ⟨none, (some 22), .mov (.tmp 103)⟩] false)
   (.seq (.region [⟨none, (some 104), .mov (.tmp 16)⟩,
     ⟨none, (some 105), .mov (.tmp 16)⟩,
     ⟨none, (some 106), .lenL (.tmp 105)⟩,
     ⟨none, (some 107), .bin .sub (.tmp 106) (.const (.int .i64 1))⟩,
     ⟨none, (some 108), .indexAddrS 1 (.tmp 104) (.tmp 107)⟩,
     ⟨none, (some 109), .load [.int .i64] false none (.tmp 108)⟩,
     ⟨none, (some 23), .mov (.tmp 109)⟩] false)
   (.seq (.seq (.region [⟨none, (some 110), .mov (.tmp 20)⟩,
     ⟨none, (some 111), .mov (.tmp 13)⟩,
     ⟨none, (some 112), .bin .eql (.tmp 110) (.tmp 111)⟩] false)
   (.cond (.tmp 112) (.region [⟨none, (some 113), .mov (.tmp 23)⟩,
      ⟨none, (some 114), .mov (.tmp 22)⟩,
      ⟨none, (some 115), .bin .add (.tmp 113) (.tmp 114)⟩,
      ⟨none, (some 23), .mov (.tmp 115)⟩] false)
    .skip))
   (.seq (.seq (.region [⟨none, (some 116), .mov (.tmp 20)⟩,
     ⟨none, (some 117), .mov (.tmp 14)⟩,
     ⟨none, (some 118), .bin .eql (.tmp 116) (.tmp 117)⟩] false)
   (.cond (.tmp 118) (.region [⟨none, (some 119), .mov (.tmp 23)⟩,
      ⟨none, (some 120), .mov (.tmp 22)⟩,
      ⟨none, (some 121), .bin .sub (.tmp 119) (.tmp 120)⟩,
      ⟨none, (some 23), .mov (.tmp 121)⟩] false)
    .skip))
   (.seq (.seq (.region [⟨none, (some 122), .mov (.tmp 20)⟩,
     ⟨none, (some 123), .mov (.tmp 13)⟩,
     ⟨none, (some 124), .bin .eql (.tmp 122) (.tmp 123)⟩,
     ⟨none, (some 125), .mov (.tmp 124)⟩,
     ⟨some (125, false), (some 126), .mov (.tmp 20)⟩,
     ⟨some (125, false), (some 127), .mov (.tmp 14)⟩,
     ⟨some (125, false), (some 128), .bin .eql (.tmp 126) (.tmp 127)⟩,
     ⟨none, (some 129), .pick (.tmp 125) (.const (.bool true)) (.tmp 128)⟩] false)
   (.cond (.tmp 129) (.region [⟨none, (some 130), .mov (.tmp 15)⟩,
      ⟨none, (some 131), .mov (.tmp 22)⟩,
      ⟨none, (some 132), .minmax true [(.tmp 130), (.tmp 131)]⟩,
      ⟨none, (some 15), .mov (.tmp 132)⟩] false)
    .skip))
   (.seq (.region [⟨none, (some 133), .mov (.tmp 15)⟩,
     ⟨none, (some 134), .mov (.tmp 13)⟩,
     ⟨none, (some 135), .indexAddrA 8 1 (.tmp 18) (.tmp 134)⟩,
     ⟨none, (some 136), .load [.int .i64] false (some 18) (.tmp 135)⟩,
     ⟨none, (some 137), .mov (.tmp 1)⟩,
     ⟨none, (some 138), .minmax false [(.tmp 136), (.tmp 137)]⟩,
     ⟨none, (some 139), .mov (.tmp 14)⟩,
     ⟨none, (some 140), .indexAddrA 8 1 (.tmp 18) (.tmp 139)⟩,
     ⟨none, (some 141), .load [.int .i64] false (some 18) (.tmp 140)⟩,
     ⟨none, (some 142), .mov (.tmp 1)⟩,
     ⟨none, (some 143), .minmax false [(.tmp 141), (.tmp 142)]⟩,
     ⟨none, (some 144), .minmax true [(.tmp 133), (.tmp 138), (.tmp 143)]⟩,
     ⟨none, (some 15), .mov (.tmp 144)⟩] true)
   (.region [⟨none, (some 145), .movA 16⟩,
     ⟨none, (some 146), .mov (.tmp 23)⟩,
     ⟨none, (some 147), .buildSl 1 [(.tmp 146)]⟩,
     ⟨none, (some 148), .append 1 8 145 (.tmp 147)⟩,
     ⟨none, (some 16), .movA 148⟩] false)))))))))))))
  (.region [⟨none, (some 149), .bin .add (.tmp 53) (.const (.int .i64 1))⟩,
    ⟨none, (some 53), .mov (.tmp 149)⟩] false))))
def law26_DrrFair.L2 : ACode :=
  (.seq (.region [⟨none, (some 160), .bin .lss (.tmp 159) (.tmp 158)⟩] false)
  (.seq (.cond (.tmp 160) .skip
   (.exit 4))
  (.seq (.block 5 (.seq (.region [⟨none, (some 161), .mov (.tmp 159)⟩,
     ⟨none, (some 25), .mov (.tmp 161)⟩] false)
   (.seq (.region [⟨none, (some 162), .mov (.tmp 16)⟩,
     ⟨none, (some 163), .mov (.tmp 24)⟩,
     ⟨none, (some 164), .indexAddrS 1 (.tmp 162) (.tmp 163)⟩,
     ⟨none, (some 165), .load [.int .i64] false none (.tmp 164)⟩,
     ⟨none, (some 166), .mov (.tmp 16)⟩,
     ⟨none, (some 167), .mov (.tmp 25)⟩,
     ⟨none, (some 168), .indexAddrS 1 (.tmp 166) (.tmp 167)⟩,
     ⟨none, (some 169), .load [.int .i64] false none (.tmp 168)⟩,
     ⟨none, (some 170), .bin .sub (.tmp 165) (.tmp 169)⟩,
     ⟨none, (some 26), .mov (.tmp 170)⟩] true)
   (.seq (.region [⟨none, (some 171), .mov (.tmp 26)⟩,
     ⟨none, (some 172), .mov (.tmp 1)⟩,
     ⟨none, (some 173), .mov (.tmp 15)⟩,
     ⟨none, (some 174), .bin .mul (.const (.int .i64 2)) (.tmp 173)⟩,
     ⟨none, (some 175), .bin .add (.tmp 172) (.tmp 174)⟩,
     ⟨none, (some 176), .bin .geq (.tmp 171) (.tmp 175)⟩,
     ⟨none, (some 177), .mov (.tmp 176)⟩,
     ⟨some (177, true), (some 178), .mov (.tmp 15)⟩,
     ⟨some (177, true), (some 179), .bin .gtr (.tmp 178) (.const (.int .i64 0))⟩,
     ⟨none, (some 180), .pick (.tmp 177) (.tmp 179) (.const (.bool false))⟩,
     ⟨none, (some 181), .mov (.tmp 180)⟩,
     ⟨some (181, false), (some 182), .mov (.tmp 26)⟩,
     ⟨some (181, false), (some 183), .un .neg (.tmp 182)⟩,
     ⟨some (181, false), (some 184), .mov (.tmp 1)⟩,
     ⟨some (181, false), (some 185), .mov (.tmp 15)⟩,
     ⟨some (181, false), (some 186), .bin .mul (.const (.int .i64 2)) (.tmp 185)⟩,
     ⟨some (181, false), (some 187), .bin .add (.tmp 184) (.tmp 186)⟩,
     ⟨some (181, false), (some 188), .bin .geq (.tmp 183) (.tmp 187)⟩,
     ⟨some (181, false), (some 189), .mov (.tmp 188)⟩,
     ⟨some (189, true), (some 190), .mov (.tmp 15)⟩,
     ⟨some (189, true), (some 191), .bin .gtr (.tmp 190) (.const (.int .i64 0))⟩,
     ⟨some (181, false), (some 192), .pick (.tmp 189) (.tmp 191) (.const (.bool false))⟩,
     ⟨none, (some 193), .pick (.tmp 181) (.const (.bool true)) (.tmp 192)⟩] false)
   (.cond (.tmp 193) (.seq (.region [⟨none, (some 10), .mov (.const (.bool false))⟩] false)
    .ret)
    .skip)))))
  (.region [⟨none, (some 194), .bin .add (.tmp 159) (.const (.int .i64 1))⟩,
    ⟨none, (some 159), .mov (.tmp 194)⟩] false))))
def law26_DrrFair.L1 : ACode :=
  (.seq (.region [⟨none, (some 153), .bin .lss (.tmp 152) (.tmp 151)⟩] false)
  (.seq (.cond (.tmp 153) .skip
   (.exit 2))
  (.seq (.block 3 (.seq (.region [⟨none, (some 154), .mov (.tmp 152)⟩,
     ⟨none, (some 24), .mov (.tmp 154)⟩] false)
   (.seq (.region [⟨none, (some 155), .mov (.tmp 16)⟩,
     ⟨none, (some 156), .mov (.tmp 24)⟩,
     ⟨none, (some 157), .sliceV 1 (.tmp 155) none (some (.tmp 156))⟩,
     ⟨none, (some 158), .lenL (.tmp 157)⟩,
     ⟨none, (some 159), .mov (.const (.int .i64 0))⟩] false)
   (.block 4 (.loop [1, 15, 16, 24, 151, 152, 158, 159] [1, 15, 16, 151, 152] [10] law26_DrrFair.L2)))))
  (.region [⟨none, (some 195), .bin .add (.tmp 152) (.const (.int .i64 1))⟩,
    ⟨none, (some 152), .mov (.tmp 195)⟩] false))))
def law26_DrrFair.a : AFun := ⟨5, [.tmp 10],
  (.seq (.region [⟨none, (some 10), .mov (.const (.bool false))⟩] false)
  (.seq (.seq (.region [⟨none, (some 27), .call 14 [] [.bool]⟩,
    ⟨none, (some 28), .un .not (.tmp 27)⟩] false)
  (.cond (.tmp 28) (.seq (.region [⟨none, (some 10), .mov (.const (.bool false))⟩] false)
   .ret)
   .skip))
  (.seq (.region [⟨none, (some 30), .mov (.tmp 0)⟩,
    ⟨none, (some 31), .mov (.tmp 1)⟩,
    ⟨none, (some 32), .call 12 [(.tmp 30), (.tmp 31)] [.ag, .int .i64]⟩,
    ⟨none, (some 29), .mov (.tmp 32)⟩,
    ⟨none, (some 33), .extract (.tmp 29) 0⟩,
    ⟨none, (some 34), .extract (.tmp 29) 1⟩,
    ⟨none, (some 11), .allocL [(.at (.int .i64 0)), (.at (.int .i64 0)), (.at (.int .i64 0)), (.at (.int .i64 0)), (.at (.int .i64 0)), (.at (.int .i64 0)), (.at (.int .i64 0)), (.at (.int .i64 0)), (.at (.int .i64 0)), (.at (.int .i64 0)), (.at (.int .i64 0))]⟩,
    ⟨none, none, .store 11 (some 11) (.tmp 11) (.tmp 33)⟩,
    ⟨none, (some 12), .mov (.tmp 34)⟩] false)
  (.seq (.seq (.region [⟨none, (some 35), .mov (.tmp 12)⟩,
    ⟨none, (some 36), .bin .neq (.tmp 35) (.const (.int .i64 0))⟩,
    ⟨none, (some 37), .mov (.tmp 36)⟩,
    ⟨some (37, false), (some 38), .mov (.tmp 2)⟩,
    ⟨some (37, false), (some 39), .lenL (.tmp 38)⟩,
    ⟨some (37, false), (some 40), .bin .gtr (.tmp 39) (.const (.int .i64 100))⟩,
    ⟨none, (some 41), .pick (.tmp 37) (.const (.bool true)) (.tmp 40)⟩] false)
  (.cond (.tmp 41) (.seq (.region [⟨none, (some 10), .mov (.const (.bool true))⟩] false)
   .ret)
   .skip))
  (.seq (.region [⟨none, (some 42), .mov (.tmp 3)⟩,
    ⟨none, (some 43), .convI .i64 (.tmp 42)⟩,
    ⟨none, (some 44), .mov (.tmp 0)⟩,
    ⟨none, (some 45), .bin .rem (.tmp 43) (.tmp 44)⟩,
    ⟨none, (some 46), .mov (.tmp 4)⟩,
    ⟨none, (some 47), .convI .i64 (.tmp 46)⟩,
    ⟨none, (some 48), .mov (.tmp 0)⟩,
    ⟨none, (some 49), .bin .rem (.tmp 47) (.tmp 48)⟩,
    ⟨none, (some 13), .mov (.tmp 45)⟩,
    ⟨none, (some 14), .mov (.tmp 49)⟩] true)
  (.seq (.region [⟨none, (some 15), .mov (.const (.int .i64 0))⟩] false)
  (.seq (.region [⟨none, (some 50), .buildSl 1 [(.const (.int .i64 0))]⟩,
    ⟨none, (some 16), .movA 50⟩] false)
  (.seq (.seq (.region [⟨none, (some 51), .mov (.tmp 2)⟩,
    ⟨none, (some 52), .lenL (.tmp 51)⟩,
    ⟨none, (some 53), .mov (.const (.int .i64 0))⟩] false)
  (.block 0 (.loop [0, 1, 11, 13, 14, 15, 16, 51, 52, 53] [1, 15, 16] [10] law26_DrrFair.L0)))
  (.seq (.seq (.region [⟨none, (some 150), .mov (.tmp 16)⟩,
    ⟨none, (some 151), .lenL (.tmp 150)⟩,
    ⟨none, (some 152), .mov (.const (.int .i64 0))⟩] false)
  (.block 2 (.loop [1, 15, 16, 151, 152] [] [10] law26_DrrFair.L1)))
  (.seq (.region [⟨none, (some 10), .mov (.const (.bool true))⟩] false)
  .ret))))))))))⟩
def law26_DrrFair.R0 (C : CallF) (N : Nat) := round (evalC C N law26_DrrFair.L0) [0, 1, 11, 13, 14, 15, 16, 51, 52, 53] [1, 15, 16] [10]
def law26_DrrFair.K0 (C : CallF) (N : Nat) : Ex → St → R := contC C N [.snd, .snd, .snd, .snd, .snd, .snd, .snd, .fst, .snd, .blk] law26_DrrFair.a.body (finish law26_DrrFair.a)
def law26_DrrFair.R1 (C : CallF) (N : Nat) := round (evalC C N law26_DrrFair.L1) [1, 15, 16, 151, 152] [] [10]
def law26_DrrFair.K1 (C : CallF) (N : Nat) : Ex → St → R := contC C N [.snd, .snd, .snd, .snd, .snd, .snd, .snd, .snd, .fst, .snd, .blk] law26_DrrFair.a.body (finish law26_DrrFair.a)
def law26_DrrFair.R2 (C : CallF) (N : Nat) := round (evalC C N law26_DrrFair.L2) [1, 15, 16, 24, 151, 152, 158, 159] [1, 15, 16, 151, 152] [10]
def law26_DrrFair.K2 (C : CallF) (N : Nat) (k : Ex → St → R) : Ex → St → R := contC C N [.snd, .snd, .fst, .blk, .snd, .snd, .blk] law26_DrrFair.L1 (rndK [1, 15, 16, 151, 152] [] [10] k)


/-! 5: wharfage/wharfagelaw26.DrrNobody -/
def law26_DrrNobody.pol : Pol := { glob := [], mva := [], root := [(3, 3), (20, 3), (7, 7), (33, 3), (36, 3), (39, 3), (10, 10), (55, 10), (58, 10), (11, 11), (74, 3), (80, 10)], rs := [6], live := [([1, 3, 7, 8, 42, 43], [])] }
def law26_DrrNobody.L0 : ACode :=
  (.seq (.region [⟨none, (some 44), .bin .lss (.tmp 43) (.tmp 42)⟩] false)
  (.seq (.cond (.tmp 44) .skip
   (.exit 0))
  (.seq (.block 1 (.seq (.region [⟨none, (some 45), .mov (.tmp 43)⟩,
     ⟨none, (some 9), .mov (.tmp 45)⟩] false)
   (.seq (.region [⟨none, (some 46), .mov (.tmp 1)⟩,
     ⟨none, (some 47), .mov (.tmp 9)⟩,
     ⟨none, (some 48), .mov (.tmp 1)⟩,
     ⟨none, (some 49), .lenL (.tmp 48)⟩,
     ⟨none, (some 50), .bin .rem (.tmp 47) (.tmp 49)⟩,
     ⟨none, (some 51), .indexAddrS 8 (.tmp 46) (.tmp 50)⟩,
     ⟨none, (some 52), .load [.int .i64, .int .i64, .int .i64, .int .i64, .int .i64, .int .i64, .int .i64, .int .i64] true none (.tmp 51)⟩,
     ⟨none, (some 10), .allocL [(.at (.int .i64 0)), (.at (.int .i64 0)), (.at (.int .i64 0)), (.at (.int .i64 0)), (.at (.int .i64 0)), (.at (.int .i64 0)), (.at (.int .i64 0)), (.at (.int .i64 0))]⟩,
     ⟨none, none, .store 8 (some 10) (.tmp 10) (.tmp 52)⟩] false)
   (.seq (.region [⟨none, (some 53), .mov (.tmp 8)⟩,
     ⟨none, (some 54), .mov (.tmp 8)⟩,
     ⟨none, (some 55), .indexAddrA 8 1 (.tmp 10) (.tmp 54)⟩,
     ⟨none, (some 56), .load [.int .i64] false (some 10) (.tmp 55)⟩,
     ⟨none, (some 57), .minmax true [(.tmp 56), (.const (.int .i64 1))]⟩,
     ⟨none, (some 58), .indexAddrA 8 1 (.tmp 10) (.tmp 53)⟩,
     ⟨none, none, .store 1 (some 10) (.tmp 58) (.tmp 57)⟩] false)
   (.seq (.region [⟨none, (some 60), .load [.int .i64, .int .i64, .int .i64, .int .i64, .int .i64, .int .i64, .int .i64, .int .i64, .int .i64, .int .i64, .int .i64] true (some 7) (.tmp 7)⟩,
     ⟨none, (some 61), .load [.int .i64, .int .i64, .int .i64, .int .i64, .int .i64, .int .i64, .int .i64, .int .i64] true (some 10) (.tmp 10)⟩,
     ⟨none, (some 62), .call 9 [(.tmp 60), (.tmp 61)] [.ag, .int .i64, .bool]⟩,
     ⟨none, (some 59), .mov (.tmp 62)⟩,
     ⟨none, (some 63), .extract (.tmp 59) 0⟩,
     ⟨none, (some 64), .extract (.tmp 59) 1⟩,
     ⟨none, (some 65), .extract (.tmp 59) 2⟩,
     ⟨none, (some 11), .allocL [(.at (.int .i64 0)), (.at (.int .i64 0)), (.at (.int .i64 0)), (.at (.int .i64 0)), (.at (.int .i64 0)), (.at (.int .i64 0)), (.at (.int .i64 0)), (.at (.int .i64 0)), (.at (.int .i64 0)), (.at (.int .i64 0)), (.at (.int .i64 0))]⟩,
     ⟨none, none, .store 11 (some 11) (.tmp 11) (.tmp 63)⟩,
     ⟨none, (some 12), .mov (.tmp 64)⟩,
     ⟨none, (some 13), .mov (.tmp 65)⟩] false)
   (.seq (.seq (.region [⟨none, (some 66), .mov (.tmp 13)⟩,
     ⟨none, (some 67), .un .not (.tmp 66)⟩,
     ⟨none, (some 68), .mov (.tmp 67)⟩,
     ⟨some (68, false), (some 69), .mov (.tmp 12)⟩,
     ⟨some (68, false), (some 70), .bin .lss (.tmp 69) (.const (.int .i64 0))⟩,
     ⟨none, (some 71), .pick (.tmp 68) (.const (.bool true)) (.tmp 70)⟩,
     ⟨none, (some 72), .mov (.tmp 71)⟩,
     ⟨some (72, false), (some 73), .mov (.tmp 12)⟩,
     ⟨some (72, false), (some 74), .addr 0 (.tmp 3)⟩,
     ⟨some (72, false), (some 75), .load [.int .i64] false (some 3) (.tmp 74)⟩,
     ⟨some (72, false), (some 76), .bin .geq (.tmp 73) (.tmp 75)⟩,
     ⟨none, (some 77), .pick (.tmp 72) (.const (.bool true)) (.tmp 76)⟩,
     ⟨none, (some 78), .mov (.tmp 77)⟩,
     ⟨some (78, false), (some 79), .mov (.tmp 12)⟩,
     ⟨some (78, false), (some 80), .indexAddrA 8 1 (.tmp 10) (.tmp 79)⟩,
     ⟨some (78, false), (some 81), .load [.int .i64] false (some 10) (.tmp 80)⟩,
     ⟨some (78, false), (some 82), .bin .lss (.tmp 81) (.const (.int .i64 1))⟩,
     ⟨none, (some 83), .pick (.tmp 78) (.const (.bool true)) (.tmp 82)⟩] false)
   (.cond (.tmp 83) (.seq (.region [⟨none, (some 6), .mov (.const (.bool false))⟩] false)
    .ret)
    .skip))
   (.seq (.seq (.region [⟨none, (some 84), .mov (.tmp 12)⟩,
     ⟨none, (some 85), .mov (.tmp 8)⟩,
     ⟨none, (some 86), .bin .eql (.tmp 84) (.tmp 85)⟩] false)
   (.cond (.tmp 86) (.seq (.region [⟨none, (some 6), .mov (.const (.bool true))⟩] false)
    .ret)
    .skip))
   (.region [⟨none, (some 87), .load [.int .i64, .int .i64, .int .i64, .int .i64, .int .i64, .int .i64, .int .i64, .int .i64, .int .i64, .int .i64, .int .i64] true (some 11) (.tmp 11)⟩,
     ⟨none, none, .store 11 (some 7) (.tmp 7) (.tmp 87)⟩] false))))))))
  (.region [⟨none, (some 88), .bin .add (.tmp 43) (.const (.int .i64 1))⟩,
    ⟨none, (some 43), .mov (.tmp 88)⟩] false))))
def law26_DrrNobody.a : AFun := ⟨3, [.tmp 6],
  (.seq (.region [⟨none, (some 3), .boxL (.tmp 0)⟩,
    ⟨none, (some 6), .mov (.const (.bool false))⟩] false)
  (.seq (.seq (.region [⟨none, (some 14), .call 14 [] [.bool]⟩,
    ⟨none, (some 15), .un .not (.tmp 14)⟩] false)
  (.cond (.tmp 15) (.seq (.region [⟨none, (some 6), .mov (.const (.bool false))⟩] false)
   .ret)
   .skip))
  (.seq (.seq (.region [⟨none, (some 16), .load [.int .i64, .int .i64, .int .i64, .int .i64, .int .i64, .int .i64, .int .i64, .int .i64, .int .i64, .int .i64, .int .i64] true (some 3) (.tmp 3)⟩,
    ⟨none, (some 17), .call 13 [(.tmp 16)] [.bool]⟩,
    ⟨none, (some 18), .un .not (.tmp 17)⟩,
    ⟨none, (some 19), .mov (.tmp 18)⟩,
    ⟨some (19, false), (some 20), .addr 1 (.tmp 3)⟩,
    ⟨some (19, false), (some 21), .load [.int .i64] false (some 3) (.tmp 20)⟩,
    ⟨some (19, false), (some 22), .bin .gtr (.tmp 21) (.const (.int .i64 6))⟩,
    ⟨none, (some 23), .pick (.tmp 19) (.const (.bool true)) (.tmp 22)⟩,
    ⟨none, (some 24), .mov (.tmp 23)⟩,
    ⟨some (24, false), (some 25), .mov (.tmp 1)⟩,
    ⟨some (24, false), (some 26), .lenL (.tmp 25)⟩,
    ⟨some (24, false), (some 27), .bin .eql (.tmp 26) (.const (.int .i64 0))⟩,
    ⟨none, (some 28), .pick (.tmp 24) (.const (.bool true)) (.tmp 27)⟩] false)
  (.cond (.tmp 28) (.seq (.region [⟨none, (some 6), .mov (.const (.bool true))⟩] false)
   .ret)
   .skip))
  (.seq (.region [⟨none, (some 29), .load [.int .i64, .int .i64, .int .i64, .int .i64, .int .i64, .int .i64, .int .i64, .int .i64, .int .i64, .int .i64, .int .i64] true (some 3) (.tmp 3)⟩,
    ⟨none, (some 30), .call 10 [(.tmp 29)] [.ag]⟩,
    ⟨none, (some 7), .allocL [(.at (.int .i64 0)), (.at (.int .i64 0)), (.at (.int .i64 0)), (.at (.int .i64 0)), (.at (.int .i64 0)), (.at (.int .i64 0)), (.at (.int .i64 0)), (.at (.int .i64 0)), (.at (.int .i64 0)), (.at (.int .i64 0)), (.at (.int .i64 0))]⟩,
    ⟨none, none, .store 11 (some 7) (.tmp 7) (.tmp 30)⟩] false)
  (.seq (.region [⟨none, (some 31), .mov (.tmp 2)⟩,
    ⟨none, (some 32), .convI .i64 (.tmp 31)⟩,
    ⟨none, (some 33), .addr 0 (.tmp 3)⟩,
    ⟨none, (some 34), .load [.int .i64] false (some 3) (.tmp 33)⟩,
    ⟨none, (some 35), .bin .rem (.tmp 32) (.tmp 34)⟩,
    ⟨none, (some 8), .mov (.tmp 35)⟩] false)
  (.seq (.seq (.region [⟨none, (some 36), .addr 0 (.tmp 3)⟩,
    ⟨none, (some 37), .load [.int .i64] false (some 3) (.tmp 36)⟩,
    ⟨none, (some 38), .bin .mul (.tmp 37) (.const (.int .i64 2))⟩,
    ⟨none, (some 39), .addr 1 (.tmp 3)⟩,
    ⟨none, (some 40), .load [.int .i64] false (some 3) (.tmp 39)⟩,
    ⟨none, (some 41), .bin .mul (.tmp 38) (.tmp 40)⟩,
    ⟨none, (some 42), .bin .add (.tmp 41) (.const (.int .i64 1))⟩,
    ⟨none, (some 43), .mov (.const (.int .i64 0))⟩] false)
  (.block 0 (.loop [1, 3, 7, 8, 42, 43] [] [6] law26_DrrNobody.L0)))
  (.seq (.region [⟨none, (some 6), .mov (.const (.bool false))⟩] false)
  .ret)))))))⟩
def law26_DrrNobody.R0 (C : CallF) (N : Nat) := round (evalC C N law26_DrrNobody.L0) [1, 3, 7, 8, 42, 43] [] [6]
def law26_DrrNobody.K0 (C : CallF) (N : Nat) : Ex → St → R := contC C N [.snd, .snd, .snd, .snd, .snd, .fst, .snd, .blk] law26_DrrNobody.a.body (finish law26_DrrNobody.a)


/-! 9: wharfage/drr.Next -/
def drr_Next.pol : Pol := { glob := [], mva := [], root := [(2, 2), (3, 3), (4, 4), (17, 2), (21, 2), (27, 2), (29, 2), (30, 2), (33, 2), (35, 2), (36, 2), (39, 2), (41, 2), (42, 2), (46, 2), (47, 2), (49, 2)], rs := [4, 5, 6], live := [([2, 3, 4], [])] }
def drr_Next.L0 : ACode :=
  (.block 1 (.seq (.region [⟨none, (some 19), .load [.int .i64, .int .i64, .int .i64, .int .i64, .int .i64, .int .i64, .int .i64, .int .i64, .int .i64, .int .i64, .int .i64] true (some 2) (.tmp 2)⟩,
     ⟨none, (some 20), .load [.int .i64, .int .i64, .int .i64, .int .i64, .int .i64, .int .i64, .int .i64, .int .i64] true (some 3) (.tmp 3)⟩,
     ⟨none, (some 21), .addr 2 (.tmp 2)⟩,
     ⟨none, (some 22), .load [.int .i64] false (some 2) (.tmp 21)⟩,
     ⟨none, (some 23), .call 33 [(.tmp 19), (.tmp 20), (.tmp 22)] [.int .i64]⟩,
     ⟨none, (some 7), .mov (.tmp 23)⟩] false)
   (.seq (.block 2 (.seq (.region [⟨none, (some 25), .mov (.tmp 7)⟩,
      ⟨none, (some 26), .bin .eql (.tmp 25) (.const (.int .i64 0))⟩,
      ⟨none, (some 24), .mov (.tmp 26)⟩] false)
    (.cond (.tmp 24) (.region [⟨none, (some 27), .addr 2 (.tmp 2)⟩,
       ⟨none, (some 28), .load [.int .i64] false (some 2) (.tmp 27)⟩,
       ⟨none, (some 29), .addr 3 (.tmp 2)⟩,
       ⟨none, (some 30), .indexAddrA 8 1 (.tmp 29) (.tmp 28)⟩,
       ⟨none, none, .store 1 (some 2) (.tmp 30) (.const (.int .i64 0))⟩] false)
     (.seq (.region [⟨none, (some 32), .mov (.tmp 7)⟩,
       ⟨none, (some 33), .addr 2 (.tmp 2)⟩,
       ⟨none, (some 34), .load [.int .i64] false (some 2) (.tmp 33)⟩,
       ⟨none, (some 35), .addr 3 (.tmp 2)⟩,
       ⟨none, (some 36), .indexAddrA 8 1 (.tmp 35) (.tmp 34)⟩,
       ⟨none, (some 37), .load [.int .i64] false (some 2) (.tmp 36)⟩,
       ⟨none, (some 38), .bin .leq (.tmp 32) (.tmp 37)⟩,
       ⟨none, (some 31), .mov (.tmp 38)⟩] false)
     (.cond (.tmp 31) (.seq (.region [⟨none, (some 39), .addr 2 (.tmp 2)⟩,
        ⟨none, (some 40), .load [.int .i64] false (some 2) (.tmp 39)⟩,
        ⟨none, (some 41), .addr 3 (.tmp 2)⟩,
        ⟨none, (some 42), .indexAddrA 8 1 (.tmp 41) (.tmp 40)⟩,
        ⟨none, (some 43), .load [.int .i64] false (some 2) (.tmp 42)⟩,
        ⟨none, (some 44), .mov (.tmp 7)⟩,
        ⟨none, (some 45), .bin .sub (.tmp 43) (.tmp 44)⟩,
        ⟨none, (some 46), .addr 3 (.tmp 2)⟩,
        ⟨none, (some 47), .indexAddrA 8 1 (.tmp 46) (.tmp 40)⟩,
        ⟨none, none, .store 1 (some 2) (.tmp 47) (.tmp 45)⟩] false)
      (.seq (.region [⟨none, (some 48), .load [.int .i64, .int .i64, .int .i64, .int .i64, .int .i64, .int .i64, .int .i64, .int .i64, .int .i64, .int .i64, .int .i64] true (some 2) (.tmp 2)⟩,
        ⟨none, (some 49), .addr 2 (.tmp 2)⟩,
        ⟨none, (some 50), .load [.int .i64] false (some 2) (.tmp 49)⟩,
        ⟨none, none, .store 11 (some 4) (.tmp 4) (.tmp 48)⟩,
        ⟨none, (some 5), .mov (.tmp 50)⟩,
        ⟨none, (some 6), .mov (.const (.bool true))⟩] true)
      .ret))
      .skip)))))
   (.region [⟨none, (some 51), .load [.int .i64, .int .i64, .int .i64, .int .i64, .int .i64, .int .i64, .int .i64, .int .i64, .int .i64, .int .i64, .int .i64] true (some 2) (.tmp 2)⟩,
     ⟨none, (some 52), .load [.int .i64, .int .i64, .int .i64, .int .i64, .int .i64, .int .i64, .int .i64, .int .i64] true (some 3) (.tmp 3)⟩,
     ⟨none, (some 53), .call 34 [(.tmp 51), (.tmp 52)] [.ag]⟩,
     ⟨none, none, .store 11 (some 2) (.tmp 2) (.tmp 53)⟩] false))))
def drr_Next.a : AFun := ⟨2, [.cell 4 [.int .i64, .int .i64, .int .i64, .int .i64, .int .i64, .int .i64, .int .i64, .int .i64, .int .i64, .int .i64, .int .i64] true, .tmp 5, .tmp 6],
  (.seq (.region [⟨none, (some 2), .boxL (.tmp 0)⟩,
    ⟨none, (some 3), .boxL (.tmp 1)⟩,
    ⟨none, (some 4), .allocL [(.at (.int .i64 0)), (.at (.int .i64 0)), (.at (.int .i64 0)), (.at (.int .i64 0)), (.at (.int .i64 0)), (.at (.int .i64 0)), (.at (.int .i64 0)), (.at (.int .i64 0)), (.at (.int .i64 0)), (.at (.int .i64 0)), (.at (.int .i64 0))]⟩,
    ⟨none, (some 5), .mov (.const (.int .i64 0))⟩,
    ⟨none, (some 6), .mov (.const (.bool false))⟩] false)
  (.seq (.seq (.region [⟨none, (some 8), .load [.int .i64, .int .i64, .int .i64, .int .i64, .int .i64, .int .i64, .int .i64, .int .i64, .int .i64, .int .i64, .int .i64] true (some 2) (.tmp 2)⟩,
    ⟨none, (some 9), .call 15 [(.tmp 8)] [.int .i64]⟩,
    ⟨none, (some 10), .bin .neq (.tmp 9) (.const (.int .i64 0))⟩] false)
  (.cond (.tmp 10) (.seq (.region [⟨none, (some 11), .load [.int .i64, .int .i64, .int .i64, .int .i64, .int .i64, .int .i64, .int .i64, .int .i64, .int .i64, .int .i64, .int .i64] true (some 2) (.tmp 2)⟩,
     ⟨none, none, .store 11 (some 4) (.tmp 4) (.tmp 11)⟩,
     ⟨none, (some 5), .mov (.const (.int .i64 0))⟩,
     ⟨none, (some 6), .mov (.const (.bool false))⟩] false)
   .ret)
   .skip))
  (.seq (.seq (.region [⟨none, (some 12), .load [.int .i64, .int .i64, .int .i64, .int .i64, .int .i64, .int .i64, .int .i64, .int .i64, .int .i64, .int .i64, .int .i64] true (some 2) (.tmp 2)⟩,
    ⟨none, (some 13), .load [.int .i64, .int .i64, .int .i64, .int .i64, .int .i64, .int .i64, .int .i64, .int .i64] true (some 3) (.tmp 3)⟩,
    ⟨none, (some 14), .call 32 [(.tmp 12), (.tmp 13)] [.bool]⟩,
    ⟨none, (some 15), .un .not (.tmp 14)⟩] false)
  (.cond (.tmp 15) (.seq (.region [⟨none, (some 16), .build [(.at (.int .i64 0)), (.at (.int .i64 0)), (.at (.int .i64 0)), (.at (.int .i64 0)), (.at (.int .i64 0)), (.at (.int .i64 0)), (.at (.int .i64 0)), (.at (.int .i64 0))] []⟩,
     ⟨none, (some 17), .addr 3 (.tmp 2)⟩,
     ⟨none, none, .store 8 (some 2) (.tmp 17) (.tmp 16)⟩] false)
   (.seq (.region [⟨none, (some 18), .load [.int .i64, .int .i64, .int .i64, .int .i64, .int .i64, .int .i64, .int .i64, .int .i64, .int .i64, .int .i64, .int .i64] true (some 2) (.tmp 2)⟩,
     ⟨none, none, .store 11 (some 4) (.tmp 4) (.tmp 18)⟩,
     ⟨none, (some 5), .mov (.const (.int .i64 0))⟩,
     ⟨none, (some 6), .mov (.const (.bool false))⟩] false)
   .ret))
   .skip))
  (.block 0 (.loop [2, 3, 4] [] [4, 5, 6] drr_Next.L0)))))⟩
def drr_Next.R0 (C : CallF) (N : Nat) := round (evalC C N drr_Next.L0) [2, 3, 4] [] [4, 5, 6]
def drr_Next.K0 (C : CallF) (N : Nat) : Ex → St → R := contC C N [.snd, .snd, .snd, .blk] drr_Next.a.body (finish drr_Next.a)


/-! 10: wharfage/wharfagelaw26.ours -/
def law26_ours.pol : Pol := { glob := [], mva := [], root := [(1, 1), (2, 2), (3, 1), (5, 1), (7, 1), (9, 1)], rs := [2], live := [] }
def law26_ours.a : AFun := ⟨1, [.cell 2 [.int .i64, .int .i64, .int .i64, .int .i64, .int .i64, .int .i64, .int .i64, .int .i64, .int .i64, .int .i64, .int .i64] true],
  (.seq (.region [⟨none, (some 1), .boxL (.tmp 0)⟩,
    ⟨none, (some 2), .allocL [(.at (.int .i64 0)), (.at (.int .i64 0)), (.at (.int .i64 0)), (.at (.int .i64 0)), (.at (.int .i64 0)), (.at (.int .i64 0)), (.at (.int .i64 0)), (.at (.int .i64 0)), (.at (.int .i64 0)), (.at (.int .i64 0)), (.at (.int .i64 0))]⟩] false)
  (.seq (.region [⟨none, (some 3), .addr 0 (.tmp 1)⟩,
    ⟨none, (some 4), .load [.int .i64] false (some 1) (.tmp 3)⟩,
    ⟨none, (some 5), .addr 1 (.tmp 1)⟩,
    ⟨none, (some 6), .load [.int .i64] false (some 1) (.tmp 5)⟩,
    ⟨none, (some 7), .addr 2 (.tmp 1)⟩,
    ⟨none, (some 8), .load [.int .i64] false (some 1) (.tmp 7)⟩,
    ⟨none, (some 9), .addr 3 (.tmp 1)⟩,
    ⟨none, (some 10), .load [.int .i64, .int .i64, .int .i64, .int .i64, .int .i64, .int .i64, .int .i64, .int .i64] true (some 1) (.tmp 9)⟩,
    ⟨none, (some 11), .build [(.at (.int .i64 0)), (.at (.int .i64 0)), (.at (.int .i64 0)), (.at (.int .i64 0)), (.at (.int .i64 0)), (.at (.int .i64 0)), (.at (.int .i64 0)), (.at (.int .i64 0)), (.at (.int .i64 0)), (.at (.int .i64 0)), (.at (.int .i64 0))] [(0, 1, (.tmp 4)), (1, 1, (.tmp 6)), (2, 1, (.tmp 8)), (3, 8, (.tmp 10))]⟩,
    ⟨none, none, .store 11 (some 2) (.tmp 2) (.tmp 11)⟩] false)
  .ret))⟩


/-! 11: wharfage/wharfageref26.Next -/
def ref26_Next.pol : Pol := { glob := [], mva := [], root := [(2, 2), (3, 3), (4, 4), (16, 2), (24, 3), (35, 2), (36, 2), (38, 2), (40, 2), (42, 3), (47, 2), (49, 2), (50, 2), (54, 2), (56, 2), (57, 2), (62, 2), (64, 2), (66, 2), (67, 2), (71, 2), (72, 2), (74, 2), (76, 2), (79, 2), (80, 2), (82, 2), (85, 2), (86, 2), (88, 3), (91, 2), (93, 2), (95, 2), (96, 2), (98, 2), (101, 2), (102, 2)], rs := [4, 5, 6], live := [([2, 3, 4, 7, 8], [2, 3, 4, 7]), ([2, 4, 9], [2, 4]), ([2, 3, 4], [])] }
def ref26_Next.L0 : ACode :=
  (.seq (.seq (.region [⟨none, (some 15), .mov (.tmp 8)⟩,
    ⟨none, (some 16), .addr 0 (.tmp 2)⟩,
    ⟨none, (some 17), .load [.int .i64] false (some 2) (.tmp 16)⟩,
    ⟨none, (some 18), .bin .lss (.tmp 15) (.tmp 17)⟩] false)
  (.cond (.tmp 18) .skip
   (.exit 0)))
  (.seq (.block 1 (.region [⟨none, (some 21), .mov (.tmp 7)⟩,
     ⟨none, (some 22), .mov (.tmp 21)⟩,
     ⟨some (22, false), (some 23), .mov (.tmp 8)⟩,
     ⟨some (22, false), (some 24), .indexAddrA 8 1 (.tmp 3) (.tmp 23)⟩,
     ⟨some (22, false), (some 25), .load [.int .i64] false (some 3) (.tmp 24)⟩,
     ⟨some (22, false), (some 26), .bin .gtr (.tmp 25) (.const (.int .i64 0))⟩,
     ⟨none, (some 27), .pick (.tmp 22) (.const (.bool true)) (.tmp 26)⟩,
     ⟨none, (some 7), .mov (.tmp 27)⟩] false))
  (.region [⟨none, (some 19), .mov (.tmp 8)⟩,
    ⟨none, (some 20), .bin .add (.tmp 19) (.const (.int .i64 1))⟩,
    ⟨none, (some 8), .mov (.tmp 20)⟩] false)))
def ref26_Next.L1 : ACode :=
  (.seq (.seq (.region [⟨none, (some 30), .mov (.tmp 9)⟩,
    ⟨none, (some 31), .bin .lss (.tmp 30) (.const (.int .i64 8))⟩] false)
  (.cond (.tmp 31) .skip
   (.exit 2)))
  (.seq (.block 3 (.region [⟨none, (some 34), .mov (.tmp 9)⟩,
     ⟨none, (some 35), .addr 3 (.tmp 2)⟩,
     ⟨none, (some 36), .indexAddrA 8 1 (.tmp 35) (.tmp 34)⟩,
     ⟨none, none, .store 1 (some 2) (.tmp 36) (.const (.int .i64 0))⟩] false))
  (.region [⟨none, (some 32), .mov (.tmp 9)⟩,
    ⟨none, (some 33), .bin .add (.tmp 32) (.const (.int .i64 1))⟩,
    ⟨none, (some 9), .mov (.tmp 33)⟩] false)))
def ref26_Next.L2 : ACode :=
  (.block 5 (.seq (.region [⟨none, (some 38), .addr 1 (.tmp 2)⟩,
     ⟨none, (some 39), .load [.int .i64] false (some 2) (.tmp 38)⟩,
     ⟨none, (some 40), .addr 2 (.tmp 2)⟩,
     ⟨none, (some 41), .load [.int .i64] false (some 2) (.tmp 40)⟩,
     ⟨none, (some 42), .indexAddrA 8 1 (.tmp 3) (.tmp 41)⟩,
     ⟨none, (some 43), .load [.int .i64] false (some 3) (.tmp 42)⟩,
     ⟨none, (some 44), .call 35 [(.tmp 39), (.tmp 43)] [.int .i64]⟩,
     ⟨none, (some 10), .mov (.tmp 44)⟩] true)
   (.seq (.seq (.region [⟨none, (some 45), .mov (.tmp 10)⟩,
     ⟨none, (some 46), .bin .eql (.tmp 45) (.const (.int .i64 0))⟩] false)
   (.cond (.tmp 46) (.region [⟨none, (some 47), .addr 2 (.tmp 2)⟩,
      ⟨none, (some 48), .load [.int .i64] false (some 2) (.tmp 47)⟩,
      ⟨none, (some 49), .addr 3 (.tmp 2)⟩,
      ⟨none, (some 50), .indexAddrA 8 1 (.tmp 49) (.tmp 48)⟩,
      ⟨none, none, .store 1 (some 2) (.tmp 50) (.const (.int .i64 0))⟩] false)
    .skip))
   (.seq (.seq (.region [⟨none, (some 51), .mov (.tmp 10)⟩,
     ⟨none, (some 52), .bin .gtr (.tmp 51) (.const (.int .i64 0))⟩,
     ⟨none, (some 53), .mov (.tmp 52)⟩,
     ⟨some (53, true), (some 54), .addr 2 (.tmp 2)⟩,
     ⟨some (53, true), (some 55), .load [.int .i64] false (some 2) (.tmp 54)⟩,
     ⟨some (53, true), (some 56), .addr 3 (.tmp 2)⟩,
     ⟨some (53, true), (some 57), .indexAddrA 8 1 (.tmp 56) (.tmp 55)⟩,
     ⟨some (53, true), (some 58), .load [.int .i64] false (some 2) (.tmp 57)⟩,
     ⟨some (53, true), (some 59), .mov (.tmp 10)⟩,
     ⟨some (53, true), (some 60), .bin .geq (.tmp 58) (.tmp 59)⟩,
     ⟨none, (some 61), .pick (.tmp 53) (.tmp 60) (.const (.bool false))⟩] false)
   (.cond (.tmp 61) (.seq (.region [⟨none, (some 62), .addr 2 (.tmp 2)⟩,
      ⟨none, (some 63), .load [.int .i64] false (some 2) (.tmp 62)⟩,
      ⟨none, (some 64), .addr 2 (.tmp 2)⟩,
      ⟨none, (some 65), .load [.int .i64] false (some 2) (.tmp 64)⟩,
      ⟨none, (some 66), .addr 3 (.tmp 2)⟩,
      ⟨none, (some 67), .indexAddrA 8 1 (.tmp 66) (.tmp 65)⟩,
      ⟨none, (some 68), .load [.int .i64] false (some 2) (.tmp 67)⟩,
      ⟨none, (some 69), .mov (.tmp 10)⟩,
      ⟨none, (some 70), .bin .sub (.tmp 68) (.tmp 69)⟩,
      ⟨none, (some 71), .addr 3 (.tmp 2)⟩,
      ⟨none, (some 72), .indexAddrA 8 1 (.tmp 71) (.tmp 63)⟩,
      ⟨none, none, .store 1 (some 2) (.tmp 72) (.tmp 70)⟩] true)
    (.seq (.region [⟨none, (some 73), .load [.int .i64, .int .i64, .int .i64, .int .i64, .int .i64, .int .i64, .int .i64, .int .i64, .int .i64, .int .i64, .int .i64] true (some 2) (.tmp 2)⟩,
      ⟨none, (some 74), .addr 2 (.tmp 2)⟩,
      ⟨none, (some 75), .load [.int .i64] false (some 2) (.tmp 74)⟩,
      ⟨none, none, .store 11 (some 4) (.tmp 4) (.tmp 73)⟩,
      ⟨none, (some 5), .mov (.tmp 75)⟩,
      ⟨none, (some 6), .mov (.const (.bool true))⟩] true)
    .ret))
    .skip))
   (.seq (.region [⟨none, (some 76), .addr 2 (.tmp 2)⟩,
     ⟨none, (some 77), .load [.int .i64] false (some 2) (.tmp 76)⟩,
     ⟨none, (some 78), .bin .add (.tmp 77) (.const (.int .i64 1))⟩,
     ⟨none, (some 79), .addr 2 (.tmp 2)⟩,
     ⟨none, none, .store 1 (some 2) (.tmp 79) (.tmp 78)⟩] false)
   (.seq (.seq (.region [⟨none, (some 80), .addr 2 (.tmp 2)⟩,
     ⟨none, (some 81), .load [.int .i64] false (some 2) (.tmp 80)⟩,
     ⟨none, (some 82), .addr 0 (.tmp 2)⟩,
     ⟨none, (some 83), .load [.int .i64] false (some 2) (.tmp 82)⟩,
     ⟨none, (some 84), .bin .eql (.tmp 81) (.tmp 83)⟩] false)
   (.cond (.tmp 84) (.region [⟨none, (some 85), .addr 2 (.tmp 2)⟩,
      ⟨none, none, .store 1 (some 2) (.tmp 85) (.const (.int .i64 0))⟩] false)
    .skip))
   (.seq (.region [⟨none, (some 86), .addr 2 (.tmp 2)⟩,
     ⟨none, (some 87), .load [.int .i64] false (some 2) (.tmp 86)⟩,
     ⟨none, (some 88), .indexAddrA 8 1 (.tmp 3) (.tmp 87)⟩,
     ⟨none, (some 89), .load [.int .i64] false (some 3) (.tmp 88)⟩,
     ⟨none, (some 90), .bin .gtr (.tmp 89) (.const (.int .i64 0))⟩] false)
   (.cond (.tmp 90) (.region [⟨none, (some 91), .addr 2 (.tmp 2)⟩,
      ⟨none, (some 92), .load [.int .i64] false (some 2) (.tmp 91)⟩,
      ⟨none, (some 93), .addr 2 (.tmp 2)⟩,
      ⟨none, (some 94), .load [.int .i64] false (some 2) (.tmp 93)⟩,
      ⟨none, (some 95), .addr 3 (.tmp 2)⟩,
      ⟨none, (some 96), .indexAddrA 8 1 (.tmp 95) (.tmp 94)⟩,
      ⟨none, (some 97), .load [.int .i64] false (some 2) (.tmp 96)⟩,
      ⟨none, (some 98), .addr 1 (.tmp 2)⟩,
      ⟨none, (some 99), .load [.int .i64] false (some 2) (.tmp 98)⟩,
      ⟨none, (some 100), .bin .add (.tmp 97) (.tmp 99)⟩,
      ⟨none, (some 101), .addr 3 (.tmp 2)⟩,
      ⟨none, (some 102), .indexAddrA 8 1 (.tmp 101) (.tmp 92)⟩,
      ⟨none, none, .store 1 (some 2) (.tmp 102) (.tmp 100)⟩] true)
    .skip))))))))
def ref26_Next.a : AFun := ⟨2, [.cell 4 [.int .i64, .int .i64, .int .i64, .int .i64, .int .i64, .int .i64, .int .i64, .int .i64, .int .i64, .int .i64, .int .i64] true, .tmp 5, .tmp 6],
  (.seq (.region [⟨none, (some 2), .boxL (.tmp 0)⟩,
    ⟨none, (some 3), .boxL (.tmp 1)⟩,
    ⟨none, (some 4), .allocL [(.at (.int .i64 0)), (.at (.int .i64 0)), (.at (.int .i64 0)), (.at (.int .i64 0)), (.at (.int .i64 0)), (.at (.int .i64 0)), (.at (.int .i64 0)), (.at (.int .i64 0)), (.at (.int .i64 0)), (.at (.int .i64 0)), (.at (.int .i64 0))]⟩,
    ⟨none, (some 5), .mov (.const (.int .i64 0))⟩,
    ⟨none, (some 6), .mov (.const (.bool false))⟩] false)
  (.seq (.seq (.region [⟨none, (some 11), .load [.int .i64, .int .i64, .int .i64, .int .i64, .int .i64, .int .i64, .int .i64, .int .i64, .int .i64, .int .i64, .int .i64] true (some 2) (.tmp 2)⟩,
    ⟨none, (some 12), .call 13 [(.tmp 11)] [.bool]⟩,
    ⟨none, (some 13), .un .not (.tmp 12)⟩] false)
  (.cond (.tmp 13) (.seq (.region [⟨none, (some 14), .load [.int .i64, .int .i64, .int .i64, .int .i64, .int .i64, .int .i64, .int .i64, .int .i64, .int .i64, .int .i64, .int .i64] true (some 2) (.tmp 2)⟩,
     ⟨none, none, .store 11 (some 4) (.tmp 4) (.tmp 14)⟩,
     ⟨none, (some 5), .mov (.const (.int .i64 0))⟩,
     ⟨none, (some 6), .mov (.const (.bool false))⟩] false)
   .ret)
   .skip))
  (.seq (.region [⟨none, (some 7), .mov (.const (.bool false))⟩] false)
  (.seq (.seq (.region [⟨none, (some 8), .mov (.const (.int .i64 0))⟩] false)
  (.block 0 (.loop [2, 3, 4, 7, 8] [2, 3, 4, 7] [4, 5, 6] ref26_Next.L0)))
  (.seq (.seq (.region [⟨none, (some 28), .mov (.tmp 7)⟩,
    ⟨none, (some 29), .un .not (.tmp 28)⟩] false)
  (.cond (.tmp 29) (.seq (.seq (.region [⟨none, (some 9), .mov (.const (.int .i64 0))⟩] false)
   (.block 2 (.loop [2, 4, 9] [2, 4] [4, 5, 6] ref26_Next.L1)))
   (.seq (.region [⟨none, (some 37), .load [.int .i64, .int .i64, .int .i64, .int .i64, .int .i64, .int .i64, .int .i64, .int .i64, .int .i64, .int .i64, .int .i64] true (some 2) (.tmp 2)⟩,
     ⟨none, none, .store 11 (some 4) (.tmp 4) (.tmp 37)⟩,
     ⟨none, (some 5), .mov (.const (.int .i64 0))⟩,
     ⟨none, (some 6), .mov (.const (.bool false))⟩] false)
   .ret))
   .skip))
  (.block 4 (.loop [2, 3, 4] [] [4, 5, 6] ref26_Next.L2)))))))⟩
def ref26_Next.R0 (C : CallF) (N : Nat) := round (evalC C N ref26_Next.L0) [2, 3, 4, 7, 8] [2, 3, 4, 7] [4, 5, 6]
def ref26_Next.K0 (C : CallF) (N : Nat) : Ex → St → R := contC C N [.snd, .snd, .snd, .fst, .snd, .blk] ref26_Next.a.body (finish ref26_Next.a)
def ref26_Next.R1 (C : CallF) (N : Nat) := round (evalC C N ref26_Next.L1) [2, 4, 9] [2, 4] [4, 5, 6]
def ref26_Next.K1 (C : CallF) (N : Nat) : Ex → St → R := contC C N [.snd, .snd, .snd, .snd, .fst, .snd, .thn, .fst, .snd, .blk] ref26_Next.a.body (finish ref26_Next.a)
def ref26_Next.R2 (C : CallF) (N : Nat) := round (evalC C N ref26_Next.L2) [2, 3, 4] [] [4, 5, 6]
def ref26_Next.K2 (C : CallF) (N : Nat) : Ex → St → R := contC C N [.snd, .snd, .snd, .snd, .snd, .blk] ref26_Next.a.body (finish ref26_Next.a)


/-! 12: wharfage/drr.New -/
def drr_New.pol : Pol := { glob := [], mva := [], root := [(4, 4), (6, 6), (15, 6)], rs := [4, 5], live := [] }
def drr_New.a : AFun := ⟨2, [.cell 4 [.int .i64, .int .i64, .int .i64, .int .i64, .int .i64, .int .i64, .int .i64, .int .i64, .int .i64, .int .i64, .int .i64] true, .tmp 5],
  (.seq (.region [⟨none, (some 4), .allocL [(.at (.int .i64 0)), (.at (.int .i64 0)), (.at (.int .i64 0)), (.at (.int .i64 0)), (.at (.int .i64 0)), (.at (.int .i64 0)), (.at (.int .i64 0)), (.at (.int .i64 0)), (.at (.int .i64 0)), (.at (.int .i64 0)), (.at (.int .i64 0))]⟩,
    ⟨none, (some 5), .mov (.const (.int .i64 0))⟩] false)
  (.seq (.region [⟨none, (some 8), .mov (.tmp 0)⟩,
    ⟨none, (some 9), .mov (.tmp 1)⟩,
    ⟨none, (some 10), .build [(.at (.int .i64 0)), (.at (.int .i64 0)), (.at (.int .i64 0)), (.at (.int .i64 0)), (.at (.int .i64 0)), (.at (.int .i64 0)), (.at (.int .i64 0)), (.at (.int .i64 0)), (.at (.int .i64 0)), (.at (.int .i64 0)), (.at (.int .i64 0))] [(0, 1, (.tmp 8)), (1, 1, (.tmp 9))]⟩,
    ⟨none, (some 6), .allocL [(.at (.int .i64 0)), (.at (.int .i64 0)), (.at (.int .i64 0)), (.at (.int .i64 0)), (.at (.int .i64 0)), (.at (.int .i64 0)), (.at (.int .i64 0)), (.at (.int .i64 0)), (.at (.int .i64 0)), (.at (.int .i64 0)), (.at (.int .i64 0))]⟩,
    ⟨none, none, .store 11 (some 6) (.tmp 6) (.tmp 10)⟩] false)
  (.seq (.seq (.region [⟨none, (some 11), .mov (.tmp 0)⟩,
    ⟨none, (some 12), .bin .gtr (.tmp 11) (.const (.int .i64 0))⟩] false)
  (.cond (.tmp 12) (.region [⟨none, (some 13), .mov (.tmp 0)⟩,
     ⟨none, (some 14), .bin .sub (.tmp 13) (.const (.int .i64 1))⟩,
     ⟨none, (some 15), .addr 2 (.tmp 6)⟩,
     ⟨none, none, .store 1 (some 6) (.tmp 15) (.tmp 14)⟩] false)
   .skip))
  (.seq (.seq (.region [⟨none, (some 16), .load [.int .i64, .int .i64, .int .i64, .int .i64, .int .i64, .int .i64, .int .i64, .int .i64, .int .i64, .int .i64, .int .i64] true (some 6) (.tmp 6)⟩,
    ⟨none, (some 17), .call 15 [(.tmp 16)] [.int .i64]⟩,
    ⟨none, (some 7), .mov (.tmp 17)⟩] false)
  (.seq (.region [⟨none, (some 18), .mov (.tmp 7)⟩,
    ⟨none, (some 19), .bin .neq (.tmp 18) (.const (.int .i64 0))⟩] false)
  (.cond (.tmp 19) (.seq (.region [⟨none, (some 20), .build [(.at (.int .i64 0)), (.at (.int .i64 0)), (.at (.int .i64 0)), (.at (.int .i64 0)), (.at (.int .i64 0)), (.at (.int .i64 0)), (.at (.int .i64 0)), (.at (.int .i64 0)), (.at (.int .i64 0)), (.at (.int .i64 0)), (.at (.int .i64 0))] []⟩,
     ⟨none, (some 21), .mov (.tmp 7)⟩,
     ⟨none, none, .store 11 (some 4) (.tmp 4) (.tmp 20)⟩,
     ⟨none, (some 5), .mov (.tmp 21)⟩] false)
   .ret)
   .skip)))
  (.seq (.region [⟨none, (some 22), .load [.int .i64, .int .i64, .int .i64, .int .i64, .int .i64, .int .i64, .int .i64, .int .i64, .int .i64, .int .i64, .int .i64] true (some 6) (.tmp 6)⟩,
    ⟨none, none, .store 11 (some 4) (.tmp 4) (.tmp 22)⟩,
    ⟨none, (some 5), .mov (.const (.int .i64 0))⟩] false)
  .ret)))))⟩


/-! 13: wharfage/wharfageref26.Right -/
def ref26_Right.pol : Pol := { glob := [], mva := [], root := [(1, 1), (4, 1), (8, 1), (13, 1), (18, 1), (23, 1), (28, 1), (30, 1), (39, 1), (40, 1), (45, 1), (46, 1), (48, 1), (50, 1), (57, 1), (58, 1), (60, 1), (65, 1), (72, 1), (77, 1), (78, 1)], rs := [2], live := [([1, 3], [])] }
def ref26_Right.L0 : ACode :=
  (.seq (.seq (.region [⟨none, (some 34), .mov (.tmp 3)⟩,
    ⟨none, (some 35), .bin .lss (.tmp 34) (.const (.int .i64 8))⟩] false)
  (.cond (.tmp 35) .skip
   (.exit 0)))
  (.seq (.block 1 (.seq (.region [⟨none, (some 38), .mov (.tmp 3)⟩,
     ⟨none, (some 39), .addr 3 (.tmp 1)⟩,
     ⟨none, (some 40), .indexAddrA 8 1 (.tmp 39) (.tmp 38)⟩,
     ⟨none, (some 41), .load [.int .i64] false (some 1) (.tmp 40)⟩,
     ⟨none, (some 42), .bin .lss (.tmp 41) (.const (.int .i64 0))⟩,
     ⟨none, (some 43), .mov (.tmp 42)⟩,
     ⟨some (43, false), (some 44), .mov (.tmp 3)⟩,
     ⟨some (43, false), (some 45), .addr 3 (.tmp 1)⟩,
     ⟨some (43, false), (some 46), .indexAddrA 8 1 (.tmp 45) (.tmp 44)⟩,
     ⟨some (43, false), (some 47), .load [.int .i64] false (some 1) (.tmp 46)⟩,
     ⟨some (43, false), (some 48), .addr 1 (.tmp 1)⟩,
     ⟨some (43, false), (some 49), .load [.int .i64] false (some 1) (.tmp 48)⟩,
     ⟨some (43, false), (some 50), .addr 1 (.tmp 1)⟩,
     ⟨some (43, false), (some 51), .load [.int .i64] false (some 1) (.tmp 50)⟩,
     ⟨some (43, false), (some 52), .bin .add (.tmp 49) (.tmp 51)⟩,
     ⟨some (43, false), (some 53), .bin .gtr (.tmp 47) (.tmp 52)⟩,
     ⟨none, (some 54), .pick (.tmp 43) (.const (.bool true)) (.tmp 53)⟩,
     ⟨none, (some 55), .mov (.tmp 54)⟩,
     ⟨some (55, false), (some 56), .mov (.tmp 3)⟩,
     ⟨some (55, false), (some 57), .addr 3 (.tmp 1)⟩,
     ⟨some (55, false), (some 58), .indexAddrA 8 1 (.tmp 57) (.tmp 56)⟩,
     ⟨some (55, false), (some 59), .load [.int .i64] false (some 1) (.tmp 58)⟩,
     ⟨some (55, false), (some 60), .addr 1 (.tmp 1)⟩,
     ⟨some (55, false), (some 61), .load [.int .i64] false (some 1) (.tmp 60)⟩,
     ⟨some (55, false), (some 62), .bin .gtr (.tmp 59) (.tmp 61)⟩,
     ⟨some (55, false), (some 63), .mov (.tmp 62)⟩,
     ⟨some (63, true), (some 64), .mov (.tmp 3)⟩,
     ⟨some (63, true), (some 65), .addr 2 (.tmp 1)⟩,
     ⟨some (63, true), (some 66), .load [.int .i64] false (some 1) (.tmp 65)⟩,
     ⟨some (63, true), (some 67), .bin .neq (.tmp 64) (.tmp 66)⟩,
     ⟨some (55, false), (some 68), .pick (.tmp 63) (.tmp 67) (.const (.bool false))⟩,
     ⟨none, (some 69), .pick (.tmp 55) (.const (.bool true)) (.tmp 68)⟩,
     ⟨none, (some 70), .mov (.tmp 69)⟩,
     ⟨some (70, false), (some 71), .mov (.tmp 3)⟩,
     ⟨some (70, false), (some 72), .addr 0 (.tmp 1)⟩,
     ⟨some (70, false), (some 73), .load [.int .i64] false (some 1) (.tmp 72)⟩,
     ⟨some (70, false), (some 74), .bin .geq (.tmp 71) (.tmp 73)⟩,
     ⟨some (70, false), (some 75), .mov (.tmp 74)⟩,
     ⟨some (75, true), (some 76), .mov (.tmp 3)⟩,
     ⟨some (75, true), (some 77), .addr 3 (.tmp 1)⟩,
     ⟨some (75, true), (some 78), .indexAddrA 8 1 (.tmp 77) (.tmp 76)⟩,
     ⟨some (75, true), (some 79), .load [.int .i64] false (some 1) (.tmp 78)⟩,
     ⟨some (75, true), (some 80), .bin .neq (.tmp 79) (.const (.int .i64 0))⟩,
     ⟨some (70, false), (some 81), .pick (.tmp 75) (.tmp 80) (.const (.bool false))⟩,
     ⟨none, (some 82), .pick (.tmp 70) (.const (.bool true)) (.tmp 81)⟩] true)
   (.cond (.tmp 82) (.seq (.region [⟨none, (some 2), .mov (.const (.bool false))⟩] false)
    .ret)
    .skip)))
  (.region [⟨none, (some 36), .mov (.tmp 3)⟩,
    ⟨none, (some 37), .bin .add (.tmp 36) (.const (.int .i64 1))⟩,
    ⟨none, (some 3), .mov (.tmp 37)⟩] false)))
def ref26_Right.a : AFun := ⟨1, [.tmp 2],
  (.seq (.region [⟨none, (some 1), .boxL (.tmp 0)⟩,
    ⟨none, (some 2), .mov (.const (.bool false))⟩] false)
  (.seq (.seq (.region [⟨none, (some 4), .addr 0 (.tmp 1)⟩,
    ⟨none, (some 5), .load [.int .i64] false (some 1) (.tmp 4)⟩,
    ⟨none, (some 6), .bin .lss (.tmp 5) (.const (.int .i64 1))⟩,
    ⟨none, (some 7), .mov (.tmp 6)⟩,
    ⟨some (7, false), (some 8), .addr 0 (.tmp 1)⟩,
    ⟨some (7, false), (some 9), .load [.int .i64] false (some 1) (.tmp 8)⟩,
    ⟨some (7, false), (some 10), .bin .gtr (.tmp 9) (.const (.int .i64 8))⟩,
    ⟨none, (some 11), .pick (.tmp 7) (.const (.bool true)) (.tmp 10)⟩,
    ⟨none, (some 12), .mov (.tmp 11)⟩,
    ⟨some (12, false), (some 13), .addr 1 (.tmp 1)⟩,
    ⟨some (12, false), (some 14), .load [.int .i64] false (some 1) (.tmp 13)⟩,
    ⟨some (12, false), (some 15), .bin .lss (.tmp 14) (.const (.int .i64 1))⟩,
    ⟨none, (some 16), .pick (.tmp 12) (.const (.bool true)) (.tmp 15)⟩,
    ⟨none, (some 17), .mov (.tmp 16)⟩,
    ⟨some (17, false), (some 18), .addr 1 (.tmp 1)⟩,
    ⟨some (17, false), (some 19), .load [.int .i64] false (some 1) (.tmp 18)⟩,
    ⟨some (17, false), (some 20), .bin .gtr (.tmp 19) (.const (.int .i64 65536))⟩,
    ⟨none, (some 21), .pick (.tmp 17) (.const (.bool true)) (.tmp 20)⟩,
    ⟨none, (some 22), .mov (.tmp 21)⟩,
    ⟨some (22, false), (some 23), .addr 2 (.tmp 1)⟩,
    ⟨some (22, false), (some 24), .load [.int .i64] false (some 1) (.tmp 23)⟩,
    ⟨some (22, false), (some 25), .bin .lss (.tmp 24) (.const (.int .i64 0))⟩,
    ⟨none, (some 26), .pick (.tmp 22) (.const (.bool true)) (.tmp 25)⟩,
    ⟨none, (some 27), .mov (.tmp 26)⟩,
    ⟨some (27, false), (some 28), .addr 2 (.tmp 1)⟩,
    ⟨some (27, false), (some 29), .load [.int .i64] false (some 1) (.tmp 28)⟩,
    ⟨some (27, false), (some 30), .addr 0 (.tmp 1)⟩,
    ⟨some (27, false), (some 31), .load [.int .i64] false (some 1) (.tmp 30)⟩,
    ⟨some (27, false), (some 32), .bin .geq (.tmp 29) (.tmp 31)⟩,
    ⟨none, (some 33), .pick (.tmp 27) (.const (.bool true)) (.tmp 32)⟩] false)
  (.cond (.tmp 33) (.seq (.region [⟨none, (some 2), .mov (.const (.bool false))⟩] false)
   .ret)
   .skip))
  (.seq (.seq (.region [⟨none, (some 3), .mov (.const (.int .i64 0))⟩] false)
  (.block 0 (.loop [1, 3] [] [2] ref26_Right.L0)))
  (.seq (.region [⟨none, (some 2), .mov (.const (.bool true))⟩] false)
  .ret))))⟩
def ref26_Right.R0 (C : CallF) (N : Nat) := round (evalC C N ref26_Right.L0) [1, 3] [] [2]
def ref26_Right.K0 (C : CallF) (N : Nat) : Ex → St → R := contC C N [.snd, .snd, .fst, .snd, .blk] ref26_Right.a.body (finish ref26_Right.a)


/-! 14: wharfage/wharfagelaw26.lives -/
def law26_lives.pol : Pol := { glob := [], mva := [], root := [(1, 1), (3, 3), (5, 5), (8, 8), (11, 11), (50, 1), (62, 5), (75, 8)], rs := [0], live := [] }
def law26_lives.a : AFun := ⟨0, [.tmp 0],
  (.seq (.region [⟨none, (some 0), .mov (.const (.bool false))⟩] false)
  (.seq (.region [⟨none, (some 15), .call 12 [(.const (.int .i64 2)), (.const (.int .i64 5))] [.ag, .int .i64]⟩,
    ⟨none, (some 14), .mov (.tmp 15)⟩,
    ⟨none, (some 16), .extract (.tmp 14) 0⟩,
    ⟨none, (some 17), .extract (.tmp 14) 1⟩,
    ⟨none, (some 1), .allocL [(.at (.int .i64 0)), (.at (.int .i64 0)), (.at (.int .i64 0)), (.at (.int .i64 0)), (.at (.int .i64 0)), (.at (.int .i64 0)), (.at (.int .i64 0)), (.at (.int .i64 0)), (.at (.int .i64 0)), (.at (.int .i64 0)), (.at (.int .i64 0))]⟩,
    ⟨none, none, .store 11 (some 1) (.tmp 1) (.tmp 16)⟩,
    ⟨none, (some 2), .mov (.tmp 17)⟩] false)
  (.seq (.region [⟨none, (some 19), .call 12 [(.const (.int .i64 9)), (.const (.int .i64 5))] [.ag, .int .i64]⟩,
    ⟨none, (some 18), .mov (.tmp 19)⟩,
    ⟨none, (some 20), .extract (.tmp 18) 0⟩,
    ⟨none, (some 21), .extract (.tmp 18) 1⟩,
    ⟨none, (some 3), .allocL [(.at (.int .i64 0)), (.at (.int .i64 0)), (.at (.int .i64 0)), (.at (.int .i64 0)), (.at (.int .i64 0)), (.at (.int .i64 0)), (.at (.int .i64 0)), (.at (.int .i64 0)), (.at (.int .i64 0)), (.at (.int .i64 0)), (.at (.int .i64 0))]⟩,
    ⟨none, none, .store 11 (some 3) (.tmp 3) (.tmp 20)⟩,
    ⟨none, (some 4), .mov (.tmp 21)⟩] false)
  (.seq (.region [⟨none, (some 23), .load [.int .i64, .int .i64, .int .i64, .int .i64, .int .i64, .int .i64, .int .i64, .int .i64, .int .i64, .int .i64, .int .i64] true (some 1) (.tmp 1)⟩,
    ⟨none, (some 24), .build [(.at (.int .i64 0)), (.at (.int .i64 0)), (.at (.int .i64 0)), (.at (.int .i64 0)), (.at (.int .i64 0)), (.at (.int .i64 0)), (.at (.int .i64 0)), (.at (.int .i64 0))] [(0, 1, (.const (.int .i64 3))), (1, 1, (.const (.int .i64 4)))]⟩,
    ⟨none, (some 25), .call 9 [(.tmp 23), (.tmp 24)] [.ag, .int .i64, .bool]⟩,
    ⟨none, (some 22), .mov (.tmp 25)⟩,
    ⟨none, (some 26), .extract (.tmp 22) 0⟩,
    ⟨none, (some 27), .extract (.tmp 22) 1⟩,
    ⟨none, (some 28), .extract (.tmp 22) 2⟩,
    ⟨none, (some 5), .allocL [(.at (.int .i64 0)), (.at (.int .i64 0)), (.at (.int .i64 0)), (.at (.int .i64 0)), (.at (.int .i64 0)), (.at (.int .i64 0)), (.at (.int .i64 0)), (.at (.int .i64 0)), (.at (.int .i64 0)), (.at (.int .i64 0)), (.at (.int .i64 0))]⟩,
    ⟨none, none, .store 11 (some 5) (.tmp 5) (.tmp 26)⟩,
    ⟨none, (some 6), .mov (.tmp 27)⟩,
    ⟨none, (some 7), .mov (.tmp 28)⟩] false)
  (.seq (.region [⟨none, (some 30), .load [.int .i64, .int .i64, .int .i64, .int .i64, .int .i64, .int .i64, .int .i64, .int .i64, .int .i64, .int .i64, .int .i64] true (some 5) (.tmp 5)⟩,
    ⟨none, (some 31), .build [(.at (.int .i64 0)), (.at (.int .i64 0)), (.at (.int .i64 0)), (.at (.int .i64 0)), (.at (.int .i64 0)), (.at (.int .i64 0)), (.at (.int .i64 0)), (.at (.int .i64 0))] [(0, 1, (.const (.int .i64 3))), (1, 1, (.const (.int .i64 4)))]⟩,
    ⟨none, (some 32), .call 9 [(.tmp 30), (.tmp 31)] [.ag, .int .i64, .bool]⟩,
    ⟨none, (some 29), .mov (.tmp 32)⟩,
    ⟨none, (some 33), .extract (.tmp 29) 0⟩,
    ⟨none, (some 34), .extract (.tmp 29) 1⟩,
    ⟨none, (some 35), .extract (.tmp 29) 2⟩,
    ⟨none, (some 8), .allocL [(.at (.int .i64 0)), (.at (.int .i64 0)), (.at (.int .i64 0)), (.at (.int .i64 0)), (.at (.int .i64 0)), (.at (.int .i64 0)), (.at (.int .i64 0)), (.at (.int .i64 0)), (.at (.int .i64 0)), (.at (.int .i64 0)), (.at (.int .i64 0))]⟩,
    ⟨none, none, .store 11 (some 8) (.tmp 8) (.tmp 33)⟩,
    ⟨none, (some 9), .mov (.tmp 34)⟩,
    ⟨none, (some 10), .mov (.tmp 35)⟩] false)
  (.seq (.region [⟨none, (some 37), .load [.int .i64, .int .i64, .int .i64, .int .i64, .int .i64, .int .i64, .int .i64, .int .i64, .int .i64, .int .i64, .int .i64] true (some 8) (.tmp 8)⟩,
    ⟨none, (some 38), .build [(.at (.int .i64 0)), (.at (.int .i64 0)), (.at (.int .i64 0)), (.at (.int .i64 0)), (.at (.int .i64 0)), (.at (.int .i64 0)), (.at (.int .i64 0)), (.at (.int .i64 0))] []⟩,
    ⟨none, (some 39), .call 9 [(.tmp 37), (.tmp 38)] [.ag, .int .i64, .bool]⟩,
    ⟨none, (some 36), .mov (.tmp 39)⟩,
    ⟨none, (some 40), .extract (.tmp 36) 0⟩,
    ⟨none, (some 41), .extract (.tmp 36) 1⟩,
    ⟨none, (some 42), .extract (.tmp 36) 2⟩,
    ⟨none, (some 11), .allocL [(.at (.int .i64 0)), (.at (.int .i64 0)), (.at (.int .i64 0)), (.at (.int .i64 0)), (.at (.int .i64 0)), (.at (.int .i64 0)), (.at (.int .i64 0)), (.at (.int .i64 0)), (.at (.int .i64 0)), (.at (.int .i64 0)), (.at (.int .i64 0))]⟩,
    ⟨none, none, .store 11 (some 11) (.tmp 11) (.tmp 40)⟩,
    ⟨none, (some 12), .mov (.tmp 41)⟩,
    ⟨none, (some 13), .mov (.tmp 42)⟩] false)
  (.seq (.region [⟨none, (some 43), .mov (.tmp 2)⟩,
    ⟨none, (some 44), .bin .eql (.tmp 43) (.const (.int .i64 0))⟩,
    ⟨none, (some 45), .mov (.tmp 44)⟩,
    ⟨some (45, true), (some 46), .mov (.tmp 4)⟩,
    ⟨some (45, true), (some 47), .bin .eql (.tmp 46) (.const (.int .i64 18))⟩,
    ⟨none, (some 48), .pick (.tmp 45) (.tmp 47) (.const (.bool false))⟩,
    ⟨none, (some 49), .mov (.tmp 48)⟩,
    ⟨some (49, true), (some 50), .addr 2 (.tmp 1)⟩,
    ⟨some (49, true), (some 51), .load [.int .i64] false (some 1) (.tmp 50)⟩,
    ⟨some (49, true), (some 52), .bin .eql (.tmp 51) (.const (.int .i64 1))⟩,
    ⟨none, (some 53), .pick (.tmp 49) (.tmp 52) (.const (.bool false))⟩,
    ⟨none, (some 54), .mov (.tmp 53)⟩,
    ⟨some (54, true), (some 55), .mov (.tmp 6)⟩,
    ⟨some (54, true), (some 56), .bin .eql (.tmp 55) (.const (.int .i64 0))⟩,
    ⟨none, (some 57), .pick (.tmp 54) (.tmp 56) (.const (.bool false))⟩,
    ⟨none, (some 58), .mov (.tmp 57)⟩,
    ⟨some (58, true), (some 59), .mov (.tmp 7)⟩,
    ⟨none, (some 60), .pick (.tmp 58) (.tmp 59) (.const (.bool false))⟩,
    ⟨none, (some 61), .mov (.tmp 60)⟩,
    ⟨some (61, true), (some 62), .addr 3 (.tmp 5)⟩,
    ⟨some (61, true), (some 63), .load [.int .i64, .int .i64, .int .i64, .int .i64, .int .i64, .int .i64, .int .i64, .int .i64] true (some 5) (.tmp 62)⟩,
    ⟨some (61, true), (some 64), .build [(.at (.int .i64 0)), (.at (.int .i64 0)), (.at (.int .i64 0)), (.at (.int .i64 0)), (.at (.int .i64 0)), (.at (.int .i64 0)), (.at (.int .i64 0)), (.at (.int .i64 0))] [(0, 1, (.const (.int .i64 2)))]⟩,
    ⟨some (61, true), (some 65), .eqA false [.int .i64, .int .i64, .int .i64, .int .i64, .int .i64, .int .i64, .int .i64, .int .i64] 22 (.tmp 63) (.tmp 64)⟩,
    ⟨none, (some 66), .pick (.tmp 61) (.tmp 65) (.const (.bool false))⟩,
    ⟨none, (some 67), .mov (.tmp 66)⟩,
    ⟨some (67, true), (some 68), .mov (.tmp 9)⟩,
    ⟨some (67, true), (some 69), .bin .eql (.tmp 68) (.const (.int .i64 1))⟩,
    ⟨none, (some 70), .pick (.tmp 67) (.tmp 69) (.const (.bool false))⟩,
    ⟨none, (some 71), .mov (.tmp 70)⟩,
    ⟨some (71, true), (some 72), .mov (.tmp 10)⟩,
    ⟨none, (some 73), .pick (.tmp 71) (.tmp 72) (.const (.bool false))⟩,
    ⟨none, (some 74), .mov (.tmp 73)⟩,
    ⟨some (74, true), (some 75), .addr 3 (.tmp 8)⟩,
    ⟨some (74, true), (some 76), .load [.int .i64, .int .i64, .int .i64, .int .i64, .int .i64, .int .i64, .int .i64, .int .i64] true (some 8) (.tmp 75)⟩,
    ⟨some (74, true), (some 77), .build [(.at (.int .i64 0)), (.at (.int .i64 0)), (.at (.int .i64 0)), (.at (.int .i64 0)), (.at (.int .i64 0)), (.at (.int .i64 0)), (.at (.int .i64 0)), (.at (.int .i64 0))] [(0, 1, (.const (.int .i64 2))), (1, 1, (.const (.int .i64 1)))]⟩,
    ⟨some (74, true), (some 78), .eqA false [.int .i64, .int .i64, .int .i64, .int .i64, .int .i64, .int .i64, .int .i64, .int .i64] 22 (.tmp 76) (.tmp 77)⟩,
    ⟨none, (some 79), .pick (.tmp 74) (.tmp 78) (.const (.bool false))⟩,
    ⟨none, (some 80), .mov (.tmp 79)⟩,
    ⟨some (80, true), (some 81), .mov (.tmp 13)⟩,
    ⟨some (80, true), (some 82), .un .not (.tmp 81)⟩,
    ⟨none, (some 83), .pick (.tmp 80) (.tmp 82) (.const (.bool false))⟩,
    ⟨none, (some 84), .mov (.tmp 83)⟩,
    ⟨some (84, true), (some 85), .load [.int .i64, .int .i64, .int .i64, .int .i64, .int .i64, .int .i64, .int .i64, .int .i64, .int .i64, .int .i64, .int .i64] true (some 1) (.tmp 1)⟩,
    ⟨some (84, true), (some 86), .call 15 [(.tmp 85)] [.int .i64]⟩,
    ⟨some (84, true), (some 87), .bin .eql (.tmp 86) (.const (.int .i64 0))⟩,
    ⟨none, (some 88), .pick (.tmp 84) (.tmp 87) (.const (.bool false))⟩,
    ⟨none, (some 0), .mov (.tmp 88)⟩] false)
  .ret)))))))⟩


/-! 15: wharfage/drr.Check -/
def drr_Check.pol : Pol := { glob := [], mva := [], root := [(1, 1), (5, 1), (9, 1), (14, 1), (19, 1), (24, 1), (29, 1), (31, 1), (35, 1)], rs := [2], live := [([1, 36, 37], [])] }
def drr_Check.L0 : ACode :=
  (.seq (.region [⟨none, (some 38), .bin .lss (.tmp 37) (.const (.int .i64 8))⟩] false)
  (.seq (.cond (.tmp 38) .skip
   (.exit 0))
  (.seq (.block 1 (.seq (.region [⟨none, (some 39), .mov (.tmp 37)⟩,
     ⟨none, (some 40), .indexA 8 1 [.int .i64] false (.tmp 36) (.tmp 37)⟩,
     ⟨none, (some 3), .mov (.tmp 39)⟩,
     ⟨none, (some 4), .mov (.tmp 40)⟩] false)
   (.seq (.region [⟨none, (some 41), .mov (.tmp 4)⟩,
     ⟨none, (some 42), .bin .lss (.tmp 41) (.const (.int .i64 0))⟩,
     ⟨none, (some 43), .mov (.tmp 42)⟩,
     ⟨some (43, false), (some 44), .mov (.tmp 4)⟩,
     ⟨some (43, false), (some 45), .load [.int .i64, .int .i64, .int .i64, .int .i64, .int .i64, .int .i64, .int .i64, .int .i64, .int .i64, .int .i64, .int .i64] true (some 1) (.tmp 1)⟩,
     ⟨some (43, false), (some 46), .mov (.tmp 3)⟩,
     ⟨some (43, false), (some 47), .call 36 [(.tmp 45), (.tmp 46)] [.int .i64]⟩,
     ⟨some (43, false), (some 48), .bin .gtr (.tmp 44) (.tmp 47)⟩,
     ⟨none, (some 49), .pick (.tmp 43) (.const (.bool true)) (.tmp 48)⟩] false)
   (.cond (.tmp 49) (.seq (.region [⟨none, (some 2), .mov (.const (.int .i64 18))⟩] false)
    .ret)
    .skip))))
  (.region [⟨none, (some 50), .bin .add (.tmp 37) (.const (.int .i64 1))⟩,
    ⟨none, (some 37), .mov (.tmp 50)⟩] false))))
def drr_Check.a : AFun := ⟨1, [.tmp 2],
  (.seq (.region [⟨none, (some 1), .boxL (.tmp 0)⟩,
    ⟨none, (some 2), .mov (.const (.int .i64 0))⟩] false)
  (.seq (.seq (.region [⟨none, (some 5), .addr 0 (.tmp 1)⟩,
    ⟨none, (some 6), .load [.int .i64] false (some 1) (.tmp 5)⟩,
    ⟨none, (some 7), .bin .lss (.tmp 6) (.const (.int .i64 1))⟩,
    ⟨none, (some 8), .mov (.tmp 7)⟩,
    ⟨some (8, false), (some 9), .addr 0 (.tmp 1)⟩,
    ⟨some (8, false), (some 10), .load [.int .i64] false (some 1) (.tmp 9)⟩,
    ⟨some (8, false), (some 11), .bin .gtr (.tmp 10) (.const (.int .i64 8))⟩,
    ⟨none, (some 12), .pick (.tmp 8) (.const (.bool true)) (.tmp 11)⟩,
    ⟨none, (some 13), .mov (.tmp 12)⟩,
    ⟨some (13, false), (some 14), .addr 1 (.tmp 1)⟩,
    ⟨some (13, false), (some 15), .load [.int .i64] false (some 1) (.tmp 14)⟩,
    ⟨some (13, false), (some 16), .bin .lss (.tmp 15) (.const (.int .i64 1))⟩,
    ⟨none, (some 17), .pick (.tmp 13) (.const (.bool true)) (.tmp 16)⟩,
    ⟨none, (some 18), .mov (.tmp 17)⟩,
    ⟨some (18, false), (some 19), .addr 1 (.tmp 1)⟩,
    ⟨some (18, false), (some 20), .load [.int .i64] false (some 1) (.tmp 19)⟩,
    ⟨some (18, false), (some 21), .bin .gtr (.tmp 20) (.const (.int .i64 65536))⟩,
    ⟨none, (some 22), .pick (.tmp 18) (.const (.bool true)) (.tmp 21)⟩,
    ⟨none, (some 23), .mov (.tmp 22)⟩,
    ⟨some (23, false), (some 24), .addr 2 (.tmp 1)⟩,
    ⟨some (23, false), (some 25), .load [.int .i64] false (some 1) (.tmp 24)⟩,
    ⟨some (23, false), (some 26), .bin .lss (.tmp 25) (.const (.int .i64 0))⟩,
    ⟨none, (some 27), .pick (.tmp 23) (.const (.bool true)) (.tmp 26)⟩,
    ⟨none, (some 28), .mov (.tmp 27)⟩,
    ⟨some (28, false), (some 29), .addr 2 (.tmp 1)⟩,
    ⟨some (28, false), (some 30), .load [.int .i64] false (some 1) (.tmp 29)⟩,
    ⟨some (28, false), (some 31), .addr 0 (.tmp 1)⟩,
    ⟨some (28, false), (some 32), .load [.int .i64] false (some 1) (.tmp 31)⟩,
    ⟨some (28, false), (some 33), .bin .geq (.tmp 30) (.tmp 32)⟩,
    ⟨none, (some 34), .pick (.tmp 28) (.const (.bool true)) (.tmp 33)⟩] false)
  (.cond (.tmp 34) (.seq (.region [⟨none, (some 2), .mov (.const (.int .i64 18))⟩] false)
   .ret)
   .skip))
  (.seq (.seq (.region [⟨none, (some 35), .addr 3 (.tmp 1)⟩,
    ⟨none, (some 36), .load [.int .i64, .int .i64, .int .i64, .int .i64, .int .i64, .int .i64, .int .i64, .int .i64] true (some 1) (.tmp 35)⟩,
    ⟨none, (some 37), .mov (.const (.int .i64 0))⟩] false)
  (.block 0 (.loop [1, 36, 37] [] [2] drr_Check.L0)))
  (.seq (.region [⟨none, (some 2), .mov (.const (.int .i64 0))⟩] false)
  .ret))))⟩
def drr_Check.R0 (C : CallF) (N : Nat) := round (evalC C N drr_Check.L0) [1, 36, 37] [] [2]
def drr_Check.K0 (C : CallF) (N : Nat) : Ex → St → R := contC C N [.snd, .snd, .fst, .snd, .blk] drr_Check.a.body (finish drr_Check.a)


/-! 32: (wharfage/drr.Turns).some -/
def drr_Turns_some.pol : Pol := { glob := [], mva := [], root := [(2, 2), (3, 3), (6, 2)], rs := [4], live := [([2, 3, 7, 8], [])] }
def drr_Turns_some.L0 : ACode :=
  (.seq (.region [⟨none, (some 9), .bin .lss (.tmp 8) (.tmp 7)⟩] false)
  (.seq (.cond (.tmp 9) .skip
   (.exit 0))
  (.seq (.block 1 (.seq (.region [⟨none, (some 10), .mov (.tmp 8)⟩,
     ⟨none, (some 5), .mov (.tmp 10)⟩] false)
   (.seq (.region [⟨none, (some 11), .load [.int .i64, .int .i64, .int .i64, .int .i64, .int .i64, .int .i64, .int .i64, .int .i64, .int .i64, .int .i64, .int .i64] true (some 2) (.tmp 2)⟩,
     ⟨none, (some 12), .load [.int .i64, .int .i64, .int .i64, .int .i64, .int .i64, .int .i64, .int .i64, .int .i64] true (some 3) (.tmp 3)⟩,
     ⟨none, (some 13), .mov (.tmp 5)⟩,
     ⟨none, (some 14), .call 33 [(.tmp 11), (.tmp 12), (.tmp 13)] [.int .i64]⟩,
     ⟨none, (some 15), .bin .gtr (.tmp 14) (.const (.int .i64 0))⟩] false)
   (.cond (.tmp 15) (.seq (.region [⟨none, (some 4), .mov (.const (.bool true))⟩] false)
    .ret)
    .skip))))
  (.region [⟨none, (some 16), .bin .add (.tmp 8) (.const (.int .i64 1))⟩,
    ⟨none, (some 8), .mov (.tmp 16)⟩] false))))
def drr_Turns_some.a : AFun := ⟨2, [.tmp 4],
  (.seq (.region [⟨none, (some 2), .boxL (.tmp 0)⟩,
    ⟨none, (some 3), .boxL (.tmp 1)⟩,
    ⟨none, (some 4), .mov (.const (.bool false))⟩] false)
  (.seq (.seq (.region [⟨none, (some 6), .addr 0 (.tmp 2)⟩,
    ⟨none, (some 7), .load [.int .i64] false (some 2) (.tmp 6)⟩,
    ⟨none, (some 8), .mov (.const (.int .i64 0))⟩] false)
  (.block 0 (.loop [2, 3, 7, 8] [] [4] drr_Turns_some.L0)))
  (.seq (.region [⟨none, (some 4), .mov (.const (.bool false))⟩] false)
  .ret)))⟩
def drr_Turns_some.R0 (C : CallF) (N : Nat) := round (evalC C N drr_Turns_some.L0) [2, 3, 7, 8] [] [4]
def drr_Turns_some.K0 (C : CallF) (N : Nat) : Ex → St → R := contC C N [.snd, .fst, .snd, .blk] drr_Turns_some.a.body (finish drr_Turns_some.a)


/-! 33: (wharfage/drr.Turns).cost -/
def drr_Turns_cost.pol : Pol := { glob := [], mva := [], root := [(3, 3), (4, 4), (8, 4), (11, 3)], rs := [6], live := [] }
def drr_Turns_cost.a : AFun := ⟨3, [.tmp 6],
  (.seq (.region [⟨none, (some 3), .boxL (.tmp 0)⟩,
    ⟨none, (some 4), .boxL (.tmp 1)⟩,
    ⟨none, (some 6), .mov (.const (.int .i64 0))⟩] false)
  (.seq (.region [⟨none, (some 7), .mov (.tmp 2)⟩,
    ⟨none, (some 8), .indexAddrA 8 1 (.tmp 4) (.tmp 7)⟩,
    ⟨none, (some 9), .load [.int .i64] false (some 4) (.tmp 8)⟩,
    ⟨none, (some 10), .minmax true [(.tmp 9), (.const (.int .i64 0))]⟩,
    ⟨none, (some 11), .addr 1 (.tmp 3)⟩,
    ⟨none, (some 12), .load [.int .i64] false (some 3) (.tmp 11)⟩,
    ⟨none, (some 13), .minmax false [(.tmp 10), (.tmp 12)]⟩,
    ⟨none, (some 6), .mov (.tmp 13)⟩] true)
  .ret))⟩


/-! 34: (wharfage/drr.Turns).move -/
def drr_Turns_move.pol : Pol := { glob := [], mva := [], root := [(2, 2), (3, 3), (4, 4), (5, 2), (8, 2), (11, 2), (14, 2), (18, 2), (20, 2), (21, 2), (23, 2), (26, 2), (27, 2)], rs := [4], live := [] }
def drr_Turns_move.a : AFun := ⟨2, [.cell 4 [.int .i64, .int .i64, .int .i64, .int .i64, .int .i64, .int .i64, .int .i64, .int .i64, .int .i64, .int .i64, .int .i64] true],
  (.seq (.region [⟨none, (some 2), .boxL (.tmp 0)⟩,
    ⟨none, (some 3), .boxL (.tmp 1)⟩,
    ⟨none, (some 4), .allocL [(.at (.int .i64 0)), (.at (.int .i64 0)), (.at (.int .i64 0)), (.at (.int .i64 0)), (.at (.int .i64 0)), (.at (.int .i64 0)), (.at (.int .i64 0)), (.at (.int .i64 0)), (.at (.int .i64 0)), (.at (.int .i64 0)), (.at (.int .i64 0))]⟩] false)
  (.seq (.region [⟨none, (some 5), .addr 2 (.tmp 2)⟩,
    ⟨none, (some 6), .load [.int .i64] false (some 2) (.tmp 5)⟩,
    ⟨none, (some 7), .bin .add (.tmp 6) (.const (.int .i64 1))⟩,
    ⟨none, (some 8), .addr 0 (.tmp 2)⟩,
    ⟨none, (some 9), .load [.int .i64] false (some 2) (.tmp 8)⟩,
    ⟨none, (some 10), .bin .rem (.tmp 7) (.tmp 9)⟩,
    ⟨none, (some 11), .addr 2 (.tmp 2)⟩,
    ⟨none, none, .store 1 (some 2) (.tmp 11) (.tmp 10)⟩] false)
  (.seq (.seq (.region [⟨none, (some 12), .load [.int .i64, .int .i64, .int .i64, .int .i64, .int .i64, .int .i64, .int .i64, .int .i64, .int .i64, .int .i64, .int .i64] true (some 2) (.tmp 2)⟩,
    ⟨none, (some 13), .load [.int .i64, .int .i64, .int .i64, .int .i64, .int .i64, .int .i64, .int .i64, .int .i64] true (some 3) (.tmp 3)⟩,
    ⟨none, (some 14), .addr 2 (.tmp 2)⟩,
    ⟨none, (some 15), .load [.int .i64] false (some 2) (.tmp 14)⟩,
    ⟨none, (some 16), .call 33 [(.tmp 12), (.tmp 13), (.tmp 15)] [.int .i64]⟩,
    ⟨none, (some 17), .bin .gtr (.tmp 16) (.const (.int .i64 0))⟩] false)
  (.cond (.tmp 17) (.region [⟨none, (some 18), .addr 2 (.tmp 2)⟩,
     ⟨none, (some 19), .load [.int .i64] false (some 2) (.tmp 18)⟩,
     ⟨none, (some 20), .addr 3 (.tmp 2)⟩,
     ⟨none, (some 21), .indexAddrA 8 1 (.tmp 20) (.tmp 19)⟩,
     ⟨none, (some 22), .load [.int .i64] false (some 2) (.tmp 21)⟩,
     ⟨none, (some 23), .addr 1 (.tmp 2)⟩,
     ⟨none, (some 24), .load [.int .i64] false (some 2) (.tmp 23)⟩,
     ⟨none, (some 25), .bin .add (.tmp 22) (.tmp 24)⟩,
     ⟨none, (some 26), .addr 3 (.tmp 2)⟩,
     ⟨none, (some 27), .indexAddrA 8 1 (.tmp 26) (.tmp 19)⟩,
     ⟨none, none, .store 1 (some 2) (.tmp 27) (.tmp 25)⟩] true)
   .skip))
  (.seq (.region [⟨none, (some 28), .load [.int .i64, .int .i64, .int .i64, .int .i64, .int .i64, .int .i64, .int .i64, .int .i64, .int .i64, .int .i64, .int .i64] true (some 2) (.tmp 2)⟩,
    ⟨none, none, .store 11 (some 4) (.tmp 4) (.tmp 28)⟩] false)
  .ret))))⟩


/-! 35: wharfage/wharfageref26.Cost -/
def ref26_Cost.pol : Pol := { glob := [], mva := [], root := [], rs := [4], live := [] }
def ref26_Cost.a : AFun := ⟨2, [.tmp 4],
  (.seq (.region [⟨none, (some 4), .mov (.const (.int .i64 0))⟩] false)
  (.seq (.seq (.region [⟨none, (some 5), .mov (.tmp 1)⟩,
    ⟨none, (some 6), .bin .lss (.tmp 5) (.const (.int .i64 0))⟩] false)
  (.cond (.tmp 6) (.seq (.region [⟨none, (some 4), .mov (.const (.int .i64 0))⟩] false)
   .ret)
   .skip))
  (.seq (.seq (.region [⟨none, (some 7), .mov (.tmp 1)⟩,
    ⟨none, (some 8), .mov (.tmp 0)⟩,
    ⟨none, (some 9), .bin .gtr (.tmp 7) (.tmp 8)⟩] false)
  (.cond (.tmp 9) (.seq (.region [⟨none, (some 10), .mov (.tmp 0)⟩,
     ⟨none, (some 4), .mov (.tmp 10)⟩] false)
   .ret)
   .skip))
  (.seq (.region [⟨none, (some 11), .mov (.tmp 1)⟩,
    ⟨none, (some 4), .mov (.tmp 11)⟩] false)
  .ret))))⟩


/-! 36: (wharfage/drr.Turns).most -/
def drr_Turns_most.pol : Pol := { glob := [], mva := [], root := [(2, 2), (7, 2), (12, 2), (15, 2), (18, 2)], rs := [4], live := [] }
def drr_Turns_most.a : AFun := ⟨2, [.tmp 4],
  (.seq (.region [⟨none, (some 2), .boxL (.tmp 0)⟩,
    ⟨none, (some 4), .mov (.const (.int .i64 0))⟩] false)
  (.seq (.block 0 (.seq (.region [⟨none, (some 6), .mov (.tmp 1)⟩,
     ⟨none, (some 7), .addr 0 (.tmp 2)⟩,
     ⟨none, (some 8), .load [.int .i64] false (some 2) (.tmp 7)⟩,
     ⟨none, (some 9), .bin .geq (.tmp 6) (.tmp 8)⟩,
     ⟨none, (some 5), .mov (.tmp 9)⟩] false)
   (.cond (.tmp 5) (.seq (.region [⟨none, (some 4), .mov (.const (.int .i64 0))⟩] false)
    .ret)
    (.seq (.region [⟨none, (some 11), .mov (.tmp 1)⟩,
      ⟨none, (some 12), .addr 2 (.tmp 2)⟩,
      ⟨none, (some 13), .load [.int .i64] false (some 2) (.tmp 12)⟩,
      ⟨none, (some 14), .bin .eql (.tmp 11) (.tmp 13)⟩,
      ⟨none, (some 10), .mov (.tmp 14)⟩] false)
    (.cond (.tmp 10) (.seq (.region [⟨none, (some 15), .addr 1 (.tmp 2)⟩,
       ⟨none, (some 16), .load [.int .i64] false (some 2) (.tmp 15)⟩,
       ⟨none, (some 17), .bin .mul (.const (.int .i64 2)) (.tmp 16)⟩,
       ⟨none, (some 4), .mov (.tmp 17)⟩] false)
     .ret)
     .skip)))))
  (.seq (.region [⟨none, (some 18), .addr 1 (.tmp 2)⟩,
    ⟨none, (some 19), .load [.int .i64] false (some 2) (.tmp 18)⟩,
    ⟨none, (some 4), .mov (.tmp 19)⟩] false)
  .ret)))⟩


end Go.Abs
