import Derived.Test.YtafmbianlodemaaComp
namespace Go.Abs
set_option linter.unusedVariables false
set_option linter.unusedSimpArgs false
set_option linter.unusedSectionVars false
set_option maxRecDepth 10000
/-! 6: wharfage/wharfagelaw10.BitmapTells -/
def law10_BitmapTells.pol : Pol := { glob := [], pure := [16, 17, 18, 19, 20, 21, 22], heap := [], gret := [], mva := [], root := [], rs := [10], live := [] }
def law10_BitmapTells.a : AFun := ⟨5, [.tmp 10],
  (.seq (.region [⟨none, (some 10), .mov (.const (.bool false))⟩] false)
  (.seq (.seq (.region [⟨none, (some 15), .mov (.tmp 0)⟩,
    ⟨none, (some 16), .lenS (.tmp 15)⟩,
    ⟨none, (some 17), .bin .gtr (.tmp 16) (.const (.int .i64 4096))⟩] false)
  (.cond (.tmp 17) (.seq (.region [⟨none, (some 18), .callP 16 [] [.bool]⟩,
     ⟨none, (some 10), .mov (.tmp 18)⟩] false)
   .ret)
   .skip))
  (.seq (.region [⟨none, (some 20), .mov (.tmp 0)⟩,
    ⟨none, (some 21), .mov (.tmp 1)⟩,
    ⟨none, (some 22), .mov (.tmp 2)⟩,
    ⟨none, (some 23), .callP 17 [(.tmp 20), (.tmp 21), (.tmp 22)] [.str, .int .i64]⟩,
    ⟨none, (some 19), .mov (.tmp 23)⟩,
    ⟨none, (some 24), .extract (.tmp 19) 0⟩,
    ⟨none, (some 25), .extract (.tmp 19) 1⟩,
    ⟨none, (some 11), .mov (.tmp 24)⟩,
    ⟨none, (some 12), .mov (.tmp 25)⟩] false)
  (.seq (.region [⟨none, (some 27), .mov (.tmp 0)⟩,
    ⟨none, (some 28), .mov (.tmp 1)⟩,
    ⟨none, (some 29), .mov (.tmp 2)⟩,
    ⟨none, (some 30), .callP 18 [(.tmp 27), (.tmp 28), (.tmp 29)] [.str, .int .i64]⟩,
    ⟨none, (some 26), .mov (.tmp 30)⟩,
    ⟨none, (some 31), .extract (.tmp 26) 0⟩,
    ⟨none, (some 32), .extract (.tmp 26) 1⟩,
    ⟨none, (some 13), .mov (.tmp 31)⟩,
    ⟨none, (some 14), .mov (.tmp 32)⟩] false)
  (.seq (.region [⟨none, (some 33), .callP 16 [] [.bool]⟩,
    ⟨none, (some 34), .mov (.tmp 33)⟩,
    ⟨some (34, true), (some 35), .mov (.tmp 0)⟩,
    ⟨some (34, true), (some 36), .mov (.tmp 1)⟩,
    ⟨some (34, true), (some 37), .callP 19 [(.tmp 35), (.tmp 36)] [.bool]⟩,
    ⟨some (34, true), (some 38), .mov (.tmp 0)⟩,
    ⟨some (34, true), (some 39), .mov (.tmp 1)⟩,
    ⟨some (34, true), (some 40), .callP 20 [(.tmp 38), (.tmp 39)] [.bool]⟩,
    ⟨some (34, true), (some 41), .eqA false [.bool] 4 (.tmp 37) (.tmp 40)⟩,
    ⟨none, (some 42), .pick (.tmp 34) (.tmp 41) (.const (.bool false))⟩,
    ⟨none, (some 43), .mov (.tmp 42)⟩,
    ⟨some (43, true), (some 44), .mov (.tmp 11)⟩,
    ⟨some (43, true), (some 45), .mov (.tmp 13)⟩,
    ⟨some (43, true), (some 46), .bin .eql (.tmp 44) (.tmp 45)⟩,
    ⟨none, (some 47), .pick (.tmp 43) (.tmp 46) (.const (.bool false))⟩,
    ⟨none, (some 48), .mov (.tmp 47)⟩,
    ⟨some (48, true), (some 49), .mov (.tmp 12)⟩,
    ⟨some (48, true), (some 50), .mov (.tmp 14)⟩,
    ⟨some (48, true), (some 51), .bin .eql (.tmp 49) (.tmp 50)⟩,
    ⟨none, (some 52), .pick (.tmp 48) (.tmp 51) (.const (.bool false))⟩,
    ⟨none, (some 53), .mov (.tmp 52)⟩,
    ⟨some (53, true), (some 54), .mov (.tmp 0)⟩,
    ⟨some (53, true), (some 55), .mov (.tmp 3)⟩,
    ⟨some (53, true), (some 56), .mov (.tmp 4)⟩,
    ⟨some (53, true), (some 57), .callP 21 [(.tmp 54), (.tmp 55), (.tmp 56)] [.int .i64]⟩,
    ⟨some (53, true), (some 58), .mov (.tmp 0)⟩,
    ⟨some (53, true), (some 59), .mov (.tmp 3)⟩,
    ⟨some (53, true), (some 60), .mov (.tmp 4)⟩,
    ⟨some (53, true), (some 61), .callP 22 [(.tmp 58), (.tmp 59), (.tmp 60)] [.int .i64]⟩,
    ⟨some (53, true), (some 62), .bin .eql (.tmp 57) (.tmp 61)⟩,
    ⟨none, (some 63), .pick (.tmp 53) (.tmp 62) (.const (.bool false))⟩,
    ⟨none, (some 10), .mov (.tmp 63)⟩] false)
  .ret)))))⟩


/-! 7: wharfage/wharfagelaw10.BitmapTakes -/
def law10_BitmapTakes.pol : Pol := { glob := [], pure := [16, 18, 23, 24, 25, 26, 27, 28, 29, 30, 31], heap := [], gret := [30], mva := [], root := [(132, 1000000), (136, 1000000)], rs := [10], live := [([23, 24, 126, 127], [])] }
def law10_BitmapTakes.L0 : ACode :=
  (.seq (.region [⟨none, (some 128), .bin .lss (.tmp 127) (.tmp 126)⟩] false)
  (.seq (.cond (.tmp 128) .skip
   (.exit 0))
  (.seq (.block 1 (.seq (.region [⟨none, (some 129), .mov (.tmp 127)⟩,
     ⟨none, (some 25), .mov (.tmp 129)⟩] false)
   (.seq (.region [⟨none, (some 130), .mov (.tmp 23)⟩,
     ⟨none, (some 131), .mov (.tmp 25)⟩,
     ⟨none, (some 132), .indexAddrS 2 (.tmp 130) (.tmp 131)⟩,
     ⟨none, (some 133), .load [.int .i64, .int .i64] true (some 1000000) (.tmp 132)⟩,
     ⟨none, (some 134), .mov (.tmp 24)⟩,
     ⟨none, (some 135), .mov (.tmp 25)⟩,
     ⟨none, (some 136), .indexAddrS 2 (.tmp 134) (.tmp 135)⟩,
     ⟨none, (some 137), .load [.int .i64, .int .i64] true (some 1000000) (.tmp 136)⟩,
     ⟨none, (some 138), .eqA true [.int .i64, .int .i64] 57 (.tmp 133) (.tmp 137)⟩] true)
   (.cond (.tmp 138) (.seq (.region [⟨none, (some 10), .mov (.const (.bool false))⟩] false)
    .ret)
    .skip))))
  (.region [⟨none, (some 139), .bin .add (.tmp 127) (.const (.int .i64 1))⟩,
    ⟨none, (some 127), .mov (.tmp 139)⟩] false))))
def law10_BitmapTakes.a : AFun := ⟨5, [.tmp 10],
  (.seq (.region [⟨none, (some 10), .mov (.const (.bool false))⟩] false)
  (.seq (.seq (.region [⟨none, (some 26), .mov (.tmp 0)⟩,
    ⟨none, (some 27), .lenS (.tmp 26)⟩,
    ⟨none, (some 28), .bin .gtr (.tmp 27) (.const (.int .i64 4096))⟩,
    ⟨none, (some 29), .mov (.tmp 28)⟩,
    ⟨some (29, false), (some 30), .mov (.tmp 4)⟩,
    ⟨some (29, false), (some 31), .lenL (.tmp 30)⟩,
    ⟨some (29, false), (some 32), .bin .gtr (.tmp 31) (.const (.int .i64 100))⟩,
    ⟨none, (some 33), .pick (.tmp 29) (.const (.bool true)) (.tmp 32)⟩] false)
  (.cond (.tmp 33) (.seq (.region [⟨none, (some 34), .callP 16 [] [.bool]⟩,
     ⟨none, (some 10), .mov (.tmp 34)⟩] false)
   .ret)
   .skip))
  (.seq (.region [⟨none, (some 36), .mov (.tmp 0)⟩,
    ⟨none, (some 37), .mov (.tmp 1)⟩,
    ⟨none, (some 38), .mov (.tmp 2)⟩,
    ⟨none, (some 39), .mov (.tmp 3)⟩,
    ⟨none, (some 40), .callP 23 [(.tmp 36), (.tmp 37), (.tmp 38), (.tmp 39)] [.sl 1, .int .i64]⟩,
    ⟨none, (some 35), .mov (.tmp 40)⟩,
    ⟨none, (some 41), .extract (.tmp 35) 0⟩,
    ⟨none, (some 42), .extract (.tmp 35) 1⟩,
    ⟨none, (some 11), .mov (.tmp 41)⟩,
    ⟨none, (some 12), .mov (.tmp 42)⟩] false)
  (.seq (.region [⟨none, (some 44), .mov (.tmp 0)⟩,
    ⟨none, (some 45), .mov (.tmp 1)⟩,
    ⟨none, (some 46), .mov (.tmp 2)⟩,
    ⟨none, (some 47), .mov (.tmp 3)⟩,
    ⟨none, (some 48), .callP 24 [(.tmp 44), (.tmp 45), (.tmp 46), (.tmp 47)] [.sl 1, .int .i64]⟩,
    ⟨none, (some 43), .mov (.tmp 48)⟩,
    ⟨none, (some 49), .extract (.tmp 43) 0⟩,
    ⟨none, (some 50), .extract (.tmp 43) 1⟩,
    ⟨none, (some 13), .mov (.tmp 49)⟩,
    ⟨none, (some 14), .mov (.tmp 50)⟩] false)
  (.seq (.region [⟨none, (some 52), .mov (.tmp 0)⟩,
    ⟨none, (some 53), .mov (.tmp 1)⟩,
    ⟨none, (some 54), .mov (.tmp 2)⟩,
    ⟨none, (some 55), .mov (.tmp 3)⟩,
    ⟨none, (some 56), .callP 25 [(.tmp 52), (.tmp 53), (.tmp 54), (.tmp 55)] [.sl 1, .str, .int .i64]⟩,
    ⟨none, (some 51), .mov (.tmp 56)⟩,
    ⟨none, (some 57), .extract (.tmp 51) 0⟩,
    ⟨none, (some 58), .extract (.tmp 51) 1⟩,
    ⟨none, (some 59), .extract (.tmp 51) 2⟩,
    ⟨none, (some 15), .mov (.tmp 57)⟩,
    ⟨none, (some 16), .mov (.tmp 58)⟩,
    ⟨none, (some 17), .mov (.tmp 59)⟩] false)
  (.seq (.region [⟨none, (some 61), .mov (.tmp 0)⟩,
    ⟨none, (some 62), .mov (.tmp 4)⟩,
    ⟨none, (some 63), .callP 26 [(.tmp 61), (.tmp 62)] [.str, .int .i64]⟩,
    ⟨none, (some 60), .mov (.tmp 63)⟩,
    ⟨none, (some 64), .extract (.tmp 60) 0⟩,
    ⟨none, (some 65), .extract (.tmp 60) 1⟩,
    ⟨none, (some 18), .mov (.tmp 64)⟩,
    ⟨none, (some 19), .mov (.tmp 65)⟩] false)
  (.seq (.region [⟨none, (some 67), .mov (.tmp 0)⟩,
    ⟨none, (some 68), .mov (.tmp 4)⟩,
    ⟨none, (some 69), .callP 27 [(.tmp 67), (.tmp 68)] [.str, .int .i64]⟩,
    ⟨none, (some 66), .mov (.tmp 69)⟩,
    ⟨none, (some 70), .extract (.tmp 66) 0⟩,
    ⟨none, (some 71), .extract (.tmp 66) 1⟩,
    ⟨none, (some 20), .mov (.tmp 70)⟩,
    ⟨none, (some 21), .mov (.tmp 71)⟩] false)
  (.seq (.region [⟨none, (some 22), .mov (.const (.string ⟨#[]⟩))⟩] false)
  (.seq (.seq (.region [⟨none, (some 72), .mov (.tmp 14)⟩,
    ⟨none, (some 73), .bin .eql (.tmp 72) (.const (.int .i64 0))⟩] false)
  (.cond (.tmp 73) (.region [⟨none, (some 74), .mov (.tmp 0)⟩,
     ⟨none, (some 75), .mov (.tmp 13)⟩,
     ⟨none, (some 76), .callP 28 [(.tmp 74), (.tmp 75), (.const (.bool true))] [.str]⟩,
     ⟨none, (some 22), .mov (.tmp 76)⟩] false)
   .skip))
  (.seq (.seq (.region [⟨none, (some 77), .mov (.tmp 11)⟩,
    ⟨none, (some 78), .mov (.tmp 13)⟩,
    ⟨none, (some 79), .callP 29 [(.tmp 77), (.tmp 78)] [.bool]⟩,
    ⟨none, (some 80), .un .not (.tmp 79)⟩,
    ⟨none, (some 81), .mov (.tmp 80)⟩,
    ⟨some (81, false), (some 82), .mov (.tmp 12)⟩,
    ⟨some (81, false), (some 83), .mov (.tmp 14)⟩,
    ⟨some (81, false), (some 84), .bin .neq (.tmp 82) (.tmp 83)⟩,
    ⟨none, (some 85), .pick (.tmp 81) (.const (.bool true)) (.tmp 84)⟩,
    ⟨none, (some 86), .mov (.tmp 85)⟩,
    ⟨some (86, false), (some 87), .mov (.tmp 15)⟩,
    ⟨some (86, false), (some 88), .mov (.tmp 13)⟩,
    ⟨some (86, false), (some 89), .callP 29 [(.tmp 87), (.tmp 88)] [.bool]⟩,
    ⟨some (86, false), (some 90), .un .not (.tmp 89)⟩,
    ⟨none, (some 91), .pick (.tmp 86) (.const (.bool true)) (.tmp 90)⟩,
    ⟨none, (some 92), .mov (.tmp 91)⟩,
    ⟨some (92, false), (some 93), .mov (.tmp 16)⟩,
    ⟨some (92, false), (some 94), .mov (.tmp 22)⟩,
    ⟨some (92, false), (some 95), .bin .neq (.tmp 93) (.tmp 94)⟩,
    ⟨none, (some 96), .pick (.tmp 92) (.const (.bool true)) (.tmp 95)⟩,
    ⟨none, (some 97), .mov (.tmp 96)⟩,
    ⟨some (97, false), (some 98), .mov (.tmp 17)⟩,
    ⟨some (97, false), (some 99), .mov (.tmp 14)⟩,
    ⟨some (97, false), (some 100), .bin .neq (.tmp 98) (.tmp 99)⟩,
    ⟨none, (some 101), .pick (.tmp 97) (.const (.bool true)) (.tmp 100)⟩,
    ⟨none, (some 102), .mov (.tmp 101)⟩,
    ⟨some (102, false), (some 103), .mov (.tmp 18)⟩,
    ⟨some (102, false), (some 104), .mov (.tmp 20)⟩,
    ⟨some (102, false), (some 105), .bin .neq (.tmp 103) (.tmp 104)⟩,
    ⟨none, (some 106), .pick (.tmp 102) (.const (.bool true)) (.tmp 105)⟩,
    ⟨none, (some 107), .mov (.tmp 106)⟩,
    ⟨some (107, false), (some 108), .mov (.tmp 19)⟩,
    ⟨some (107, false), (some 109), .mov (.tmp 21)⟩,
    ⟨some (107, false), (some 110), .bin .neq (.tmp 108) (.tmp 109)⟩,
    ⟨none, (some 111), .pick (.tmp 107) (.const (.bool true)) (.tmp 110)⟩] false)
  (.cond (.tmp 111) (.seq (.region [⟨none, (some 10), .mov (.const (.bool false))⟩] false)
   .ret)
   .skip))
  (.seq (.region [⟨none, (some 112), .mov (.tmp 0)⟩,
    ⟨none, (some 113), .mov (.tmp 1)⟩,
    ⟨none, (some 114), .mov (.tmp 2)⟩,
    ⟨none, (some 115), .callD 30 [(.tmp 112), (.tmp 113), (.tmp 114)] [.sl 2]⟩,
    ⟨none, (some 116), .mov (.tmp 0)⟩,
    ⟨none, (some 117), .mov (.tmp 1)⟩,
    ⟨none, (some 118), .mov (.tmp 2)⟩,
    ⟨none, (some 119), .callP 31 [(.tmp 116), (.tmp 117), (.tmp 118)] [.sl 2]⟩,
    ⟨none, (some 23), .mov (.tmp 115)⟩,
    ⟨none, (some 24), .mov (.tmp 119)⟩] false)
  (.seq (.seq (.region [⟨none, (some 120), .mov (.tmp 23)⟩,
    ⟨none, (some 121), .lenL (.tmp 120)⟩,
    ⟨none, (some 122), .mov (.tmp 24)⟩,
    ⟨none, (some 123), .lenL (.tmp 122)⟩,
    ⟨none, (some 124), .bin .neq (.tmp 121) (.tmp 123)⟩] false)
  (.cond (.tmp 124) (.seq (.region [⟨none, (some 10), .mov (.const (.bool false))⟩] false)
   .ret)
   .skip))
  (.seq (.seq (.region [⟨none, (some 125), .mov (.tmp 24)⟩,
    ⟨none, (some 126), .lenL (.tmp 125)⟩,
    ⟨none, (some 127), .mov (.const (.int .i64 0))⟩] false)
  (.block 0 (.loop [23, 24, 126, 127] [] [10] law10_BitmapTakes.L0)))
  (.seq (.region [⟨none, (some 140), .callP 16 [] [.bool]⟩,
    ⟨none, (some 10), .mov (.tmp 140)⟩] false)
  .ret))))))))))))))⟩
def law10_BitmapTakes.R0 (C : CallF) (N : Nat) := round (evalC C N law10_BitmapTakes.L0) [23, 24, 126, 127] [] [10]
def law10_BitmapTakes.K0 (C : CallF) (N : Nat) : Ex → St → R := contC C N [.snd, .snd, .snd, .snd, .snd, .snd, .snd, .snd, .snd, .snd, .snd, .snd, .fst, .snd, .blk] law10_BitmapTakes.a.body (finish law10_BitmapTakes.a)


/-! 8: wharfage/wharfagelaw10.BitmapBack -/
def law10_BitmapBack.pol : Pol := { glob := [], pure := [16, 19, 21, 25, 26], heap := [], gret := [], mva := [], root := [(76, 1000000), (105, 1000000), (119, 1000000), (126, 1000000)], rs := [8], live := [([0, 1, 2, 3, 9, 10, 71, 72, 73], [0, 1, 3, 9, 10])] }
def law10_BitmapBack.L0 : ACode :=
  (.seq (.region [⟨none, (some 74), .bin .lss (.tmp 73) (.tmp 72)⟩] false)
  (.seq (.cond (.tmp 74) .skip
   (.exit 0))
  (.seq (.block 1 (.seq (.region [⟨none, (some 75), .mov (.tmp 73)⟩,
     ⟨none, (some 76), .indexAddrS 1 (.tmp 71) (.tmp 73)⟩,
     ⟨none, (some 77), .load [.int .i64] false (some 1000000) (.tmp 76)⟩,
     ⟨none, (some 12), .mov (.tmp 75)⟩,
     ⟨none, (some 13), .mov (.tmp 77)⟩] false)
   (.seq (.region [⟨none, (some 78), .mov (.tmp 13)⟩,
     ⟨none, (some 79), .mov (.tmp 1)⟩,
     ⟨none, (some 80), .bin .lss (.tmp 78) (.tmp 79)⟩,
     ⟨none, (some 81), .mov (.tmp 80)⟩,
     ⟨some (81, false), (some 82), .mov (.tmp 13)⟩,
     ⟨some (81, false), (some 83), .mov (.tmp 2)⟩,
     ⟨some (81, false), (some 84), .bin .geq (.tmp 82) (.tmp 83)⟩,
     ⟨none, (some 85), .pick (.tmp 81) (.const (.bool true)) (.tmp 84)⟩,
     ⟨none, (some 86), .mov (.tmp 85)⟩,
     ⟨some (86, false), (some 87), .mov (.tmp 0)⟩,
     ⟨some (86, false), (some 88), .mov (.tmp 13)⟩,
     ⟨some (86, false), (some 89), .callP 19 [(.tmp 87), (.tmp 88)] [.bool]⟩,
     ⟨none, (some 90), .pick (.tmp 86) (.const (.bool true)) (.tmp 89)⟩,
     ⟨none, (some 91), .mov (.tmp 90)⟩,
     ⟨some (91, false), (some 92), .mov (.tmp 10)⟩,
     ⟨some (91, false), (some 93), .mov (.tmp 13)⟩,
     ⟨some (91, false), (some 94), .callP 19 [(.tmp 92), (.tmp 93)] [.bool]⟩,
     ⟨some (91, false), (some 95), .un .not (.tmp 94)⟩,
     ⟨none, (some 96), .pick (.tmp 91) (.const (.bool true)) (.tmp 95)⟩,
     ⟨none, (some 97), .mov (.tmp 96)⟩,
     ⟨some (97, false), (some 98), .mov (.tmp 12)⟩,
     ⟨some (97, false), (some 99), .bin .gtr (.tmp 98) (.const (.int .i64 0))⟩,
     ⟨some (97, false), (some 100), .mov (.tmp 99)⟩,
     ⟨some (100, true), (some 101), .mov (.tmp 13)⟩,
     ⟨some (100, true), (some 102), .mov (.tmp 9)⟩,
     ⟨some (100, true), (some 103), .mov (.tmp 12)⟩,
     ⟨some (100, true), (some 104), .bin .sub (.tmp 103) (.const (.int .i64 1))⟩,
     ⟨some (100, true), (some 105), .indexAddrS 1 (.tmp 102) (.tmp 104)⟩,
     ⟨some (100, true), (some 106), .load [.int .i64] false (some 1000000) (.tmp 105)⟩,
     ⟨some (100, true), (some 107), .bin .leq (.tmp 101) (.tmp 106)⟩,
     ⟨some (97, false), (some 108), .pick (.tmp 100) (.tmp 107) (.const (.bool false))⟩,
     ⟨none, (some 109), .pick (.tmp 97) (.const (.bool true)) (.tmp 108)⟩] false)
   (.cond (.tmp 109) (.seq (.region [⟨none, (some 8), .mov (.const (.bool false))⟩] false)
    .ret)
    .skip))))
  (.region [⟨none, (some 110), .bin .add (.tmp 73) (.const (.int .i64 1))⟩,
    ⟨none, (some 73), .mov (.tmp 110)⟩] false))))
def law10_BitmapBack.a : AFun := ⟨4, [.tmp 8],
  (.seq (.region [⟨none, (some 8), .mov (.const (.bool false))⟩] false)
  (.seq (.seq (.region [⟨none, (some 18), .callP 16 [] [.bool]⟩,
    ⟨none, (some 19), .un .not (.tmp 18)⟩] false)
  (.cond (.tmp 19) (.seq (.region [⟨none, (some 8), .mov (.const (.bool false))⟩] false)
   .ret)
   .skip))
  (.seq (.region [⟨none, (some 21), .mov (.tmp 0)⟩,
    ⟨none, (some 22), .mov (.tmp 1)⟩,
    ⟨none, (some 23), .mov (.tmp 2)⟩,
    ⟨none, (some 24), .mov (.tmp 3)⟩,
    ⟨none, (some 25), .callP 25 [(.tmp 21), (.tmp 22), (.tmp 23), (.tmp 24)] [.sl 1, .str, .int .i64]⟩,
    ⟨none, (some 20), .mov (.tmp 25)⟩,
    ⟨none, (some 26), .extract (.tmp 20) 0⟩,
    ⟨none, (some 27), .extract (.tmp 20) 1⟩,
    ⟨none, (some 28), .extract (.tmp 20) 2⟩,
    ⟨none, (some 9), .mov (.tmp 26)⟩,
    ⟨none, (some 10), .mov (.tmp 27)⟩,
    ⟨none, (some 11), .mov (.tmp 28)⟩] false)
  (.seq (.seq (.region [⟨none, (some 29), .mov (.tmp 11)⟩,
    ⟨none, (some 30), .bin .neq (.tmp 29) (.const (.int .i64 0))⟩] false)
  (.cond (.tmp 30) (.seq (.region [⟨none, (some 31), .mov (.tmp 9)⟩,
     ⟨none, (some 32), .lenL (.tmp 31)⟩,
     ⟨none, (some 33), .bin .eql (.tmp 32) (.const (.int .i64 0))⟩,
     ⟨none, (some 34), .mov (.tmp 33)⟩,
     ⟨some (34, true), (some 35), .mov (.tmp 10)⟩,
     ⟨some (34, true), (some 36), .bin .eql (.tmp 35) (.const (.string ⟨#[]⟩))⟩,
     ⟨none, (some 37), .pick (.tmp 34) (.tmp 36) (.const (.bool false))⟩,
     ⟨none, (some 38), .mov (.tmp 37)⟩,
     ⟨some (38, true), (some 39), .mov (.tmp 11)⟩,
     ⟨some (38, true), (some 40), .bin .eql (.tmp 39) (.const (.int .i64 18))⟩,
     ⟨some (38, true), (some 41), .mov (.tmp 40)⟩,
     ⟨some (41, false), (some 42), .mov (.tmp 11)⟩,
     ⟨some (41, false), (some 43), .bin .eql (.tmp 42) (.const (.int .i64 13))⟩,
     ⟨some (41, false), (some 44), .mov (.tmp 43)⟩,
     ⟨some (44, true), (some 45), .mov (.tmp 2)⟩,
     ⟨some (44, true), (some 46), .mov (.tmp 1)⟩,
     ⟨some (44, true), (some 47), .bin .sub (.tmp 45) (.tmp 46)⟩,
     ⟨some (44, true), (some 48), .mov (.tmp 0)⟩,
     ⟨some (44, true), (some 49), .mov (.tmp 1)⟩,
     ⟨some (44, true), (some 50), .mov (.tmp 2)⟩,
     ⟨some (44, true), (some 51), .callP 21 [(.tmp 48), (.tmp 49), (.tmp 50)] [.int .i64]⟩,
     ⟨some (44, true), (some 52), .bin .sub (.tmp 47) (.tmp 51)⟩,
     ⟨some (44, true), (some 53), .mov (.tmp 3)⟩,
     ⟨some (44, true), (some 54), .bin .lss (.tmp 52) (.tmp 53)⟩,
     ⟨some (41, false), (some 55), .pick (.tmp 44) (.tmp 54) (.const (.bool false))⟩,
     ⟨some (38, true), (some 56), .pick (.tmp 41) (.const (.bool true)) (.tmp 55)⟩,
     ⟨none, (some 57), .pick (.tmp 38) (.tmp 56) (.const (.bool false))⟩,
     ⟨none, (some 8), .mov (.tmp 57)⟩] false)
   .ret)
   .skip))
  (.seq (.seq (.region [⟨none, (some 58), .mov (.tmp 9)⟩,
    ⟨none, (some 59), .lenL (.tmp 58)⟩,
    ⟨none, (some 60), .mov (.tmp 3)⟩,
    ⟨none, (some 61), .bin .neq (.tmp 59) (.tmp 60)⟩,
    ⟨none, (some 62), .mov (.tmp 61)⟩,
    ⟨some (62, false), (some 63), .mov (.tmp 10)⟩,
    ⟨some (62, false), (some 64), .callP 21 [(.tmp 63), (.const (.int .i64 0)), (.const (.int .i64 3840))] [.int .i64]⟩,
    ⟨some (62, false), (some 65), .mov (.tmp 0)⟩,
    ⟨some (62, false), (some 66), .callP 21 [(.tmp 65), (.const (.int .i64 0)), (.const (.int .i64 3840))] [.int .i64]⟩,
    ⟨some (62, false), (some 67), .mov (.tmp 3)⟩,
    ⟨some (62, false), (some 68), .bin .add (.tmp 66) (.tmp 67)⟩,
    ⟨some (62, false), (some 69), .bin .neq (.tmp 64) (.tmp 68)⟩,
    ⟨none, (some 70), .pick (.tmp 62) (.const (.bool true)) (.tmp 69)⟩] false)
  (.cond (.tmp 70) (.seq (.region [⟨none, (some 8), .mov (.const (.bool false))⟩] false)
   .ret)
   .skip))
  (.seq (.seq (.region [⟨none, (some 71), .mov (.tmp 9)⟩,
    ⟨none, (some 72), .lenL (.tmp 71)⟩,
    ⟨none, (some 73), .mov (.const (.int .i64 0))⟩] false)
  (.block 0 (.loop [0, 1, 2, 3, 9, 10, 71, 72, 73] [0, 1, 3, 9, 10] [8] law10_BitmapBack.L0)))
  (.seq (.seq (.region [⟨none, (some 111), .mov (.tmp 3)⟩,
    ⟨none, (some 112), .bin .gtr (.tmp 111) (.const (.int .i64 0))⟩,
    ⟨none, (some 113), .mov (.tmp 112)⟩,
    ⟨some (113, true), (some 114), .mov (.tmp 10)⟩,
    ⟨some (113, true), (some 115), .mov (.tmp 1)⟩,
    ⟨some (113, true), (some 116), .mov (.tmp 9)⟩,
    ⟨some (113, true), (some 117), .mov (.tmp 3)⟩,
    ⟨some (113, true), (some 118), .bin .sub (.tmp 117) (.const (.int .i64 1))⟩,
    ⟨some (113, true), (some 119), .indexAddrS 1 (.tmp 116) (.tmp 118)⟩,
    ⟨some (113, true), (some 120), .load [.int .i64] false (some 1000000) (.tmp 119)⟩,
    ⟨some (113, true), (some 121), .bin .add (.tmp 120) (.const (.int .i64 1))⟩,
    ⟨some (113, true), (some 122), .callP 21 [(.tmp 114), (.tmp 115), (.tmp 121)] [.int .i64]⟩,
    ⟨some (113, true), (some 123), .mov (.tmp 9)⟩,
    ⟨some (113, true), (some 124), .mov (.tmp 3)⟩,
    ⟨some (113, true), (some 125), .bin .sub (.tmp 124) (.const (.int .i64 1))⟩,
    ⟨some (113, true), (some 126), .indexAddrS 1 (.tmp 123) (.tmp 125)⟩,
    ⟨some (113, true), (some 127), .load [.int .i64] false (some 1000000) (.tmp 126)⟩,
    ⟨some (113, true), (some 128), .bin .add (.tmp 127) (.const (.int .i64 1))⟩,
    ⟨some (113, true), (some 129), .mov (.tmp 1)⟩,
    ⟨some (113, true), (some 130), .bin .sub (.tmp 128) (.tmp 129)⟩,
    ⟨some (113, true), (some 131), .bin .neq (.tmp 122) (.tmp 130)⟩,
    ⟨none, (some 132), .pick (.tmp 113) (.tmp 131) (.const (.bool false))⟩] true)
  (.cond (.tmp 132) (.seq (.region [⟨none, (some 8), .mov (.const (.bool false))⟩] false)
   .ret)
   .skip))
  (.seq (.region [⟨none, (some 134), .mov (.tmp 10)⟩,
    ⟨none, (some 135), .mov (.tmp 9)⟩,
    ⟨none, (some 136), .callP 26 [(.tmp 134), (.tmp 135)] [.str, .int .i64]⟩,
    ⟨none, (some 133), .mov (.tmp 136)⟩,
    ⟨none, (some 137), .extract (.tmp 133) 0⟩,
    ⟨none, (some 138), .extract (.tmp 133) 1⟩,
    ⟨none, (some 14), .mov (.tmp 137)⟩,
    ⟨none, (some 15), .mov (.tmp 138)⟩] false)
  (.seq (.region [⟨none, (some 140), .mov (.tmp 10)⟩,
    ⟨none, (some 141), .buildSl 1 []⟩,
    ⟨none, (some 142), .mov (.tmp 9)⟩,
    ⟨none, (some 143), .append 1 8 141 (.tmp 142)⟩,
    ⟨none, (some 144), .mov (.tmp 9)⟩,
    ⟨none, (some 145), .append 1 8 143 (.tmp 144)⟩,
    ⟨none, (some 146), .callP 26 [(.tmp 140), (.tmp 145)] [.str, .int .i64]⟩,
    ⟨none, (some 139), .mov (.tmp 146)⟩,
    ⟨none, (some 147), .extract (.tmp 139) 0⟩,
    ⟨none, (some 148), .extract (.tmp 139) 1⟩,
    ⟨none, (some 16), .mov (.tmp 147)⟩,
    ⟨none, (some 17), .mov (.tmp 148)⟩] false)
  (.seq (.region [⟨none, (some 149), .mov (.tmp 15)⟩,
    ⟨none, (some 150), .bin .eql (.tmp 149) (.const (.int .i64 0))⟩,
    ⟨none, (some 151), .mov (.tmp 150)⟩,
    ⟨some (151, true), (some 152), .mov (.tmp 14)⟩,
    ⟨some (151, true), (some 153), .mov (.tmp 0)⟩,
    ⟨some (151, true), (some 154), .bin .eql (.tmp 152) (.tmp 153)⟩,
    ⟨none, (some 155), .pick (.tmp 151) (.tmp 154) (.const (.bool false))⟩,
    ⟨none, (some 156), .mov (.tmp 155)⟩,
    ⟨some (156, true), (some 157), .mov (.tmp 17)⟩,
    ⟨some (156, true), (some 158), .bin .eql (.tmp 157) (.const (.int .i64 18))⟩,
    ⟨some (156, true), (some 159), .mov (.tmp 3)⟩,
    ⟨some (156, true), (some 160), .bin .gtr (.tmp 159) (.const (.int .i64 0))⟩,
    ⟨some (156, true), (some 161), .eqA false [.bool] 4 (.tmp 158) (.tmp 160)⟩,
    ⟨none, (some 162), .pick (.tmp 156) (.tmp 161) (.const (.bool false))⟩,
    ⟨none, (some 8), .mov (.tmp 162)⟩] false)
  .ret))))))))))⟩
def law10_BitmapBack.R0 (C : CallF) (N : Nat) := round (evalC C N law10_BitmapBack.L0) [0, 1, 2, 3, 9, 10, 71, 72, 73] [0, 1, 3, 9, 10] [8]
def law10_BitmapBack.K0 (C : CallF) (N : Nat) : Ex → St → R := contC C N [.snd, .snd, .snd, .snd, .snd, .fst, .snd, .blk] law10_BitmapBack.a.body (finish law10_BitmapBack.a)


/-! 16: wharfage/wharfagelaw10.lives -/
def law10_lives.pol : Pol := { glob := [], pure := [17, 19, 21, 25, 26, 29], heap := [999999], gret := [30], mva := [], root := [], rs := [0], live := [] }
def law10_lives.a : AFun := ⟨0, [.tmp 0],
  (.seq (.region [⟨none, (some 0), .mov (.const (.bool false))⟩] false)
  (.seq (.region [⟨none, (some 15), .makeV 1 1 [(.at (.int .u8 0))] false (.const (.int .i64 480)) (.const (.int .i64 480))⟩,
    ⟨none, (some 16), .toStr none (.tmp 15)⟩,
    ⟨none, (some 1), .mov (.tmp 16)⟩] false)
  (.seq (.region [⟨none, (some 18), .mov (.tmp 1)⟩,
    ⟨none, (some 19), .callP 17 [(.tmp 18), (.const (.int .i64 9)), (.const (.bool true))] [.str, .int .i64]⟩,
    ⟨none, (some 17), .mov (.tmp 19)⟩,
    ⟨none, (some 20), .extract (.tmp 17) 0⟩,
    ⟨none, (some 21), .extract (.tmp 17) 1⟩,
    ⟨none, (some 2), .mov (.tmp 20)⟩,
    ⟨none, (some 3), .mov (.tmp 21)⟩] false)
  (.seq (.region [⟨none, (some 23), .mov (.tmp 2)⟩,
    ⟨none, (some 24), .callP 25 [(.tmp 23), (.const (.int .i64 8)), (.const (.int .i64 12)), (.const (.int .i64 2))] [.sl 1, .str, .int .i64]⟩,
    ⟨none, (some 22), .mov (.tmp 24)⟩,
    ⟨none, (some 25), .extract (.tmp 22) 0⟩,
    ⟨none, (some 26), .extract (.tmp 22) 1⟩,
    ⟨none, (some 27), .extract (.tmp 22) 2⟩,
    ⟨none, (some 4), .mov (.tmp 25)⟩,
    ⟨none, (some 5), .mov (.tmp 26)⟩,
    ⟨none, (some 6), .mov (.tmp 27)⟩] false)
  (.seq (.region [⟨none, (some 29), .mov (.tmp 2)⟩,
    ⟨none, (some 30), .callP 25 [(.tmp 29), (.const (.int .i64 8)), (.const (.int .i64 12)), (.const (.int .i64 4))] [.sl 1, .str, .int .i64]⟩,
    ⟨none, (some 28), .mov (.tmp 30)⟩,
    ⟨none, (some 31), .extract (.tmp 28) 0⟩,
    ⟨none, (some 32), .extract (.tmp 28) 1⟩,
    ⟨none, (some 33), .extract (.tmp 28) 2⟩,
    ⟨none, (some 7), .mov (.tmp 31)⟩,
    ⟨none, (some 8), .mov (.tmp 32)⟩,
    ⟨none, (some 9), .mov (.tmp 33)⟩] false)
  (.seq (.region [⟨none, (some 35), .mov (.tmp 5)⟩,
    ⟨none, (some 36), .buildSl 1 [(.const (.int .i64 8)), (.const (.int .i64 9))]⟩,
    ⟨none, (some 37), .callP 26 [(.tmp 35), (.tmp 36)] [.str, .int .i64]⟩,
    ⟨none, (some 34), .mov (.tmp 37)⟩,
    ⟨none, (some 38), .extract (.tmp 34) 0⟩,
    ⟨none, (some 39), .extract (.tmp 34) 1⟩,
    ⟨none, (some 10), .mov (.tmp 38)⟩,
    ⟨none, (some 11), .mov (.tmp 39)⟩] false)
  (.seq (.region [⟨none, (some 41), .mov (.tmp 5)⟩,
    ⟨none, (some 42), .buildSl 1 [(.const (.int .i64 11))]⟩,
    ⟨none, (some 43), .callP 26 [(.tmp 41), (.tmp 42)] [.str, .int .i64]⟩,
    ⟨none, (some 40), .mov (.tmp 43)⟩,
    ⟨none, (some 44), .extract (.tmp 40) 0⟩,
    ⟨none, (some 45), .extract (.tmp 40) 1⟩,
    ⟨none, (some 12), .mov (.tmp 44)⟩,
    ⟨none, (some 13), .mov (.tmp 45)⟩] false)
  (.seq (.region [⟨none, (some 46), .mov (.tmp 2)⟩,
    ⟨none, (some 47), .call 30 [(.tmp 46), (.const (.int .i64 8)), (.const (.int .i64 12))] [.any]⟩,
    ⟨none, (some 14), .mov (.tmp 47)⟩] false)
  (.seq (.region [⟨none, (some 48), .mov (.tmp 3)⟩,
    ⟨none, (some 49), .bin .eql (.tmp 48) (.const (.int .i64 0))⟩,
    ⟨none, (some 50), .mov (.tmp 49)⟩,
    ⟨some (50, true), (some 51), .mov (.tmp 2)⟩,
    ⟨some (50, true), (some 52), .lenS (.tmp 51)⟩,
    ⟨some (50, true), (some 53), .bin .eql (.tmp 52) (.const (.int .i64 480))⟩,
    ⟨none, (some 54), .pick (.tmp 50) (.tmp 53) (.const (.bool false))⟩,
    ⟨none, (some 55), .mov (.tmp 54)⟩,
    ⟨some (55, true), (some 56), .mov (.tmp 2)⟩,
    ⟨some (55, true), (some 57), .indexS (.tmp 56) (.const (.int .i64 1))⟩,
    ⟨some (55, true), (some 58), .bin .eql (.tmp 57) (.const (.int .u8 2))⟩,
    ⟨none, (some 59), .pick (.tmp 55) (.tmp 58) (.const (.bool false))⟩,
    ⟨none, (some 60), .mov (.tmp 59)⟩,
    ⟨some (60, true), (some 61), .mov (.tmp 2)⟩,
    ⟨some (60, true), (some 62), .callP 19 [(.tmp 61), (.const (.int .i64 9))] [.bool]⟩,
    ⟨none, (some 63), .pick (.tmp 60) (.tmp 62) (.const (.bool false))⟩,
    ⟨none, (some 64), .mov (.tmp 63)⟩,
    ⟨some (64, true), (some 65), .mov (.tmp 2)⟩,
    ⟨some (64, true), (some 66), .callP 19 [(.tmp 65), (.const (.int .i64 8))] [.bool]⟩,
    ⟨some (64, true), (some 67), .un .not (.tmp 66)⟩,
    ⟨none, (some 68), .pick (.tmp 64) (.tmp 67) (.const (.bool false))⟩,
    ⟨none, (some 69), .mov (.tmp 68)⟩,
    ⟨some (69, true), (some 70), .mov (.tmp 4)⟩,
    ⟨some (69, true), (some 71), .buildSl 1 [(.const (.int .i64 8)), (.const (.int .i64 10))]⟩,
    ⟨some (69, true), (some 72), .callP 29 [(.tmp 70), (.tmp 71)] [.bool]⟩,
    ⟨none, (some 73), .pick (.tmp 69) (.tmp 72) (.const (.bool false))⟩,
    ⟨none, (some 74), .mov (.tmp 73)⟩,
    ⟨some (74, true), (some 75), .mov (.tmp 6)⟩,
    ⟨some (74, true), (some 76), .bin .eql (.tmp 75) (.const (.int .i64 0))⟩,
    ⟨none, (some 77), .pick (.tmp 74) (.tmp 76) (.const (.bool false))⟩,
    ⟨none, (some 78), .mov (.tmp 77)⟩,
    ⟨some (78, true), (some 79), .mov (.tmp 9)⟩,
    ⟨some (78, true), (some 80), .bin .eql (.tmp 79) (.const (.int .i64 13))⟩,
    ⟨none, (some 81), .pick (.tmp 78) (.tmp 80) (.const (.bool false))⟩,
    ⟨none, (some 82), .mov (.tmp 81)⟩,
    ⟨some (82, true), (some 83), .mov (.tmp 11)⟩,
    ⟨some (82, true), (some 84), .bin .eql (.tmp 83) (.const (.int .i64 0))⟩,
    ⟨none, (some 85), .pick (.tmp 82) (.tmp 84) (.const (.bool false))⟩,
    ⟨none, (some 86), .mov (.tmp 85)⟩,
    ⟨some (86, true), (some 87), .mov (.tmp 10)⟩,
    ⟨some (86, true), (some 88), .callP 21 [(.tmp 87), (.const (.int .i64 0)), (.const (.int .i64 3840))] [.int .i64]⟩,
    ⟨some (86, true), (some 89), .bin .eql (.tmp 88) (.const (.int .i64 1))⟩,
    ⟨none, (some 90), .pick (.tmp 86) (.tmp 89) (.const (.bool false))⟩,
    ⟨none, (some 91), .mov (.tmp 90)⟩,
    ⟨some (91, true), (some 92), .mov (.tmp 13)⟩,
    ⟨some (91, true), (some 93), .bin .eql (.tmp 92) (.const (.int .i64 18))⟩,
    ⟨none, (some 94), .pick (.tmp 91) (.tmp 93) (.const (.bool false))⟩,
    ⟨none, (some 95), .mov (.tmp 94)⟩,
    ⟨some (95, true), (some 96), .mov (.tmp 14)⟩,
    ⟨some (95, true), (some 97), .lenL (.tmp 96)⟩,
    ⟨some (95, true), (some 98), .bin .eql (.tmp 97) (.const (.int .i64 2))⟩,
    ⟨none, (some 99), .pick (.tmp 95) (.tmp 98) (.const (.bool false))⟩,
    ⟨none, (some 100), .mov (.tmp 99)⟩,
    ⟨some (100, true), (some 101), .mov (.tmp 14)⟩,
    ⟨some (100, true), (some 102), .indexAddrS 2 (.tmp 101) (.const (.int .i64 0))⟩,
    ⟨some (100, true), (some 103), .load [.int .i64, .int .i64] true none (.tmp 102)⟩,
    ⟨some (100, true), (some 104), .build [(.at (.int .i64 0)), (.at (.int .i64 0))] [(0, 1, (.const (.int .i64 8))), (1, 1, (.const (.int .i64 9)))]⟩,
    ⟨some (100, true), (some 105), .eqA false [.int .i64, .int .i64] 57 (.tmp 103) (.tmp 104)⟩,
    ⟨none, (some 106), .pick (.tmp 100) (.tmp 105) (.const (.bool false))⟩,
    ⟨none, (some 107), .mov (.tmp 106)⟩,
    ⟨some (107, true), (some 108), .mov (.tmp 14)⟩,
    ⟨some (107, true), (some 109), .indexAddrS 2 (.tmp 108) (.const (.int .i64 1))⟩,
    ⟨some (107, true), (some 110), .load [.int .i64, .int .i64] true none (.tmp 109)⟩,
    ⟨some (107, true), (some 111), .build [(.at (.int .i64 0)), (.at (.int .i64 0))] [(0, 1, (.const (.int .i64 10))), (1, 1, (.const (.int .i64 12)))]⟩,
    ⟨some (107, true), (some 112), .eqA false [.int .i64, .int .i64] 57 (.tmp 110) (.tmp 111)⟩,
    ⟨none, (some 113), .pick (.tmp 107) (.tmp 112) (.const (.bool false))⟩,
    ⟨none, (some 114), .mov (.tmp 113)⟩,
    ⟨some (114, true), (some 115), .callP 19 [(.const (.string ⟨#[120]⟩)), (.const (.int .i64 0))] [.bool]⟩,
    ⟨some (114, true), (some 116), .un .not (.tmp 115)⟩,
    ⟨none, (some 117), .pick (.tmp 114) (.tmp 116) (.const (.bool false))⟩,
    ⟨none, (some 0), .mov (.tmp 117)⟩] false)
  .ret)))))))))⟩


/-! 17: wharfage/bitmap.Set -/
def bitmap_Set.pol : Pol := { glob := [], pure := [], heap := [], gret := [], mva := [], root := [(18, 18), (8, 18), (19, 18), (22, 18), (28, 18), (30, 18), (33, 18), (39, 18), (40, 18)], rs := [6, 7], live := [] }
def bitmap_Set.a : AFun := ⟨3, [.tmp 6, .tmp 7],
  (.seq (.region [⟨none, (some 6), .mov (.const (.string ⟨#[]⟩))⟩,
    ⟨none, (some 7), .mov (.const (.int .i64 0))⟩] false)
  (.seq (.seq (.region [⟨none, (some 9), .mov (.tmp 0)⟩,
    ⟨none, (some 10), .call 37 [(.tmp 9)] [.bool]⟩,
    ⟨none, (some 11), .un .not (.tmp 10)⟩,
    ⟨none, (some 12), .mov (.tmp 11)⟩,
    ⟨some (12, false), (some 13), .mov (.tmp 1)⟩,
    ⟨some (12, false), (some 14), .call 38 [(.tmp 13)] [.bool]⟩,
    ⟨some (12, false), (some 15), .un .not (.tmp 14)⟩,
    ⟨none, (some 16), .pick (.tmp 12) (.const (.bool true)) (.tmp 15)⟩] false)
  (.cond (.tmp 16) (.seq (.region [⟨none, (some 6), .mov (.const (.string ⟨#[]⟩))⟩,
     ⟨none, (some 7), .mov (.const (.int .i64 18))⟩] false)
   .ret)
   .skip))
  (.seq (.region [⟨none, (some 17), .mov (.tmp 0)⟩,
    ⟨none, (some 18), .toBytes (.tmp 17)⟩,
    ⟨none, (some 8), .mov (.tmp 18)⟩] false)
  (.seq (.region [⟨none, (some 19), .mov (.tmp 8)⟩,
    ⟨none, (some 20), .mov (.tmp 1)⟩,
    ⟨none, (some 21), .bin .quo (.tmp 20) (.const (.int .i64 8))⟩,
    ⟨none, (some 22), .indexAddrS 1 (.tmp 19) (.tmp 21)⟩,
    ⟨none, (some 23), .load [.int .u8] false (some 18) (.tmp 22)⟩,
    ⟨none, (some 24), .mov (.tmp 1)⟩,
    ⟨none, (some 25), .bin .rem (.tmp 24) (.const (.int .i64 8))⟩,
    ⟨none, (some 26), .bin .shl (.const (.int .u8 1)) (.tmp 25)⟩,
    ⟨none, (some 27), .bin .andNot (.tmp 23) (.tmp 26)⟩,
    ⟨none, (some 28), .indexAddrS 1 (.tmp 19) (.tmp 21)⟩,
    ⟨none, none, .store 1 (some 18) (.tmp 28) (.tmp 27)⟩] true)
  (.seq (.seq (.region [⟨none, (some 29), .mov (.tmp 2)⟩] false)
  (.cond (.tmp 29) (.region [⟨none, (some 30), .mov (.tmp 8)⟩,
     ⟨none, (some 31), .mov (.tmp 1)⟩,
     ⟨none, (some 32), .bin .quo (.tmp 31) (.const (.int .i64 8))⟩,
     ⟨none, (some 33), .indexAddrS 1 (.tmp 30) (.tmp 32)⟩,
     ⟨none, (some 34), .load [.int .u8] false (some 18) (.tmp 33)⟩,
     ⟨none, (some 35), .mov (.tmp 1)⟩,
     ⟨none, (some 36), .bin .rem (.tmp 35) (.const (.int .i64 8))⟩,
     ⟨none, (some 37), .bin .shl (.const (.int .u8 1)) (.tmp 36)⟩,
     ⟨none, (some 38), .bin .or (.tmp 34) (.tmp 37)⟩,
     ⟨none, (some 39), .indexAddrS 1 (.tmp 30) (.tmp 32)⟩,
     ⟨none, none, .store 1 (some 18) (.tmp 39) (.tmp 38)⟩] true)
   .skip))
  (.seq (.region [⟨none, (some 40), .mov (.tmp 8)⟩,
    ⟨none, (some 41), .toStr (some 18) (.tmp 40)⟩,
    ⟨none, (some 6), .mov (.tmp 41)⟩,
    ⟨none, (some 7), .mov (.const (.int .i64 0))⟩] false)
  .ret))))))⟩


/-! 18: wharfage/wharfageref10.Set -/
def ref10_Set.pol : Pol := { glob := [], pure := [], heap := [], gret := [], mva := [], root := [], rs := [6, 7], live := [([0, 1, 2, 8, 9], [0, 1, 2, 8])] }
def ref10_Set.L0 : ACode :=
  (.seq (.seq (.region [⟨none, (some 22), .mov (.tmp 9)⟩,
    ⟨none, (some 23), .mov (.tmp 1)⟩,
    ⟨none, (some 24), .bin .rem (.tmp 23) (.const (.int .i64 8))⟩,
    ⟨none, (some 25), .bin .lss (.tmp 22) (.tmp 24)⟩] false)
  (.cond (.tmp 25) .skip
   (.exit 0)))
  (.seq (.block 1 (.region [⟨none, (some 28), .mov (.tmp 8)⟩,
     ⟨none, (some 29), .bin .mul (.const (.int .i64 2)) (.tmp 28)⟩,
     ⟨none, (some 8), .mov (.tmp 29)⟩] false))
  (.region [⟨none, (some 26), .mov (.tmp 9)⟩,
    ⟨none, (some 27), .bin .add (.tmp 26) (.const (.int .i64 1))⟩,
    ⟨none, (some 9), .mov (.tmp 27)⟩] false)))
def ref10_Set.a : AFun := ⟨3, [.tmp 6, .tmp 7],
  (.seq (.region [⟨none, (some 6), .mov (.const (.string ⟨#[]⟩))⟩,
    ⟨none, (some 7), .mov (.const (.int .i64 0))⟩] false)
  (.seq (.seq (.region [⟨none, (some 11), .mov (.tmp 0)⟩,
    ⟨none, (some 12), .lenS (.tmp 11)⟩,
    ⟨none, (some 13), .bin .neq (.tmp 12) (.const (.int .i64 480))⟩,
    ⟨none, (some 14), .mov (.tmp 13)⟩,
    ⟨some (14, false), (some 15), .mov (.tmp 1)⟩,
    ⟨some (14, false), (some 16), .bin .lss (.tmp 15) (.const (.int .i64 0))⟩,
    ⟨none, (some 17), .pick (.tmp 14) (.const (.bool true)) (.tmp 16)⟩,
    ⟨none, (some 18), .mov (.tmp 17)⟩,
    ⟨some (18, false), (some 19), .mov (.tmp 1)⟩,
    ⟨some (18, false), (some 20), .bin .gtr (.tmp 19) (.const (.int .i64 3839))⟩,
    ⟨none, (some 21), .pick (.tmp 18) (.const (.bool true)) (.tmp 20)⟩] false)
  (.cond (.tmp 21) (.seq (.region [⟨none, (some 6), .mov (.const (.string ⟨#[]⟩))⟩,
     ⟨none, (some 7), .mov (.const (.int .i64 18))⟩] false)
   .ret)
   .skip))
  (.seq (.region [⟨none, (some 8), .mov (.const (.int .i64 1))⟩] false)
  (.seq (.seq (.region [⟨none, (some 9), .mov (.const (.int .i64 0))⟩] false)
  (.block 0 (.loop [0, 1, 2, 8, 9] [0, 1, 2, 8] [6, 7] ref10_Set.L0)))
  (.seq (.region [⟨none, (some 30), .mov (.tmp 0)⟩,
    ⟨none, (some 31), .mov (.tmp 1)⟩,
    ⟨none, (some 32), .bin .quo (.tmp 31) (.const (.int .i64 8))⟩,
    ⟨none, (some 33), .indexS (.tmp 30) (.tmp 32)⟩,
    ⟨none, (some 34), .convI .i64 (.tmp 33)⟩,
    ⟨none, (some 10), .mov (.tmp 34)⟩] false)
  (.seq (.seq (.region [⟨none, (some 35), .mov (.tmp 0)⟩,
    ⟨none, (some 36), .mov (.tmp 1)⟩,
    ⟨none, (some 37), .call 20 [(.tmp 35), (.tmp 36)] [.bool]⟩] false)
  (.cond (.tmp 37) (.region [⟨none, (some 38), .mov (.tmp 10)⟩,
     ⟨none, (some 39), .mov (.tmp 8)⟩,
     ⟨none, (some 40), .bin .sub (.tmp 38) (.tmp 39)⟩,
     ⟨none, (some 10), .mov (.tmp 40)⟩] false)
   .skip))
  (.seq (.seq (.region [⟨none, (some 41), .mov (.tmp 2)⟩] false)
  (.cond (.tmp 41) (.region [⟨none, (some 42), .mov (.tmp 10)⟩,
     ⟨none, (some 43), .mov (.tmp 8)⟩,
     ⟨none, (some 44), .bin .add (.tmp 42) (.tmp 43)⟩,
     ⟨none, (some 10), .mov (.tmp 44)⟩] false)
   .skip))
  (.seq (.region [⟨none, (some 45), .mov (.tmp 0)⟩,
    ⟨none, (some 46), .mov (.tmp 1)⟩,
    ⟨none, (some 47), .bin .quo (.tmp 46) (.const (.int .i64 8))⟩,
    ⟨none, (some 48), .sliceS (.tmp 45) none (some (.tmp 47))⟩,
    ⟨none, (some 49), .mov (.tmp 10)⟩,
    ⟨none, (some 50), .convI .u8 (.tmp 49)⟩,
    ⟨none, (some 51), .buildSl 1 [(.tmp 50)]⟩,
    ⟨none, (some 52), .toStr none (.tmp 51)⟩,
    ⟨none, (some 53), .bin .add (.tmp 48) (.tmp 52)⟩,
    ⟨none, (some 54), .mov (.tmp 0)⟩,
    ⟨none, (some 55), .mov (.tmp 1)⟩,
    ⟨none, (some 56), .bin .quo (.tmp 55) (.const (.int .i64 8))⟩,
    ⟨none, (some 57), .bin .add (.tmp 56) (.const (.int .i64 1))⟩,
    ⟨none, (some 58), .sliceS (.tmp 54) (some (.tmp 57)) none⟩,
    ⟨none, (some 59), .bin .add (.tmp 53) (.tmp 58)⟩,
    ⟨none, (some 6), .mov (.tmp 59)⟩,
    ⟨none, (some 7), .mov (.const (.int .i64 0))⟩] true)
  .ret))))))))⟩
def ref10_Set.R0 (C : CallF) (N : Nat) := round (evalC C N ref10_Set.L0) [0, 1, 2, 8, 9] [0, 1, 2, 8] [6, 7]
def ref10_Set.K0 (C : CallF) (N : Nat) : Ex → St → R := contC C N [.snd, .snd, .snd, .fst, .snd, .blk] ref10_Set.a.body (finish ref10_Set.a)


/-! 19: wharfage/bitmap.Used -/
def bitmap_Used.pol : Pol := { glob := [], pure := [], heap := [], gret := [], mva := [], root := [], rs := [4], live := [] }
def bitmap_Used.a : AFun := ⟨2, [.tmp 4],
  (.seq (.region [⟨none, (some 4), .mov (.const (.bool false))⟩] false)
  (.seq (.region [⟨none, (some 5), .mov (.tmp 0)⟩,
    ⟨none, (some 6), .call 37 [(.tmp 5)] [.bool]⟩,
    ⟨none, (some 7), .mov (.tmp 6)⟩,
    ⟨some (7, true), (some 8), .mov (.tmp 1)⟩,
    ⟨some (7, true), (some 9), .call 38 [(.tmp 8)] [.bool]⟩,
    ⟨none, (some 10), .pick (.tmp 7) (.tmp 9) (.const (.bool false))⟩,
    ⟨none, (some 11), .mov (.tmp 10)⟩,
    ⟨some (11, true), (some 12), .mov (.tmp 0)⟩,
    ⟨some (11, true), (some 13), .mov (.tmp 1)⟩,
    ⟨some (11, true), (some 14), .bin .quo (.tmp 13) (.const (.int .i64 8))⟩,
    ⟨some (11, true), (some 15), .indexS (.tmp 12) (.tmp 14)⟩,
    ⟨some (11, true), (some 16), .mov (.tmp 1)⟩,
    ⟨some (11, true), (some 17), .bin .rem (.tmp 16) (.const (.int .i64 8))⟩,
    ⟨some (11, true), (some 18), .bin .shr (.tmp 15) (.tmp 17)⟩,
    ⟨some (11, true), (some 19), .bin .and (.tmp 18) (.const (.int .u8 1))⟩,
    ⟨some (11, true), (some 20), .bin .eql (.tmp 19) (.const (.int .u8 1))⟩,
    ⟨none, (some 21), .pick (.tmp 11) (.tmp 20) (.const (.bool false))⟩,
    ⟨none, (some 4), .mov (.tmp 21)⟩] false)
  .ret))⟩


/-! 20: wharfage/wharfageref10.Used -/
def ref10_Used.pol : Pol := { glob := [], pure := [], heap := [], gret := [], mva := [], root := [], rs := [4], live := [([1, 5, 6], [5])] }
def ref10_Used.L0 : ACode :=
  (.seq (.seq (.region [⟨none, (some 23), .mov (.tmp 6)⟩,
    ⟨none, (some 24), .mov (.tmp 1)⟩,
    ⟨none, (some 25), .bin .rem (.tmp 24) (.const (.int .i64 8))⟩,
    ⟨none, (some 26), .bin .lss (.tmp 23) (.tmp 25)⟩] false)
  (.cond (.tmp 26) .skip
   (.exit 0)))
  (.seq (.block 1 (.region [⟨none, (some 29), .mov (.tmp 5)⟩,
     ⟨none, (some 30), .bin .quo (.tmp 29) (.const (.int .i64 2))⟩,
     ⟨none, (some 5), .mov (.tmp 30)⟩] false))
  (.region [⟨none, (some 27), .mov (.tmp 6)⟩,
    ⟨none, (some 28), .bin .add (.tmp 27) (.const (.int .i64 1))⟩,
    ⟨none, (some 6), .mov (.tmp 28)⟩] false)))
def ref10_Used.a : AFun := ⟨2, [.tmp 4],
  (.seq (.region [⟨none, (some 4), .mov (.const (.bool false))⟩] false)
  (.seq (.seq (.region [⟨none, (some 7), .mov (.tmp 0)⟩,
    ⟨none, (some 8), .lenS (.tmp 7)⟩,
    ⟨none, (some 9), .bin .neq (.tmp 8) (.const (.int .i64 480))⟩,
    ⟨none, (some 10), .mov (.tmp 9)⟩,
    ⟨some (10, false), (some 11), .mov (.tmp 1)⟩,
    ⟨some (10, false), (some 12), .bin .lss (.tmp 11) (.const (.int .i64 0))⟩,
    ⟨none, (some 13), .pick (.tmp 10) (.const (.bool true)) (.tmp 12)⟩,
    ⟨none, (some 14), .mov (.tmp 13)⟩,
    ⟨some (14, false), (some 15), .mov (.tmp 1)⟩,
    ⟨some (14, false), (some 16), .bin .gtr (.tmp 15) (.const (.int .i64 3839))⟩,
    ⟨none, (some 17), .pick (.tmp 14) (.const (.bool true)) (.tmp 16)⟩] false)
  (.cond (.tmp 17) (.seq (.region [⟨none, (some 4), .mov (.const (.bool false))⟩] false)
   .ret)
   .skip))
  (.seq (.region [⟨none, (some 18), .mov (.tmp 0)⟩,
    ⟨none, (some 19), .mov (.tmp 1)⟩,
    ⟨none, (some 20), .bin .quo (.tmp 19) (.const (.int .i64 8))⟩,
    ⟨none, (some 21), .indexS (.tmp 18) (.tmp 20)⟩,
    ⟨none, (some 22), .convI .i64 (.tmp 21)⟩,
    ⟨none, (some 5), .mov (.tmp 22)⟩] false)
  (.seq (.seq (.region [⟨none, (some 6), .mov (.const (.int .i64 0))⟩] false)
  (.block 0 (.loop [1, 5, 6] [5] [4] ref10_Used.L0)))
  (.seq (.region [⟨none, (some 31), .mov (.tmp 5)⟩,
    ⟨none, (some 32), .bin .rem (.tmp 31) (.const (.int .i64 2))⟩,
    ⟨none, (some 33), .bin .eql (.tmp 32) (.const (.int .i64 1))⟩,
    ⟨none, (some 4), .mov (.tmp 33)⟩] false)
  .ret)))))⟩
def ref10_Used.R0 (C : CallF) (N : Nat) := round (evalC C N ref10_Used.L0) [1, 5, 6] [5] [4]
def ref10_Used.K0 (C : CallF) (N : Nat) : Ex → St → R := contC C N [.snd, .snd, .snd, .fst, .snd, .blk] ref10_Used.a.body (finish ref10_Used.a)


/-! 21: wharfage/bitmap.Many -/
def bitmap_Many.pol : Pol := { glob := [], pure := [], heap := [], gret := [], mva := [], root := [], rs := [6], live := [([0, 2, 7, 8], [7])] }
def bitmap_Many.L0 : ACode :=
  (.seq (.seq (.region [⟨none, (some 17), .mov (.tmp 8)⟩,
    ⟨none, (some 18), .mov (.tmp 2)⟩,
    ⟨none, (some 19), .bin .lss (.tmp 17) (.tmp 18)⟩] false)
  (.cond (.tmp 19) .skip
   (.exit 0)))
  (.block 1 (.seq (.seq (.region [⟨none, (some 20), .mov (.tmp 8)⟩,
     ⟨none, (some 21), .bin .rem (.tmp 20) (.const (.int .i64 8))⟩,
     ⟨none, (some 22), .bin .eql (.tmp 21) (.const (.int .i64 0))⟩,
     ⟨none, (some 23), .mov (.tmp 22)⟩,
     ⟨some (23, true), (some 24), .mov (.tmp 8)⟩,
     ⟨some (23, true), (some 25), .bin .add (.tmp 24) (.const (.int .i64 8))⟩,
     ⟨some (23, true), (some 26), .mov (.tmp 2)⟩,
     ⟨some (23, true), (some 27), .bin .leq (.tmp 25) (.tmp 26)⟩,
     ⟨none, (some 28), .pick (.tmp 23) (.tmp 27) (.const (.bool false))⟩] false)
   (.cond (.tmp 28) (.seq (.region [⟨none, (some 29), .mov (.tmp 7)⟩,
      ⟨none, (some 30), .mov (.tmp 0)⟩,
      ⟨none, (some 31), .mov (.tmp 8)⟩,
      ⟨none, (some 32), .bin .quo (.tmp 31) (.const (.int .i64 8))⟩,
      ⟨none, (some 33), .indexS (.tmp 30) (.tmp 32)⟩,
      ⟨none, (some 34), .call 39 [(.tmp 33)] [.int .i64]⟩,
      ⟨none, (some 35), .bin .add (.tmp 29) (.tmp 34)⟩,
      ⟨none, (some 7), .mov (.tmp 35)⟩] false)
    (.seq (.region [⟨none, (some 36), .mov (.tmp 8)⟩,
      ⟨none, (some 37), .bin .add (.tmp 36) (.const (.int .i64 8))⟩,
      ⟨none, (some 8), .mov (.tmp 37)⟩] false)
    (.exit 1)))
    .skip))
   (.seq (.seq (.region [⟨none, (some 38), .mov (.tmp 0)⟩,
     ⟨none, (some 39), .mov (.tmp 8)⟩,
     ⟨none, (some 40), .call 19 [(.tmp 38), (.tmp 39)] [.bool]⟩] false)
   (.cond (.tmp 40) (.region [⟨none, (some 41), .mov (.tmp 7)⟩,
      ⟨none, (some 42), .bin .add (.tmp 41) (.const (.int .i64 1))⟩,
      ⟨none, (some 7), .mov (.tmp 42)⟩] false)
    .skip))
   (.region [⟨none, (some 43), .mov (.tmp 8)⟩,
     ⟨none, (some 44), .bin .add (.tmp 43) (.const (.int .i64 1))⟩,
     ⟨none, (some 8), .mov (.tmp 44)⟩] false)))))
def bitmap_Many.a : AFun := ⟨3, [.tmp 6],
  (.seq (.region [⟨none, (some 6), .mov (.const (.int .i64 0))⟩] false)
  (.seq (.seq (.region [⟨none, (some 9), .mov (.tmp 0)⟩,
    ⟨none, (some 10), .call 37 [(.tmp 9)] [.bool]⟩,
    ⟨none, (some 11), .un .not (.tmp 10)⟩] false)
  (.cond (.tmp 11) (.seq (.region [⟨none, (some 6), .mov (.const (.int .i64 0))⟩] false)
   .ret)
   .skip))
  (.seq (.region [⟨none, (some 12), .mov (.tmp 1)⟩,
    ⟨none, (some 13), .minmax true [(.tmp 12), (.const (.int .i64 0))]⟩,
    ⟨none, (some 14), .mov (.tmp 2)⟩,
    ⟨none, (some 15), .minmax false [(.tmp 14), (.const (.int .i64 3840))]⟩,
    ⟨none, (some 1), .mov (.tmp 13)⟩,
    ⟨none, (some 2), .mov (.tmp 15)⟩] false)
  (.seq (.region [⟨none, (some 7), .mov (.const (.int .i64 0))⟩] false)
  (.seq (.seq (.region [⟨none, (some 16), .mov (.tmp 1)⟩,
    ⟨none, (some 8), .mov (.tmp 16)⟩] false)
  (.block 0 (.loop [0, 2, 7, 8] [7] [6] bitmap_Many.L0)))
  (.seq (.region [⟨none, (some 45), .mov (.tmp 7)⟩,
    ⟨none, (some 6), .mov (.tmp 45)⟩] false)
  .ret))))))⟩
def bitmap_Many.R0 (C : CallF) (N : Nat) := round (evalC C N bitmap_Many.L0) [0, 2, 7, 8] [7] [6]
def bitmap_Many.K0 (C : CallF) (N : Nat) : Ex → St → R := contC C N [.snd, .snd, .snd, .snd, .fst, .snd, .blk] bitmap_Many.a.body (finish bitmap_Many.a)


/-! 22: wharfage/wharfageref10.Many -/
def ref10_Many.pol : Pol := { glob := [], pure := [], heap := [], gret := [], mva := [], root := [], rs := [6], live := [([0, 1, 2, 7, 8], [7])] }
def ref10_Many.L0 : ACode :=
  (.seq (.seq (.region [⟨none, (some 9), .mov (.tmp 8)⟩,
    ⟨none, (some 10), .bin .lss (.tmp 9) (.const (.int .i64 3840))⟩] false)
  (.cond (.tmp 10) .skip
   (.exit 0)))
  (.seq (.block 1 (.seq (.region [⟨none, (some 13), .mov (.tmp 8)⟩,
     ⟨none, (some 14), .mov (.tmp 1)⟩,
     ⟨none, (some 15), .bin .geq (.tmp 13) (.tmp 14)⟩,
     ⟨none, (some 16), .mov (.tmp 15)⟩,
     ⟨some (16, true), (some 17), .mov (.tmp 8)⟩,
     ⟨some (16, true), (some 18), .mov (.tmp 2)⟩,
     ⟨some (16, true), (some 19), .bin .lss (.tmp 17) (.tmp 18)⟩,
     ⟨none, (some 20), .pick (.tmp 16) (.tmp 19) (.const (.bool false))⟩,
     ⟨none, (some 21), .mov (.tmp 20)⟩,
     ⟨some (21, true), (some 22), .mov (.tmp 0)⟩,
     ⟨some (21, true), (some 23), .mov (.tmp 8)⟩,
     ⟨some (21, true), (some 24), .call 20 [(.tmp 22), (.tmp 23)] [.bool]⟩,
     ⟨none, (some 25), .pick (.tmp 21) (.tmp 24) (.const (.bool false))⟩] false)
   (.cond (.tmp 25) (.region [⟨none, (some 26), .mov (.tmp 7)⟩,
      ⟨none, (some 27), .bin .add (.tmp 26) (.const (.int .i64 1))⟩,
      ⟨none, (some 7), .mov (.tmp 27)⟩] false)
    .skip)))
  (.region [⟨none, (some 11), .mov (.tmp 8)⟩,
    ⟨none, (some 12), .bin .add (.tmp 11) (.const (.int .i64 1))⟩,
    ⟨none, (some 8), .mov (.tmp 12)⟩] false)))
def ref10_Many.a : AFun := ⟨3, [.tmp 6],
  (.seq (.region [⟨none, (some 6), .mov (.const (.int .i64 0))⟩] false)
  (.seq (.region [⟨none, (some 7), .mov (.const (.int .i64 0))⟩] false)
  (.seq (.seq (.region [⟨none, (some 8), .mov (.const (.int .i64 0))⟩] false)
  (.block 0 (.loop [0, 1, 2, 7, 8] [7] [6] ref10_Many.L0)))
  (.seq (.region [⟨none, (some 28), .mov (.tmp 7)⟩,
    ⟨none, (some 6), .mov (.tmp 28)⟩] false)
  .ret))))⟩
def ref10_Many.R0 (C : CallF) (N : Nat) := round (evalC C N ref10_Many.L0) [0, 1, 2, 7, 8] [7] [6]
def ref10_Many.K0 (C : CallF) (N : Nat) : Ex → St → R := contC C N [.snd, .snd, .fst, .snd, .blk] ref10_Many.a.body (finish ref10_Many.a)


/-! 23: wharfage/bitmap.Lowest -/
def bitmap_Lowest.pol : Pol := { glob := [], pure := [], heap := [], gret := [], mva := [], root := [], rs := [8, 9], live := [] }
def bitmap_Lowest.a : AFun := ⟨4, [.tmp 8, .tmp 9],
  (.seq (.region [⟨none, (some 8), .nilS 1⟩,
    ⟨none, (some 9), .mov (.const (.int .i64 0))⟩] false)
  (.seq (.seq (.region [⟨none, (some 11), .mov (.tmp 0)⟩,
    ⟨none, (some 12), .mov (.tmp 1)⟩,
    ⟨none, (some 13), .mov (.tmp 2)⟩,
    ⟨none, (some 14), .call 40 [(.tmp 11), (.tmp 12), (.tmp 13)] [.bool]⟩,
    ⟨none, (some 15), .un .not (.tmp 14)⟩,
    ⟨none, (some 16), .mov (.tmp 15)⟩,
    ⟨some (16, false), (some 17), .mov (.tmp 3)⟩,
    ⟨some (16, false), (some 18), .bin .lss (.tmp 17) (.const (.int .i64 0))⟩,
    ⟨none, (some 19), .pick (.tmp 16) (.const (.bool true)) (.tmp 18)⟩] false)
  (.cond (.tmp 19) (.seq (.region [⟨none, (some 8), .nilS 1⟩,
     ⟨none, (some 9), .mov (.const (.int .i64 18))⟩] false)
   .ret)
   .skip))
  (.seq (.region [⟨none, (some 20), .mov (.tmp 0)⟩,
    ⟨none, (some 21), .mov (.tmp 1)⟩,
    ⟨none, (some 22), .mov (.tmp 2)⟩,
    ⟨none, (some 23), .mov (.tmp 3)⟩,
    ⟨none, (some 24), .call 41 [(.tmp 20), (.tmp 21), (.tmp 22), (.tmp 23)] [.sl 1]⟩,
    ⟨none, (some 10), .mov (.tmp 24)⟩] false)
  (.seq (.seq (.region [⟨none, (some 25), .mov (.tmp 10)⟩,
    ⟨none, (some 26), .lenL (.tmp 25)⟩,
    ⟨none, (some 27), .mov (.tmp 3)⟩,
    ⟨none, (some 28), .bin .lss (.tmp 26) (.tmp 27)⟩] false)
  (.cond (.tmp 28) (.seq (.region [⟨none, (some 8), .nilS 1⟩,
     ⟨none, (some 9), .mov (.const (.int .i64 13))⟩] false)
   .ret)
   .skip))
  (.seq (.region [⟨none, (some 29), .mov (.tmp 10)⟩,
    ⟨none, (some 8), .mov (.tmp 29)⟩,
    ⟨none, (some 9), .mov (.const (.int .i64 0))⟩] false)
  .ret)))))⟩


/-! 24: wharfage/wharfageref10.Lowest -/
def ref10_Lowest.pol : Pol := { glob := [], pure := [], heap := [], gret := [], mva := [], root := [], rs := [8, 9], live := [] }
def ref10_Lowest.a : AFun := ⟨4, [.tmp 8, .tmp 9],
  (.seq (.region [⟨none, (some 8), .nilS 1⟩,
    ⟨none, (some 9), .mov (.const (.int .i64 0))⟩] false)
  (.seq (.seq (.region [⟨none, (some 11), .mov (.tmp 0)⟩,
    ⟨none, (some 12), .mov (.tmp 1)⟩,
    ⟨none, (some 13), .mov (.tmp 2)⟩,
    ⟨none, (some 14), .call 42 [(.tmp 11), (.tmp 12), (.tmp 13)] [.bool]⟩,
    ⟨none, (some 15), .un .not (.tmp 14)⟩,
    ⟨none, (some 16), .mov (.tmp 15)⟩,
    ⟨some (16, false), (some 17), .mov (.tmp 3)⟩,
    ⟨some (16, false), (some 18), .bin .lss (.tmp 17) (.const (.int .i64 0))⟩,
    ⟨none, (some 19), .pick (.tmp 16) (.const (.bool true)) (.tmp 18)⟩] false)
  (.cond (.tmp 19) (.seq (.region [⟨none, (some 8), .nilS 1⟩,
     ⟨none, (some 9), .mov (.const (.int .i64 18))⟩] false)
   .ret)
   .skip))
  (.seq (.region [⟨none, (some 20), .mov (.tmp 0)⟩,
    ⟨none, (some 21), .mov (.tmp 1)⟩,
    ⟨none, (some 22), .mov (.tmp 2)⟩,
    ⟨none, (some 23), .call 43 [(.tmp 20), (.tmp 21), (.tmp 22)] [.sl 1]⟩,
    ⟨none, (some 10), .mov (.tmp 23)⟩] false)
  (.seq (.seq (.region [⟨none, (some 24), .mov (.tmp 10)⟩,
    ⟨none, (some 25), .lenL (.tmp 24)⟩,
    ⟨none, (some 26), .mov (.tmp 3)⟩,
    ⟨none, (some 27), .bin .lss (.tmp 25) (.tmp 26)⟩] false)
  (.cond (.tmp 27) (.seq (.region [⟨none, (some 8), .nilS 1⟩,
     ⟨none, (some 9), .mov (.const (.int .i64 13))⟩] false)
   .ret)
   .skip))
  (.seq (.region [⟨none, (some 28), .mov (.tmp 10)⟩,
    ⟨none, (some 29), .mov (.tmp 3)⟩,
    ⟨none, (some 30), .sliceV 1 (.tmp 28) none (some (.tmp 29))⟩,
    ⟨none, (some 8), .mov (.tmp 30)⟩,
    ⟨none, (some 9), .mov (.const (.int .i64 0))⟩] false)
  .ret)))))⟩


/-! 25: wharfage/bitmap.Take -/
def bitmap_Take.pol : Pol := { glob := [], pure := [44], heap := [], gret := [], mva := [], root := [], rs := [8, 9, 10], live := [] }
def bitmap_Take.a : AFun := ⟨4, [.tmp 8, .tmp 9, .tmp 10],
  (.seq (.region [⟨none, (some 8), .nilS 1⟩,
    ⟨none, (some 9), .mov (.const (.string ⟨#[]⟩))⟩,
    ⟨none, (some 10), .mov (.const (.int .i64 0))⟩] false)
  (.seq (.region [⟨none, (some 15), .mov (.tmp 0)⟩,
    ⟨none, (some 16), .mov (.tmp 1)⟩,
    ⟨none, (some 17), .mov (.tmp 2)⟩,
    ⟨none, (some 18), .mov (.tmp 3)⟩,
    ⟨none, (some 19), .call 23 [(.tmp 15), (.tmp 16), (.tmp 17), (.tmp 18)] [.sl 1, .int .i64]⟩,
    ⟨none, (some 14), .mov (.tmp 19)⟩,
    ⟨none, (some 20), .extract (.tmp 14) 0⟩,
    ⟨none, (some 21), .extract (.tmp 14) 1⟩,
    ⟨none, (some 11), .mov (.tmp 20)⟩,
    ⟨none, (some 12), .mov (.tmp 21)⟩] false)
  (.seq (.seq (.region [⟨none, (some 22), .mov (.tmp 12)⟩,
    ⟨none, (some 23), .bin .neq (.tmp 22) (.const (.int .i64 0))⟩] false)
  (.cond (.tmp 23) (.seq (.region [⟨none, (some 24), .mov (.tmp 12)⟩,
     ⟨none, (some 8), .nilS 1⟩,
     ⟨none, (some 9), .mov (.const (.string ⟨#[]⟩))⟩,
     ⟨none, (some 10), .mov (.tmp 24)⟩] false)
   .ret)
   .skip))
  (.seq (.region [⟨none, (some 26), .mov (.tmp 0)⟩,
    ⟨none, (some 27), .mov (.tmp 11)⟩,
    ⟨none, (some 28), .callP 44 [(.tmp 26), (.tmp 27), (.const (.bool true))] [.str, .int .i64]⟩,
    ⟨none, (some 25), .mov (.tmp 28)⟩,
    ⟨none, (some 29), .extract (.tmp 25) 0⟩,
    ⟨none, (some 30), .extract (.tmp 25) 1⟩,
    ⟨none, (some 13), .mov (.tmp 29)⟩,
    ⟨none, (some 12), .mov (.tmp 30)⟩] false)
  (.seq (.region [⟨none, (some 31), .mov (.tmp 11)⟩,
    ⟨none, (some 32), .mov (.tmp 13)⟩,
    ⟨none, (some 33), .mov (.tmp 12)⟩,
    ⟨none, (some 8), .mov (.tmp 31)⟩,
    ⟨none, (some 9), .mov (.tmp 32)⟩,
    ⟨none, (some 10), .mov (.tmp 33)⟩] false)
  .ret)))))⟩


/-! 26: wharfage/bitmap.Give -/
def bitmap_Give.pol : Pol := { glob := [], pure := [44], heap := [], gret := [], mva := [], root := [], rs := [4, 5], live := [] }
def bitmap_Give.a : AFun := ⟨2, [.tmp 4, .tmp 5],
  (.seq (.region [⟨none, (some 4), .mov (.const (.string ⟨#[]⟩))⟩,
    ⟨none, (some 5), .mov (.const (.int .i64 0))⟩] false)
  (.seq (.region [⟨none, (some 6), .mov (.tmp 0)⟩,
    ⟨none, (some 7), .mov (.tmp 1)⟩,
    ⟨none, (some 8), .callP 44 [(.tmp 6), (.tmp 7), (.const (.bool false))] [.str, .int .i64]⟩,
    ⟨none, (some 9), .extract (.tmp 8) 0⟩,
    ⟨none, (some 10), .extract (.tmp 8) 1⟩,
    ⟨none, (some 4), .mov (.tmp 9)⟩,
    ⟨none, (some 5), .mov (.tmp 10)⟩] false)
  .ret))⟩


/-! 27: wharfage/wharfageref10.Give -/
def ref10_Give.pol : Pol := { glob := [], pure := [], heap := [], gret := [], mva := [], root := [(20, 1000000), (31, 1000000), (35, 1000000)], rs := [4, 5], live := [([0, 1, 6], [0, 1]), ([0, 1, 6, 7], [0, 1, 6])] }
def ref10_Give.L1 : ACode :=
  (.seq (.seq (.region [⟨none, (some 24), .mov (.tmp 7)⟩,
    ⟨none, (some 25), .mov (.tmp 6)⟩,
    ⟨none, (some 26), .bin .lss (.tmp 24) (.tmp 25)⟩] false)
  (.cond (.tmp 26) .skip
   (.exit 2)))
  (.seq (.block 3 (.seq (.region [⟨none, (some 29), .mov (.tmp 1)⟩,
     ⟨none, (some 30), .mov (.tmp 7)⟩,
     ⟨none, (some 31), .indexAddrS 1 (.tmp 29) (.tmp 30)⟩,
     ⟨none, (some 32), .load [.int .i64] false (some 1000000) (.tmp 31)⟩,
     ⟨none, (some 33), .mov (.tmp 1)⟩,
     ⟨none, (some 34), .mov (.tmp 6)⟩,
     ⟨none, (some 35), .indexAddrS 1 (.tmp 33) (.tmp 34)⟩,
     ⟨none, (some 36), .load [.int .i64] false (some 1000000) (.tmp 35)⟩,
     ⟨none, (some 37), .bin .eql (.tmp 32) (.tmp 36)⟩] true)
   (.cond (.tmp 37) (.seq (.region [⟨none, (some 4), .mov (.const (.string ⟨#[]⟩))⟩,
      ⟨none, (some 5), .mov (.const (.int .i64 18))⟩] false)
    .ret)
    .skip)))
  (.region [⟨none, (some 27), .mov (.tmp 7)⟩,
    ⟨none, (some 28), .bin .add (.tmp 27) (.const (.int .i64 1))⟩,
    ⟨none, (some 7), .mov (.tmp 28)⟩] false)))
def ref10_Give.L0 : ACode :=
  (.seq (.seq (.region [⟨none, (some 11), .mov (.tmp 6)⟩,
    ⟨none, (some 12), .mov (.tmp 1)⟩,
    ⟨none, (some 13), .lenL (.tmp 12)⟩,
    ⟨none, (some 14), .bin .lss (.tmp 11) (.tmp 13)⟩] false)
  (.cond (.tmp 14) .skip
   (.exit 0)))
  (.seq (.block 1 (.seq (.seq (.region [⟨none, (some 17), .mov (.tmp 0)⟩,
     ⟨none, (some 18), .mov (.tmp 1)⟩,
     ⟨none, (some 19), .mov (.tmp 6)⟩,
     ⟨none, (some 20), .indexAddrS 1 (.tmp 18) (.tmp 19)⟩,
     ⟨none, (some 21), .load [.int .i64] false (some 1000000) (.tmp 20)⟩,
     ⟨none, (some 22), .call 20 [(.tmp 17), (.tmp 21)] [.bool]⟩,
     ⟨none, (some 23), .un .not (.tmp 22)⟩] false)
   (.cond (.tmp 23) (.seq (.region [⟨none, (some 4), .mov (.const (.string ⟨#[]⟩))⟩,
      ⟨none, (some 5), .mov (.const (.int .i64 18))⟩] false)
    .ret)
    .skip))
   (.seq (.region [⟨none, (some 7), .mov (.const (.int .i64 0))⟩] false)
   (.block 2 (.loop [0, 1, 6, 7] [0, 1, 6] [4, 5] ref10_Give.L1)))))
  (.region [⟨none, (some 15), .mov (.tmp 6)⟩,
    ⟨none, (some 16), .bin .add (.tmp 15) (.const (.int .i64 1))⟩,
    ⟨none, (some 6), .mov (.tmp 16)⟩] false)))
def ref10_Give.a : AFun := ⟨2, [.tmp 4, .tmp 5],
  (.seq (.region [⟨none, (some 4), .mov (.const (.string ⟨#[]⟩))⟩,
    ⟨none, (some 5), .mov (.const (.int .i64 0))⟩] false)
  (.seq (.seq (.region [⟨none, (some 8), .mov (.tmp 0)⟩,
    ⟨none, (some 9), .lenS (.tmp 8)⟩,
    ⟨none, (some 10), .bin .neq (.tmp 9) (.const (.int .i64 480))⟩] false)
  (.cond (.tmp 10) (.seq (.region [⟨none, (some 4), .mov (.const (.string ⟨#[]⟩))⟩,
     ⟨none, (some 5), .mov (.const (.int .i64 18))⟩] false)
   .ret)
   .skip))
  (.seq (.seq (.region [⟨none, (some 6), .mov (.const (.int .i64 0))⟩] false)
  (.block 0 (.loop [0, 1, 6] [0, 1] [4, 5] ref10_Give.L0)))
  (.seq (.region [⟨none, (some 38), .mov (.tmp 0)⟩,
    ⟨none, (some 39), .mov (.tmp 1)⟩,
    ⟨none, (some 40), .call 28 [(.tmp 38), (.tmp 39), (.const (.bool false))] [.str]⟩,
    ⟨none, (some 4), .mov (.tmp 40)⟩,
    ⟨none, (some 5), .mov (.const (.int .i64 0))⟩] false)
  .ret))))⟩
def ref10_Give.R0 (C : CallF) (N : Nat) := round (evalC C N ref10_Give.L0) [0, 1, 6] [0, 1] [4, 5]
def ref10_Give.K0 (C : CallF) (N : Nat) : Ex → St → R := contC C N [.snd, .snd, .fst, .snd, .blk] ref10_Give.a.body (finish ref10_Give.a)
def ref10_Give.R1 (C : CallF) (N : Nat) := round (evalC C N ref10_Give.L1) [0, 1, 6, 7] [0, 1, 6] [4, 5]
def ref10_Give.K1 (C : CallF) (N : Nat) (k : Ex → St → R) : Ex → St → R := contC C N [.snd, .fst, .blk, .snd, .snd, .blk] ref10_Give.L0 (rndK [0, 1, 6] [0, 1] [4, 5] k)


/-! 28: wharfage/wharfageref10.All -/
def ref10_All.pol : Pol := { glob := [], pure := [], heap := [], gret := [], mva := [], root := [(18, 1000000)], rs := [6], live := [([0, 1, 2, 7], [0])] }
def ref10_All.L0 : ACode :=
  (.seq (.seq (.region [⟨none, (some 8), .mov (.tmp 7)⟩,
    ⟨none, (some 9), .mov (.tmp 1)⟩,
    ⟨none, (some 10), .lenL (.tmp 9)⟩,
    ⟨none, (some 11), .bin .lss (.tmp 8) (.tmp 10)⟩] false)
  (.cond (.tmp 11) .skip
   (.exit 0)))
  (.seq (.block 1 (.region [⟨none, (some 15), .mov (.tmp 0)⟩,
     ⟨none, (some 16), .mov (.tmp 1)⟩,
     ⟨none, (some 17), .mov (.tmp 7)⟩,
     ⟨none, (some 18), .indexAddrS 1 (.tmp 16) (.tmp 17)⟩,
     ⟨none, (some 19), .load [.int .i64] false (some 1000000) (.tmp 18)⟩,
     ⟨none, (some 20), .mov (.tmp 2)⟩,
     ⟨none, (some 21), .call 18 [(.tmp 15), (.tmp 19), (.tmp 20)] [.str, .int .i64]⟩,
     ⟨none, (some 14), .mov (.tmp 21)⟩,
     ⟨none, (some 22), .extract (.tmp 14) 0⟩,
     ⟨none, (some 23), .extract (.tmp 14) 1⟩,
     ⟨none, (some 0), .mov (.tmp 22)⟩] false))
  (.region [⟨none, (some 12), .mov (.tmp 7)⟩,
    ⟨none, (some 13), .bin .add (.tmp 12) (.const (.int .i64 1))⟩,
    ⟨none, (some 7), .mov (.tmp 13)⟩] false)))
def ref10_All.a : AFun := ⟨3, [.tmp 6],
  (.seq (.region [⟨none, (some 6), .mov (.const (.string ⟨#[]⟩))⟩] false)
  (.seq (.seq (.region [⟨none, (some 7), .mov (.const (.int .i64 0))⟩] false)
  (.block 0 (.loop [0, 1, 2, 7] [0] [6] ref10_All.L0)))
  (.seq (.region [⟨none, (some 24), .mov (.tmp 0)⟩,
    ⟨none, (some 6), .mov (.tmp 24)⟩] false)
  .ret)))⟩
def ref10_All.R0 (C : CallF) (N : Nat) := round (evalC C N ref10_All.L0) [0, 1, 2, 7] [0] [6]
def ref10_All.K0 (C : CallF) (N : Nat) : Ex → St → R := contC C N [.snd, .fst, .snd, .blk] ref10_All.a.body (finish ref10_All.a)


/-! 29: wharfage/wharfageref10.Same -/
def ref10_Same.pol : Pol := { glob := [], pure := [], heap := [], gret := [], mva := [], root := [(19, 1000000), (23, 1000000)], rs := [4], live := [([0, 1, 5], [])] }
def ref10_Same.L0 : ACode :=
  (.seq (.seq (.region [⟨none, (some 11), .mov (.tmp 5)⟩,
    ⟨none, (some 12), .mov (.tmp 0)⟩,
    ⟨none, (some 13), .lenL (.tmp 12)⟩,
    ⟨none, (some 14), .bin .lss (.tmp 11) (.tmp 13)⟩] false)
  (.cond (.tmp 14) .skip
   (.exit 0)))
  (.seq (.block 1 (.seq (.region [⟨none, (some 17), .mov (.tmp 0)⟩,
     ⟨none, (some 18), .mov (.tmp 5)⟩,
     ⟨none, (some 19), .indexAddrS 1 (.tmp 17) (.tmp 18)⟩,
     ⟨none, (some 20), .load [.int .i64] false (some 1000000) (.tmp 19)⟩,
     ⟨none, (some 21), .mov (.tmp 1)⟩,
     ⟨none, (some 22), .mov (.tmp 5)⟩,
     ⟨none, (some 23), .indexAddrS 1 (.tmp 21) (.tmp 22)⟩,
     ⟨none, (some 24), .load [.int .i64] false (some 1000000) (.tmp 23)⟩,
     ⟨none, (some 25), .bin .neq (.tmp 20) (.tmp 24)⟩] true)
   (.cond (.tmp 25) (.seq (.region [⟨none, (some 4), .mov (.const (.bool false))⟩] false)
    .ret)
    .skip)))
  (.region [⟨none, (some 15), .mov (.tmp 5)⟩,
    ⟨none, (some 16), .bin .add (.tmp 15) (.const (.int .i64 1))⟩,
    ⟨none, (some 5), .mov (.tmp 16)⟩] false)))
def ref10_Same.a : AFun := ⟨2, [.tmp 4],
  (.seq (.region [⟨none, (some 4), .mov (.const (.bool false))⟩] false)
  (.seq (.seq (.region [⟨none, (some 6), .mov (.tmp 0)⟩,
    ⟨none, (some 7), .lenL (.tmp 6)⟩,
    ⟨none, (some 8), .mov (.tmp 1)⟩,
    ⟨none, (some 9), .lenL (.tmp 8)⟩,
    ⟨none, (some 10), .bin .neq (.tmp 7) (.tmp 9)⟩] false)
  (.cond (.tmp 10) (.seq (.region [⟨none, (some 4), .mov (.const (.bool false))⟩] false)
   .ret)
   .skip))
  (.seq (.seq (.region [⟨none, (some 5), .mov (.const (.int .i64 0))⟩] false)
  (.block 0 (.loop [0, 1, 5] [] [4] ref10_Same.L0)))
  (.seq (.region [⟨none, (some 4), .mov (.const (.bool true))⟩] false)
  .ret))))⟩
def ref10_Same.R0 (C : CallF) (N : Nat) := round (evalC C N ref10_Same.L0) [0, 1, 5] [] [4]
def ref10_Same.K0 (C : CallF) (N : Nat) : Ex → St → R := contC C N [.snd, .snd, .fst, .snd, .blk] ref10_Same.a.body (finish ref10_Same.a)


/-! 30: wharfage/bitmap.Spans -/
def bitmap_Spans.pol : Pol := { glob := [], pure := [], heap := [49], gret := [45], mva := [], root := [], rs := [6], live := [([7, 22, 23, 24], [7])] }
def bitmap_Spans.L0 : ACode :=
  (.seq (.region [⟨none, (some 25), .bin .lss (.tmp 24) (.tmp 23)⟩] false)
  (.seq (.cond (.tmp 25) .skip
   (.exit 0))
  (.seq (.block 1 (.seq (.region [⟨none, (some 26), .indexAddrS 1 (.tmp 22) (.tmp 24)⟩,
     ⟨none, (some 27), .load [.int .i64] false none (.tmp 26)⟩,
     ⟨none, (some 9), .mov (.tmp 27)⟩] false)
   (.seq (.seq (.region [⟨none, (some 28), .mov (.tmp 7)⟩,
     ⟨none, (some 29), .lenL (.tmp 28)⟩,
     ⟨none, (some 10), .mov (.tmp 29)⟩] false)
   (.seq (.region [⟨none, (some 30), .mov (.tmp 10)⟩,
     ⟨none, (some 31), .bin .gtr (.tmp 30) (.const (.int .i64 0))⟩,
     ⟨none, (some 32), .mov (.tmp 31)⟩,
     ⟨some (32, true), (some 33), .mov (.tmp 7)⟩,
     ⟨some (32, true), (some 34), .mov (.tmp 10)⟩,
     ⟨some (32, true), (some 35), .bin .sub (.tmp 34) (.const (.int .i64 1))⟩,
     ⟨some (32, true), (some 36), .indexAddrS 2 (.tmp 33) (.tmp 35)⟩,
     ⟨some (32, true), (some 37), .indexAddrA 2 1 (.tmp 36) (.const (.int .i64 1))⟩,
     ⟨some (32, true), (some 38), .load [.int .i64] false none (.tmp 37)⟩,
     ⟨some (32, true), (some 39), .mov (.tmp 9)⟩,
     ⟨some (32, true), (some 40), .bin .eql (.tmp 38) (.tmp 39)⟩,
     ⟨none, (some 41), .pick (.tmp 32) (.tmp 40) (.const (.bool false))⟩] false)
   (.cond (.tmp 41) (.seq (.region [⟨none, (some 42), .mov (.tmp 7)⟩,
      ⟨none, (some 43), .mov (.tmp 10)⟩,
      ⟨none, (some 44), .bin .sub (.tmp 43) (.const (.int .i64 1))⟩,
      ⟨none, (some 45), .mov (.tmp 9)⟩,
      ⟨none, (some 46), .bin .add (.tmp 45) (.const (.int .i64 1))⟩,
      ⟨none, (some 47), .indexAddrS 2 (.tmp 42) (.tmp 44)⟩,
      ⟨none, (some 48), .indexAddrA 2 1 (.tmp 47) (.const (.int .i64 1))⟩,
      ⟨none, none, .store 1 none (.tmp 48) (.tmp 46)⟩] false)
    (.exit 1))
    .skip)))
   (.region [⟨none, (some 49), .mov (.tmp 7)⟩,
     ⟨none, (some 50), .mov (.tmp 9)⟩,
     ⟨none, (some 51), .mov (.tmp 9)⟩,
     ⟨none, (some 52), .bin .add (.tmp 51) (.const (.int .i64 1))⟩,
     ⟨none, (some 53), .build [(.at (.int .i64 0)), (.at (.int .i64 0))] [(0, 1, (.tmp 50)), (1, 1, (.tmp 52))]⟩,
     ⟨none, (some 54), .buildSl 2 [(.tmp 53)]⟩,
     ⟨none, (some 55), .appendG 2 16 (.tmp 49) (.tmp 54)⟩,
     ⟨none, (some 7), .mov (.tmp 55)⟩] false))))
  (.region [⟨none, (some 56), .bin .add (.tmp 24) (.const (.int .i64 1))⟩,
    ⟨none, (some 24), .mov (.tmp 56)⟩] false))))
def bitmap_Spans.a : AFun := ⟨3, [.tmp 6],
  (.seq (.region [⟨none, (some 6), .nilS 2⟩] false)
  (.seq (.seq (.region [⟨none, (some 11), .mov (.tmp 0)⟩,
    ⟨none, (some 12), .mov (.tmp 1)⟩,
    ⟨none, (some 13), .mov (.tmp 2)⟩,
    ⟨none, (some 14), .call 40 [(.tmp 11), (.tmp 12), (.tmp 13)] [.bool]⟩,
    ⟨none, (some 15), .un .not (.tmp 14)⟩] false)
  (.cond (.tmp 15) (.seq (.region [⟨none, (some 6), .nilS 2⟩] false)
   .ret)
   .skip))
  (.seq (.region [⟨none, (some 7), .nilS 2⟩] false)
  (.seq (.seq (.region [⟨none, (some 16), .mov (.tmp 0)⟩,
    ⟨none, (some 17), .mov (.tmp 1)⟩,
    ⟨none, (some 18), .mov (.tmp 2)⟩,
    ⟨none, (some 19), .mov (.tmp 2)⟩,
    ⟨none, (some 20), .mov (.tmp 1)⟩,
    ⟨none, (some 21), .bin .sub (.tmp 19) (.tmp 20)⟩,
    ⟨none, (some 22), .call 41 [(.tmp 16), (.tmp 17), (.tmp 18), (.tmp 21)] [.sl 1]⟩,
    ⟨none, (some 23), .lenL (.tmp 22)⟩,
    ⟨none, (some 24), .mov (.const (.int .i64 0))⟩] false)
  (.block 0 (.loop [7, 22, 23, 24] [7] [6] bitmap_Spans.L0)))
  (.seq (.region [⟨none, (some 57), .mov (.tmp 7)⟩,
    ⟨none, (some 58), .call 45 [(.tmp 57)] [.any]⟩,
    ⟨none, (some 6), .mov (.tmp 58)⟩] false)
  .ret)))))⟩
def bitmap_Spans.R0 (C : CallF) (N : Nat) := round (evalC C N bitmap_Spans.L0) [7, 22, 23, 24] [7] [6]
def bitmap_Spans.K0 (C : CallF) (N : Nat) : Ex → St → R := contC C N [.snd, .snd, .snd, .fst, .snd, .blk] bitmap_Spans.a.body (finish bitmap_Spans.a)


/-! 31: wharfage/wharfageref10.Spans -/
def ref10_Spans.pol : Pol := { glob := [], pure := [], heap := [], gret := [], mva := [7, 38], root := [], rs := [6], live := [([0, 2, 7, 8], [7]), ([0, 2, 7, 8, 9], [0, 2, 7, 8, 9])] }
def ref10_Spans.L1 : ACode :=
  (.seq (.seq (.region [⟨none, (some 27), .mov (.tmp 9)⟩,
    ⟨none, (some 28), .mov (.tmp 2)⟩,
    ⟨none, (some 29), .bin .lss (.tmp 27) (.tmp 28)⟩,
    ⟨none, (some 30), .mov (.tmp 29)⟩,
    ⟨some (30, true), (some 31), .mov (.tmp 0)⟩,
    ⟨some (30, true), (some 32), .mov (.tmp 9)⟩,
    ⟨some (30, true), (some 33), .call 20 [(.tmp 31), (.tmp 32)] [.bool]⟩,
    ⟨some (30, true), (some 34), .un .not (.tmp 33)⟩,
    ⟨none, (some 35), .pick (.tmp 30) (.tmp 34) (.const (.bool false))⟩] false)
  (.cond (.tmp 35) .skip
   (.exit 2)))
  (.block 3 (.region [⟨none, (some 36), .mov (.tmp 9)⟩,
     ⟨none, (some 37), .bin .add (.tmp 36) (.const (.int .i64 1))⟩,
     ⟨none, (some 9), .mov (.tmp 37)⟩] false)))
def ref10_Spans.L0 : ACode :=
  (.seq (.seq (.region [⟨none, (some 18), .mov (.tmp 8)⟩,
    ⟨none, (some 19), .mov (.tmp 2)⟩,
    ⟨none, (some 20), .bin .lss (.tmp 18) (.tmp 19)⟩] false)
  (.cond (.tmp 20) .skip
   (.exit 0)))
  (.seq (.block 1 (.seq (.seq (.region [⟨none, (some 23), .mov (.tmp 0)⟩,
     ⟨none, (some 24), .mov (.tmp 8)⟩,
     ⟨none, (some 25), .call 20 [(.tmp 23), (.tmp 24)] [.bool]⟩] false)
   (.cond (.tmp 25) (.exit 1)
    .skip))
   (.seq (.region [⟨none, (some 26), .mov (.tmp 8)⟩,
     ⟨none, (some 9), .mov (.tmp 26)⟩] false)
   (.seq (.block 2 (.loop [0, 2, 7, 8, 9] [0, 2, 7, 8, 9] [6] ref10_Spans.L1))
   (.seq (.region [⟨none, (some 38), .movA 7⟩,
     ⟨none, (some 39), .mov (.tmp 8)⟩,
     ⟨none, (some 40), .mov (.tmp 9)⟩,
     ⟨none, (some 41), .build [(.at (.int .i64 0)), (.at (.int .i64 0))] [(0, 1, (.tmp 39)), (1, 1, (.tmp 40))]⟩,
     ⟨none, (some 42), .buildSl 2 [(.tmp 41)]⟩,
     ⟨none, (some 43), .append 2 16 38 (.tmp 42)⟩,
     ⟨none, (some 7), .movA 43⟩] false)
   (.region [⟨none, (some 44), .mov (.tmp 9)⟩,
     ⟨none, (some 8), .mov (.tmp 44)⟩] false))))))
  (.region [⟨none, (some 21), .mov (.tmp 8)⟩,
    ⟨none, (some 22), .bin .add (.tmp 21) (.const (.int .i64 1))⟩,
    ⟨none, (some 8), .mov (.tmp 22)⟩] false)))
def ref10_Spans.a : AFun := ⟨3, [.tmp 6],
  (.seq (.region [⟨none, (some 6), .nilS 2⟩] false)
  (.seq (.region [⟨none, (some 10), .buildSl 2 []⟩,
    ⟨none, (some 7), .movA 10⟩] false)
  (.seq (.seq (.region [⟨none, (some 11), .mov (.tmp 0)⟩,
    ⟨none, (some 12), .mov (.tmp 1)⟩,
    ⟨none, (some 13), .mov (.tmp 2)⟩,
    ⟨none, (some 14), .call 42 [(.tmp 11), (.tmp 12), (.tmp 13)] [.bool]⟩,
    ⟨none, (some 15), .un .not (.tmp 14)⟩] false)
  (.cond (.tmp 15) (.seq (.region [⟨none, (some 16), .mov (.tmp 7)⟩,
     ⟨none, (some 6), .mov (.tmp 16)⟩] false)
   .ret)
   .skip))
  (.seq (.seq (.region [⟨none, (some 17), .mov (.tmp 1)⟩,
    ⟨none, (some 8), .mov (.tmp 17)⟩] false)
  (.block 0 (.loop [0, 2, 7, 8] [7] [6] ref10_Spans.L0)))
  (.seq (.region [⟨none, (some 45), .mov (.tmp 7)⟩,
    ⟨none, (some 6), .mov (.tmp 45)⟩] false)
  .ret)))))⟩
def ref10_Spans.R0 (C : CallF) (N : Nat) := round (evalC C N ref10_Spans.L0) [0, 2, 7, 8] [7] [6]
def ref10_Spans.K0 (C : CallF) (N : Nat) : Ex → St → R := contC C N [.snd, .snd, .snd, .fst, .snd, .blk] ref10_Spans.a.body (finish ref10_Spans.a)
def ref10_Spans.R1 (C : CallF) (N : Nat) := round (evalC C N ref10_Spans.L1) [0, 2, 7, 8, 9] [0, 2, 7, 8, 9] [6]
def ref10_Spans.K1 (C : CallF) (N : Nat) (k : Ex → St → R) : Ex → St → R := contC C N [.snd, .fst, .blk, .snd, .snd, .fst, .blk] ref10_Spans.L0 (rndK [0, 2, 7, 8] [7] [6] k)


/-! 37: wharfage/bitmap.is -/
def bitmap_is.pol : Pol := { glob := [], pure := [], heap := [], gret := [], mva := [], root := [], rs := [2], live := [] }
def bitmap_is.a : AFun := ⟨1, [.tmp 2],
  (.seq (.region [⟨none, (some 2), .mov (.const (.bool false))⟩] false)
  (.seq (.region [⟨none, (some 3), .mov (.tmp 0)⟩,
    ⟨none, (some 4), .lenS (.tmp 3)⟩,
    ⟨none, (some 5), .bin .eql (.tmp 4) (.const (.int .i64 480))⟩,
    ⟨none, (some 2), .mov (.tmp 5)⟩] false)
  .ret))⟩


/-! 38: wharfage/bitmap.page -/
def bitmap_page.pol : Pol := { glob := [], pure := [], heap := [], gret := [], mva := [], root := [], rs := [2], live := [] }
def bitmap_page.a : AFun := ⟨1, [.tmp 2],
  (.seq (.region [⟨none, (some 2), .mov (.const (.bool false))⟩] false)
  (.seq (.region [⟨none, (some 3), .mov (.tmp 0)⟩,
    ⟨none, (some 4), .bin .geq (.tmp 3) (.const (.int .i64 0))⟩,
    ⟨none, (some 5), .mov (.tmp 4)⟩,
    ⟨some (5, true), (some 6), .mov (.tmp 0)⟩,
    ⟨some (5, true), (some 7), .bin .lss (.tmp 6) (.const (.int .i64 3840))⟩,
    ⟨none, (some 8), .pick (.tmp 5) (.tmp 7) (.const (.bool false))⟩,
    ⟨none, (some 2), .mov (.tmp 8)⟩] false)
  .ret))⟩


/-! 39: math/bits.OnesCount8 -/
def math_bits_OnesCount8.pol : Pol := { glob := [], pure := [], heap := [], gret := [], mva := [], root := [], rs := [2], live := [] }
def math_bits_OnesCount8.a : AFun := ⟨1, [.tmp 2],
  (.seq (.region [⟨none, (some 2), .mov (.const (.int .i64 0))⟩] false)
  (.seq (.region [⟨none, (some 3), .mov (.tmp 0)⟩,
    ⟨none, (some 4), .indexS (.const (.string ⟨#[0, 1, 1, 2, 1, 2, 2, 3, 1, 2, 2, 3, 2, 3, 3, 4, 1, 2, 2, 3, 2, 3, 3, 4, 2, 3, 3, 4, 3, 4, 4, 5, 1, 2, 2, 3, 2, 3, 3, 4, 2, 3, 3, 4, 3, 4, 4, 5, 2, 3, 3, 4, 3, 4, 4, 5, 3, 4, 4, 5, 4, 5, 5, 6, 1, 2, 2, 3, 2, 3, 3, 4, 2, 3, 3, 4, 3, 4, 4, 5, 2, 3, 3, 4, 3, 4, 4, 5, 3, 4, 4, 5, 4, 5, 5, 6, 2, 3, 3, 4, 3, 4, 4, 5, 3, 4, 4, 5, 4, 5, 5, 6, 3, 4, 4, 5, 4, 5, 5, 6, 4, 5, 5, 6, 5, 6, 6, 7, 1, 2, 2, 3, 2, 3, 3, 4, 2, 3, 3, 4, 3, 4, 4, 5, 2, 3, 3, 4, 3, 4, 4, 5, 3, 4, 4, 5, 4, 5, 5, 6, 2, 3, 3, 4, 3, 4, 4, 5, 3, 4, 4, 5, 4, 5, 5, 6, 3, 4, 4, 5, 4, 5, 5, 6, 4, 5, 5, 6, 5, 6, 6, 7, 2, 3, 3, 4, 3, 4, 4, 5, 3, 4, 4, 5, 4, 5, 5, 6, 3, 4, 4, 5, 4, 5, 5, 6, 4, 5, 5, 6, 5, 6, 6, 7, 3, 4, 4, 5, 4, 5, 5, 6, 4, 5, 5, 6, 5, 6, 6, 7, 4, 5, 5, 6, 5, 6, 6, 7, 5, 6, 6, 7, 6, 7, 7, 8]⟩)) (.tmp 3)⟩,
    ⟨none, (some 5), .convI .i64 (.tmp 4)⟩,
    ⟨none, (some 2), .mov (.tmp 5)⟩] false)
  .ret))⟩


/-! 40: wharfage/bitmap.within -/
def bitmap_within.pol : Pol := { glob := [], pure := [], heap := [], gret := [], mva := [], root := [], rs := [6], live := [] }
def bitmap_within.a : AFun := ⟨3, [.tmp 6],
  (.seq (.region [⟨none, (some 6), .mov (.const (.bool false))⟩] false)
  (.seq (.region [⟨none, (some 7), .mov (.tmp 0)⟩,
    ⟨none, (some 8), .call 37 [(.tmp 7)] [.bool]⟩,
    ⟨none, (some 9), .mov (.tmp 8)⟩,
    ⟨some (9, true), (some 10), .mov (.tmp 1)⟩,
    ⟨some (9, true), (some 11), .bin .geq (.tmp 10) (.const (.int .i64 0))⟩,
    ⟨none, (some 12), .pick (.tmp 9) (.tmp 11) (.const (.bool false))⟩,
    ⟨none, (some 13), .mov (.tmp 12)⟩,
    ⟨some (13, true), (some 14), .mov (.tmp 1)⟩,
    ⟨some (13, true), (some 15), .mov (.tmp 2)⟩,
    ⟨some (13, true), (some 16), .bin .leq (.tmp 14) (.tmp 15)⟩,
    ⟨none, (some 17), .pick (.tmp 13) (.tmp 16) (.const (.bool false))⟩,
    ⟨none, (some 18), .mov (.tmp 17)⟩,
    ⟨some (18, true), (some 19), .mov (.tmp 2)⟩,
    ⟨some (18, true), (some 20), .bin .leq (.tmp 19) (.const (.int .i64 3840))⟩,
    ⟨none, (some 21), .pick (.tmp 18) (.tmp 20) (.const (.bool false))⟩,
    ⟨none, (some 6), .mov (.tmp 21)⟩] false)
  .ret))⟩


/-! 41: wharfage/bitmap.free -/
def bitmap_free.pol : Pol := { glob := [], pure := [], heap := [], gret := [], mva := [9, 27], root := [], rs := [8], live := [([0, 2, 3, 9, 10], [9])] }
def bitmap_free.L0 : ACode :=
  (.seq (.seq (.region [⟨none, (some 12), .mov (.tmp 10)⟩,
    ⟨none, (some 13), .mov (.tmp 2)⟩,
    ⟨none, (some 14), .bin .lss (.tmp 12) (.tmp 13)⟩,
    ⟨none, (some 15), .mov (.tmp 14)⟩,
    ⟨some (15, true), (some 16), .mov (.tmp 9)⟩,
    ⟨some (15, true), (some 17), .lenL (.tmp 16)⟩,
    ⟨some (15, true), (some 18), .mov (.tmp 3)⟩,
    ⟨some (15, true), (some 19), .bin .lss (.tmp 17) (.tmp 18)⟩,
    ⟨none, (some 20), .pick (.tmp 15) (.tmp 19) (.const (.bool false))⟩] false)
  (.cond (.tmp 20) .skip
   (.exit 0)))
  (.seq (.block 1 (.seq (.region [⟨none, (some 23), .mov (.tmp 0)⟩,
     ⟨none, (some 24), .mov (.tmp 10)⟩,
     ⟨none, (some 25), .call 19 [(.tmp 23), (.tmp 24)] [.bool]⟩,
     ⟨none, (some 26), .un .not (.tmp 25)⟩] false)
   (.cond (.tmp 26) (.region [⟨none, (some 27), .movA 9⟩,
      ⟨none, (some 28), .mov (.tmp 10)⟩,
      ⟨none, (some 29), .buildSl 1 [(.tmp 28)]⟩,
      ⟨none, (some 30), .append 1 8 27 (.tmp 29)⟩,
      ⟨none, (some 9), .movA 30⟩] false)
    .skip)))
  (.region [⟨none, (some 21), .mov (.tmp 10)⟩,
    ⟨none, (some 22), .bin .add (.tmp 21) (.const (.int .i64 1))⟩,
    ⟨none, (some 10), .mov (.tmp 22)⟩] false)))
def bitmap_free.a : AFun := ⟨4, [.tmp 8],
  (.seq (.region [⟨none, (some 8), .nilS 1⟩] false)
  (.seq (.region [⟨none, (some 9), .nilS 1⟩] false)
  (.seq (.seq (.region [⟨none, (some 11), .mov (.tmp 1)⟩,
    ⟨none, (some 10), .mov (.tmp 11)⟩] false)
  (.block 0 (.loop [0, 2, 3, 9, 10] [9] [8] bitmap_free.L0)))
  (.seq (.region [⟨none, (some 31), .mov (.tmp 9)⟩,
    ⟨none, (some 8), .mov (.tmp 31)⟩] false)
  .ret))))⟩
def bitmap_free.R0 (C : CallF) (N : Nat) := round (evalC C N bitmap_free.L0) [0, 2, 3, 9, 10] [9] [8]
def bitmap_free.K0 (C : CallF) (N : Nat) : Ex → St → R := contC C N [.snd, .snd, .fst, .snd, .blk] bitmap_free.a.body (finish bitmap_free.a)


/-! 42: wharfage/wharfageref10.Within -/
def ref10_Within.pol : Pol := { glob := [], pure := [], heap := [], gret := [], mva := [], root := [], rs := [6], live := [] }
def ref10_Within.a : AFun := ⟨3, [.tmp 6],
  (.seq (.region [⟨none, (some 6), .mov (.const (.bool false))⟩] false)
  (.seq (.region [⟨none, (some 7), .mov (.tmp 0)⟩,
    ⟨none, (some 8), .lenS (.tmp 7)⟩,
    ⟨none, (some 9), .bin .eql (.tmp 8) (.const (.int .i64 480))⟩,
    ⟨none, (some 10), .mov (.tmp 9)⟩,
    ⟨some (10, true), (some 11), .mov (.tmp 1)⟩,
    ⟨some (10, true), (some 12), .bin .geq (.tmp 11) (.const (.int .i64 0))⟩,
    ⟨none, (some 13), .pick (.tmp 10) (.tmp 12) (.const (.bool false))⟩,
    ⟨none, (some 14), .mov (.tmp 13)⟩,
    ⟨some (14, true), (some 15), .mov (.tmp 1)⟩,
    ⟨some (14, true), (some 16), .mov (.tmp 2)⟩,
    ⟨some (14, true), (some 17), .bin .leq (.tmp 15) (.tmp 16)⟩,
    ⟨none, (some 18), .pick (.tmp 14) (.tmp 17) (.const (.bool false))⟩,
    ⟨none, (some 19), .mov (.tmp 18)⟩,
    ⟨some (19, true), (some 20), .mov (.tmp 2)⟩,
    ⟨some (19, true), (some 21), .bin .leq (.tmp 20) (.const (.int .i64 3840))⟩,
    ⟨none, (some 22), .pick (.tmp 19) (.tmp 21) (.const (.bool false))⟩,
    ⟨none, (some 6), .mov (.tmp 22)⟩] false)
  .ret))⟩


/-! 43: wharfage/wharfageref10.Free -/
def ref10_Free.pol : Pol := { glob := [], pure := [], heap := [], gret := [], mva := [7, 20], root := [], rs := [6], live := [([0, 2, 7, 8], [7])] }
def ref10_Free.L0 : ACode :=
  (.seq (.seq (.region [⟨none, (some 11), .mov (.tmp 8)⟩,
    ⟨none, (some 12), .mov (.tmp 2)⟩,
    ⟨none, (some 13), .bin .lss (.tmp 11) (.tmp 12)⟩] false)
  (.cond (.tmp 13) .skip
   (.exit 0)))
  (.seq (.block 1 (.seq (.region [⟨none, (some 16), .mov (.tmp 0)⟩,
     ⟨none, (some 17), .mov (.tmp 8)⟩,
     ⟨none, (some 18), .call 20 [(.tmp 16), (.tmp 17)] [.bool]⟩,
     ⟨none, (some 19), .un .not (.tmp 18)⟩] false)
   (.cond (.tmp 19) (.region [⟨none, (some 20), .movA 7⟩,
      ⟨none, (some 21), .mov (.tmp 8)⟩,
      ⟨none, (some 22), .buildSl 1 [(.tmp 21)]⟩,
      ⟨none, (some 23), .append 1 8 20 (.tmp 22)⟩,
      ⟨none, (some 7), .movA 23⟩] false)
    .skip)))
  (.region [⟨none, (some 14), .mov (.tmp 8)⟩,
    ⟨none, (some 15), .bin .add (.tmp 14) (.const (.int .i64 1))⟩,
    ⟨none, (some 8), .mov (.tmp 15)⟩] false)))
def ref10_Free.a : AFun := ⟨3, [.tmp 6],
  (.seq (.region [⟨none, (some 6), .nilS 1⟩] false)
  (.seq (.region [⟨none, (some 9), .buildSl 1 []⟩,
    ⟨none, (some 7), .movA 9⟩] false)
  (.seq (.seq (.region [⟨none, (some 10), .mov (.tmp 1)⟩,
    ⟨none, (some 8), .mov (.tmp 10)⟩] false)
  (.block 0 (.loop [0, 2, 7, 8] [7] [6] ref10_Free.L0)))
  (.seq (.region [⟨none, (some 24), .mov (.tmp 7)⟩,
    ⟨none, (some 6), .mov (.tmp 24)⟩] false)
  .ret))))⟩
def ref10_Free.R0 (C : CallF) (N : Nat) := round (evalC C N ref10_Free.L0) [0, 2, 7, 8] [7] [6]
def ref10_Free.K0 (C : CallF) (N : Nat) : Ex → St → R := contC C N [.snd, .snd, .fst, .snd, .blk] ref10_Free.a.body (finish ref10_Free.a)


/-! 44: wharfage/bitmap.turn -/
def bitmap_turn.pol : Pol := { glob := [3, 5], pure := [17, 37], heap := [], gret := [], mva := [], root := [], rs := [6, 7], live := [([3, 5, 8, 13, 14, 15], [3])] }
def bitmap_turn.L0 : ACode :=
  (.seq (.region [⟨none, (some 16), .bin .lss (.tmp 15) (.tmp 14)⟩] false)
  (.seq (.cond (.tmp 16) .skip
   (.exit 0))
  (.seq (.block 1 (.seq (.region [⟨none, (some 17), .indexAddrS 1 (.tmp 13) (.tmp 15)⟩,
     ⟨none, (some 18), .load [.int .i64] false none (.tmp 17)⟩,
     ⟨none, (some 10), .mov (.tmp 18)⟩] false)
   (.seq (.seq (.region [⟨none, (some 19), .mov (.tmp 8)⟩,
     ⟨none, (some 20), .mov (.tmp 10)⟩,
     ⟨none, (some 21), .callV (.tmp 19) [(.tmp 20)] [.bool]⟩] false)
   (.cond (.tmp 21) (.seq (.region [⟨none, (some 6), .mov (.const (.string ⟨#[]⟩))⟩,
      ⟨none, (some 7), .mov (.const (.int .i64 18))⟩] false)
    .ret)
    .skip))
   (.seq (.region [⟨none, (some 11), .mov (.const (.int .i64 0))⟩] false)
   (.seq (.region [⟨none, (some 23), .load [.str] false none (.tmp 3)⟩,
     ⟨none, (some 24), .mov (.tmp 10)⟩,
     ⟨none, (some 25), .load [.bool] false none (.tmp 5)⟩,
     ⟨none, (some 26), .callP 17 [(.tmp 23), (.tmp 24), (.tmp 25)] [.str, .int .i64]⟩,
     ⟨none, (some 22), .mov (.tmp 26)⟩,
     ⟨none, (some 27), .extract (.tmp 22) 0⟩,
     ⟨none, (some 28), .extract (.tmp 22) 1⟩,
     ⟨none, none, .store 1 none (.tmp 3) (.tmp 27)⟩,
     ⟨none, (some 11), .mov (.tmp 28)⟩] false)
   (.seq (.region [⟨none, (some 29), .mov (.tmp 11)⟩,
     ⟨none, (some 30), .bin .neq (.tmp 29) (.const (.int .i64 0))⟩] false)
   (.cond (.tmp 30) (.seq (.region [⟨none, (some 31), .mov (.tmp 11)⟩,
      ⟨none, (some 6), .mov (.const (.string ⟨#[]⟩))⟩,
      ⟨none, (some 7), .mov (.tmp 31)⟩] false)
    .ret)
    .skip)))))))
  (.region [⟨none, (some 32), .bin .add (.tmp 15) (.const (.int .i64 1))⟩,
    ⟨none, (some 15), .mov (.tmp 32)⟩] false))))
def bitmap_turn.a : AFun := ⟨3, [.tmp 6, .tmp 7],
  (.seq (.region [⟨none, (some 3), .boxG (.tmp 0)⟩,
    ⟨none, (some 5), .boxG (.tmp 2)⟩,
    ⟨none, (some 6), .mov (.const (.string ⟨#[]⟩))⟩,
    ⟨none, (some 7), .mov (.const (.int .i64 0))⟩] false)
  (.seq (.region [⟨none, (some 12), .makeFunc 46 [] [(.tmp 3), (.tmp 5)]⟩,
    ⟨none, (some 8), .mov (.tmp 12)⟩] false)
  (.seq (.seq (.region [⟨none, (some 13), .mov (.tmp 1)⟩,
    ⟨none, (some 14), .lenL (.tmp 13)⟩,
    ⟨none, (some 15), .mov (.const (.int .i64 0))⟩] false)
  (.block 0 (.loop [3, 5, 8, 13, 14, 15] [3] [6, 7] bitmap_turn.L0)))
  (.seq (.seq (.region [⟨none, (some 33), .load [.str] false none (.tmp 3)⟩,
    ⟨none, (some 34), .callP 37 [(.tmp 33)] [.bool]⟩,
    ⟨none, (some 35), .un .not (.tmp 34)⟩] false)
  (.cond (.tmp 35) (.seq (.region [⟨none, (some 6), .mov (.const (.string ⟨#[]⟩))⟩,
     ⟨none, (some 7), .mov (.const (.int .i64 18))⟩] false)
   .ret)
   .skip))
  (.seq (.region [⟨none, (some 36), .load [.str] false none (.tmp 3)⟩,
    ⟨none, (some 6), .mov (.tmp 36)⟩,
    ⟨none, (some 7), .mov (.const (.int .i64 0))⟩] false)
  .ret)))))⟩
def bitmap_turn.R0 (C : CallF) (N : Nat) := round (evalC C N bitmap_turn.L0) [3, 5, 8, 13, 14, 15] [3] [6, 7]
def bitmap_turn.K0 (C : CallF) (N : Nat) : Ex → St → R := contC C N [.snd, .snd, .fst, .snd, .blk] bitmap_turn.a.body (finish bitmap_turn.a)


/-! 45: slices.Clip[[][2]int,[2]int] -/
def slices_Clip_2int_2int.pol : Pol := { glob := [], pure := [], heap := [], gret := [], mva := [], root := [], rs := [2], live := [] }
def slices_Clip_2int_2int.a : AFun := ⟨1, [.tmp 2],
  (.seq (.region [⟨none, (some 2), .nilS 2⟩] false)
  (.seq (.region [⟨none, (some 3), .mov (.tmp 0)⟩,
    ⟨none, (some 4), .mov (.tmp 0)⟩,
    ⟨none, (some 5), .lenL (.tmp 4)⟩,
    ⟨none, (some 6), .mov (.tmp 0)⟩,
    ⟨none, (some 7), .lenL (.tmp 6)⟩,
    ⟨none, (some 8), .sliceX 2 (.tmp 3) none (.tmp 5) (.tmp 7)⟩,
    ⟨none, (some 2), .mov (.tmp 8)⟩] false)
  .ret))⟩


/-! 46: wharfage/bitmap.turn$1 -/
def bitmap_turn_1.pol : Pol := { glob := [], pure := [19, 38], heap := [], gret := [], mva := [], root := [], rs := [4], live := [] }
def bitmap_turn_1.a : AFun := ⟨3, [.tmp 4],
  (.seq (.region [⟨none, (some 4), .mov (.const (.bool false))⟩] false)
  (.seq (.region [⟨none, (some 5), .mov (.tmp 0)⟩,
    ⟨none, (some 6), .callP 38 [(.tmp 5)] [.bool]⟩,
    ⟨none, (some 7), .un .not (.tmp 6)⟩,
    ⟨none, (some 8), .mov (.tmp 7)⟩,
    ⟨some (8, false), (some 9), .load [.str] false none (.tmp 1)⟩,
    ⟨some (8, false), (some 10), .mov (.tmp 0)⟩,
    ⟨some (8, false), (some 11), .callP 19 [(.tmp 9), (.tmp 10)] [.bool]⟩,
    ⟨some (8, false), (some 12), .load [.bool] false none (.tmp 2)⟩,
    ⟨some (8, false), (some 13), .eqA false [.bool] 4 (.tmp 11) (.tmp 12)⟩,
    ⟨none, (some 14), .pick (.tmp 8) (.const (.bool true)) (.tmp 13)⟩,
    ⟨none, (some 4), .mov (.tmp 14)⟩] true)
  .ret))⟩


end Go.Abs
