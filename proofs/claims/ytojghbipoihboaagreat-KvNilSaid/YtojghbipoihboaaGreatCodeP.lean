import Derived.Test.YtojghbipoihboaaGreatAbbr
set_option linter.unusedVariables false
set_option linter.unusedSimpArgs false
set_option linter.unusedSectionVars false
namespace Go.Abs
set_option maxRecDepth 10000
/-- The functions that leave the common store alone. -/
def roList : List Nat := [7, 9, 12, 21, 26, 28, 36, 43, 44, 46, 47, 49, 61, 62, 63, 64, 65, 68, 73, 78, 82, 85, 86, 88, 90, 92, 96, 97, 103, 106, 108, 109, 111, 112, 113, 114, 115, 119, 120, 127, 133, 134, 139, 143, 144, 146, 147, 149, 150, 153, 154, 155, 156, 170, 171, 173, 174, 181, 184, 185, 186, 200, 215, 216, 217, 218, 229, 237, 238, 240, 241]
/-! 3: wharfage/wharfagelaw15.KvNil -/
def law15_KvNil.pol : Pol := { pure := [15, 16], heap := [999999], gret := [15], ro := roList, rs := [4] }
def law15_KvNil.a : AFun := ⟨2, [.tmp 4],
  sq [r_ [i_ 4 (.mov F_)],
   r_ [i_ 5 (.mov (c_ (.pointer none)))],
   r_ [m_ 11 0, m_ 12 1, i_ 13 (.call 4 [(c_ (.pointer none)), (x_ 11), (x_ 12)] [.any, ix]), m_ 10 13, i_ 14 (.extract (x_ 10) 0), i_ 15 (.extract (x_ 10) 1), m_ 6 14, m_ 7 15],
   r_ [i_ 17 (.call 5 [(c_ (.pointer none))] [.any, ix]), m_ 16 17, i_ 18 (.extract (x_ 16) 0), i_ 19 (.extract (x_ 16) 1), m_ 8 18, m_ 9 19],
   r_ [m_ 20 6, i_ 21 (.nilCmp false 1 (x_ 20)), m_ 22 21, gm_ 22 23 7, g_ 22 24 (.bin .eql (x_ 23) (n_ 18)), i_ 25 (.pick (x_ 22) (x_ 24) F_), m_ 26 25, gm_ 26 27 8, g_ 26 28 (.nilCmp false 1 (x_ 27)), i_ 29 (.pick (x_ 26) (x_ 28) F_), m_ 30 29, gm_ 30 31 9, g_ 30 32 (.bin .eql (x_ 31) (n_ 18)), i_ 33 (.pick (x_ 30) (x_ 32) F_), m_ 34 33, gm_ 34 35 5, g_ 34 36 (.call 6 [(x_ 35), (.func 7)] [ix]), g_ 34 37 (.bin .eql (x_ 36) (n_ 18)), i_ 38 (.pick (x_ 34) (x_ 37) F_), m_ 39 38, gm_ 39 40 5, g_ 39 41 (.call 8 [(x_ 40), (.func 9)] [ix]), g_ 39 42 (.bin .eql (x_ 41) (n_ 18)), i_ 43 (.pick (x_ 39) (x_ 42) F_), m_ 44 43, gm_ 44 45 5, g_ 44 46 (.call 10 [(x_ 45)] [ix]), g_ 44 47 (.bin .eql (x_ 46) (n_ 18)), i_ 48 (.pick (x_ 44) (x_ 47) F_), m_ 49 48, gm_ 49 50 5, g_ 49 51 (.call 11 [(x_ 50)] [ix]), g_ 49 52 (.bin .eql (x_ 51) (n_ 18)), i_ 53 (.pick (x_ 49) (x_ 52) F_), m_ 54 53, gm_ 54 55 5, g_ 54 56 (.callR 12 [(x_ 55)] [ix]), g_ 54 57 (.bin .eql (x_ 56) (n_ 0)), i_ 58 (.pick (x_ 54) (x_ 57) F_), m_ 59 58, gm_ 59 60 5, g_ 59 61 (.call 13 [(x_ 60)] [ix]), g_ 59 62 (.bin .eql (x_ 61) (n_ 0)), i_ 63 (.pick (x_ 59) (x_ 62) F_), m_ 64 63, gm_ 64 65 5, g_ 64 66 (.call 14 [(x_ 65), (.func 15)] [ix]), g_ 64 67 (.bin .eql (x_ 66) (n_ 18)), i_ 68 (.pick (x_ 64) (x_ 67) F_), m_ 69 68, g_ 69 70 (.callP 16 [] [.bool]), i_ 71 (.pick (x_ 69) (x_ 70) F_), m_ 4 71],
   .ret]⟩


/-! 4: wharfage/kv.Format -/
def kv_Format.pol : Pol := { heap := [999999], ro := roList, rs := [6, 7] }
def kv_Format.a : AFun := ⟨3, [.tmp 6, .tmp 7],
  sq [r_ [i_ 6 (.mov (c_ (.pointer none))), i_ 7 (.mov (n_ 0))],
   r_ [m_ 8 0, m_ 9 1, m_ 10 2, i_ 11 (.call 18 [(x_ 8), (x_ 9), (x_ 10)] [.any, ix]), i_ 12 (.extract (x_ 11) 0), i_ 13 (.extract (x_ 11) 1), i_ 14 (.call 17 [(x_ 12), (x_ 13)] [.any, ix]), i_ 15 (.extract (x_ 14) 0), i_ 16 (.extract (x_ 14) 1), m_ 6 15, m_ 7 16],
   .ret]⟩


/-! 5: wharfage/kv.Load -/
def kv_Load.pol : Pol := { heap := [999999], ro := roList, rs := [2, 3] }
def kv_Load.a : AFun := ⟨1, [.tmp 2, .tmp 3],
  sq [r_ [i_ 2 (.mov (c_ (.pointer none))), i_ 3 (.mov (n_ 0))],
   r_ [m_ 4 0, i_ 5 (.call 19 [(x_ 4)] [.any, ix]), i_ 6 (.extract (x_ 5) 0), i_ 7 (.extract (x_ 5) 1), i_ 8 (.call 17 [(x_ 6), (x_ 7)] [.any, ix]), i_ 9 (.extract (x_ 8) 0), i_ 10 (.extract (x_ 8) 1), m_ 2 9, m_ 3 10],
   .ret]⟩


/-! 6: (*wharfage/kv.Store).Do -/
def kv_Store_Do.pol : Pol := { heap := [999999], ro := roList, rs := [4] }
def kv_Store_Do.a : AFun := ⟨2, [.tmp 4],
  sq [r_ [i_ 4 (.mov (n_ 0))],
   r_ [m_ 5 0, i_ 6 (.callR 21 [(x_ 5)] [.any]), m_ 7 1, i_ 8 (.call 22 [(x_ 7)] [.any]), i_ 9 (.call 20 [(x_ 6), (x_ 8)] [ix]), m_ 4 9],
   .ret]⟩


/-! 7: wharfage/wharfagelaw15.KvNil$1 -/
def law15_KvNil_1.pol : Pol := { heap := [999999], ro := roList }
def law15_KvNil_1.a : AFun := ⟨1, [],
  .skip⟩


/-! 8: (*wharfage/kv.Store).View -/
def kv_Store_View.pol : Pol := { heap := [999999], ro := roList, rs := [4] }
def kv_Store_View.a : AFun := ⟨2, [.tmp 4],
  sq [r_ [i_ 4 (.mov (n_ 0))],
   r_ [m_ 5 0, i_ 6 (.callR 21 [(x_ 5)] [.any]), m_ 7 1, i_ 8 (.call 22 [(x_ 7)] [.any]), i_ 9 (.call 23 [(x_ 6), (x_ 8)] [ix]), m_ 4 9],
   .ret]⟩


/-! 9: wharfage/wharfagelaw15.KvNil$2 -/
def law15_KvNil_2.pol : Pol := { heap := [999999], ro := roList }
def law15_KvNil_2.a : AFun := ⟨1, [],
  .skip⟩


/-! 10: (*wharfage/kv.Store).Flush -/
def kv_Store_Flush.pol : Pol := { heap := [999999], ro := roList, rs := [2] }
def kv_Store_Flush.a : AFun := ⟨1, [.tmp 2],
  sq [r_ [i_ 2 (.mov (n_ 0))],
   r_ [m_ 3 0, i_ 4 (.callR 21 [(x_ 3)] [.any]), i_ 5 (.call 24 [(x_ 4)] [ix]), m_ 2 5],
   .ret]⟩


/-! 11: (*wharfage/kv.Store).Checkpoint -/
def kv_Store_Checkpoint.pol : Pol := { heap := [999999], ro := roList, rs := [2] }
def kv_Store_Checkpoint.a : AFun := ⟨1, [.tmp 2],
  sq [r_ [i_ 2 (.mov (n_ 0))],
   r_ [m_ 3 0, i_ 4 (.callR 21 [(x_ 3)] [.any]), i_ 5 (.call 25 [(x_ 4)] [ix]), m_ 2 5],
   .ret]⟩


/-! 12: (*wharfage/kv.Store).Waiting -/
def kv_Store_Waiting.pol : Pol := { heap := [999999], ro := roList, rs := [2] }
def kv_Store_Waiting.a : AFun := ⟨1, [.tmp 2],
  sq [r_ [i_ 2 (.mov (n_ 0))],
   r_ [m_ 3 0, i_ 4 (.callR 21 [(x_ 3)] [.any]), i_ 5 (.callR 26 [(x_ 4)] [ix]), m_ 2 5],
   .ret]⟩


/-! 13: (*wharfage/kv.Store).Free -/
def kv_Store_Free.pol : Pol := { glob := [3], heap := [999999], ro := roList, rs := [2] }
def kv_Store_Free.a : AFun := ⟨1, [.tmp 2],
  sq [r_ [i_ 2 (.mov (n_ 0))],
   r_ [i_ 3 (.allocG none [(.at (.int .i64 0))]), u_ (.store 1 none (x_ 3) (n_ 0))],
   r_ [m_ 4 0, i_ 5 (.makeFunc 27 [] [(x_ 3)]), i_ 6 (.call 8 [(x_ 4), (x_ 5)] [ix])],
   r_ [i_ 7 (.load [ix] false none (x_ 3)), m_ 2 7],
   .ret]⟩


/-! 14: (*wharfage/kv.Store).Check -/
def kv_Store_Check.pol : Pol := { glob := [3, 5], heap := [999999], ro := roList, rs := [4] }
def kv_Store_Check.a : AFun := ⟨2, [.tmp 4],
  sq [r_ [i_ 3 (.boxG (x_ 1)), i_ 4 (.mov (n_ 0))],
   r_ [i_ 5 (.allocG none [(.at (.bool false))]), u_ (.store 1 none (x_ 5) F_)],
   r_ [m_ 7 0, i_ 8 (.makeFunc 29 [] [(x_ 5), (x_ 3)]), i_ 9 (.call 8 [(x_ 7), (x_ 8)] [ix]), m_ 6 9],
   .block 0 (sq [r_ [m_ 11 6, i_ 12 (.bin .eql (x_ 11) (n_ 18)), m_ 13 12, gm_ 13 14 0, g_ 13 15 (.nilCmp false 1 (x_ 14)), i_ 16 (.pick (x_ 13) (x_ 15) F_), m_ 10 16],
     if_ 10 (sq [r_ [m_ 17 6, m_ 4 17],
       .ret]) (sq [r_ [m_ 19 6, i_ 20 (.bin .neq (x_ 19) (n_ 0)), m_ 21 20, h_ 21 22 (.load [.bool] false none (x_ 5)), h_ 21 23 (.un .not (x_ 22)), i_ 24 (.pick (x_ 21) T_ (x_ 23)), m_ 18 24],
       if_ 18 (sq [r_ [i_ 4 (.mov (n_ 19))],
         .ret]) (.skip)])]),
   r_ [i_ 4 (.mov (n_ 0))],
   .ret]⟩


/-! 15: wharfage/wharfagelaw15.Blobs -/
def law15_Blobs.pol : Pol := { heap := [999999], ro := roList, root := [(1, 1), (4, 1)], rs := [2] }
def law15_Blobs.a : AFun := ⟨1, [.tmp 2],
  sq [r_ [i_ 1 (.boxL (x_ 0)), i_ 2 (.nilS 2)],
   r_ [i_ 4 (.addr 1 (x_ 1)), i_ 5 (.load [.str] false (some 1) (x_ 4)), m_ 3 5],
   sq [r_ [m_ 6 3, i_ 7 (.lenS (x_ 6)), i_ 8 (.bin .neq (x_ 7) (n_ 4))],
    if_ 8 (sq [r_ [i_ 2 (.nilS 2)],
      .ret]) (.skip)],
   d_ [m_ 9 3, i_ 10 (.indexS (x_ 9) (n_ 0)), i_ 11 (.convI .i64 (x_ 10)), i_ 12 (.bin .shl (x_ 11) (k_ .u64 8)), m_ 13 3, i_ 14 (.indexS (x_ 13) (n_ 1)), i_ 15 (.convI .i64 (x_ 14)), i_ 16 (.bin .or (x_ 12) (x_ 15)), m_ 17 3, i_ 18 (.indexS (x_ 17) (n_ 2)), i_ 19 (.convI .i64 (x_ 18)), i_ 20 (.bin .shl (x_ 19) (k_ .u64 8)), m_ 21 3, i_ 22 (.indexS (x_ 21) (n_ 3)), i_ 23 (.convI .i64 (x_ 22)), i_ 24 (.bin .or (x_ 20) (x_ 23)), i_ 25 (.build [(.at (.int .i64 0)), (.at (.int .i64 0))] [(0, 1, (x_ 16)), (1, 1, (x_ 24))]), i_ 26 (.buildG 2 [(x_ 25)]), m_ 2 26],
   .ret]⟩


/-! 16: wharfage/wharfagelaw15.lives -/
def law15_lives.pol : Pol := { glob := [4, 5], pure := [15], heap := [999999], gret := [15], ro := roList, rs := [0] }
def law15_lives.a : AFun := ⟨0, [.tmp 0],
  sq [r_ [i_ 0 (.mov F_)],
   r_ [i_ 13 (.call 37 [(n_ 12), (n_ 20)] [.any, .any, .bool]), m_ 12 13, i_ 14 (.extract (x_ 12) 0), i_ 15 (.extract (x_ 12) 1), i_ 16 (.extract (x_ 12) 2), m_ 1 14, m_ 2 15, m_ 3 16],
   sq [r_ [m_ 17 3, i_ 18 (.un .not (x_ 17))],
    if_ 18 (sq [r_ [i_ 0 (.mov F_)],
      .ret]) (.skip)],
   r_ [i_ 4 (.allocG none [(.sl true 2 [])])],
   r_ [i_ 5 (.allocG none [(.at (.bool false))]), u_ (.store 1 none (x_ 5) F_)],
   r_ [m_ 19 1, i_ 20 (.makeFunc 38 [] [(x_ 4), (x_ 5)]), i_ 21 (.call 6 [(x_ 19), (x_ 20)] [ix]), m_ 6 21],
   r_ [m_ 22 1, i_ 23 (.call 6 [(x_ 22), (.func 41)] [ix]), m_ 7 23],
   r_ [m_ 24 1, i_ 25 (.callR 12 [(x_ 24)] [ix]), m_ 26 1, i_ 27 (.call 10 [(x_ 26)] [ix]), m_ 8 25, m_ 9 27],
   r_ [m_ 29 2, i_ 30 (.call 5 [(x_ 29)] [.any, ix]), m_ 28 30, i_ 31 (.extract (x_ 28) 0), i_ 32 (.extract (x_ 28) 1), m_ 10 31, m_ 11 32],
   sq [r_ [m_ 33 11, i_ 34 (.bin .neq (x_ 33) (n_ 0)), m_ 35 34, hm_ 35 36 10, h_ 35 37 (.nilCmp false 1 (x_ 36)), i_ 38 (.pick (x_ 35) T_ (x_ 37))],
    if_ 38 (sq [r_ [i_ 0 (.mov F_)],
      .ret]) (.skip)],
   r_ [m_ 39 6, i_ 40 (.bin .eql (x_ 39) (n_ 0)), m_ 41 40, gm_ 41 42 7, g_ 41 43 (.bin .eql (x_ 42) (n_ 12)), i_ 44 (.pick (x_ 41) (x_ 43) F_), m_ 45 44, gm_ 45 46 8, g_ 45 47 (.bin .eql (x_ 46) (n_ 1)), i_ 48 (.pick (x_ 45) (x_ 47) F_), m_ 49 48, gm_ 49 50 9, g_ 49 51 (.bin .eql (x_ 50) (n_ 0)), i_ 52 (.pick (x_ 49) (x_ 51) F_), m_ 53 52, g_ 53 54 (.load [.sl 2] false none (x_ 4)), g_ 53 55 (.lenL (x_ 54)), g_ 53 56 (.bin .eql (x_ 55) (n_ 1)), i_ 57 (.pick (x_ 53) (x_ 56) F_), m_ 58 57, g_ 58 59 (.load [.sl 2] false none (x_ 4)), g_ 58 60 (.indexAddrS 2 (x_ 59) (n_ 0)), g_ 58 61 (.addr 0 (x_ 60)), g_ 58 62 (.load [.str] false none (x_ 61)), g_ 58 63 (.bin .eql (x_ 62) (c_ (.string ⟨#[97, 98]⟩))), i_ 64 (.pick (x_ 58) (x_ 63) F_), m_ 65 64, g_ 65 66 (.load [.bool] false none (x_ 5)), i_ 67 (.pick (x_ 65) (x_ 66) F_), m_ 68 67, gm_ 68 69 10, g_ 68 70 (.call 45 [(x_ 69)] [.any]), g_ 68 71 (.build [(.at (.string ⟨#[]⟩)), (.at (.string ⟨#[]⟩))] [(0, 1, (c_ (.string ⟨#[97, 98]⟩))), (1, 1, (c_ (.string ⟨#[104, 101, 108, 108, 111]⟩)))]), g_ 68 72 (.build [(.at (.string ⟨#[]⟩)), (.at (.string ⟨#[]⟩))] [(0, 1, (c_ (.string ⟨#[97, 99]⟩))), (1, 1, (c_ (.string ⟨#[121, 111, 117]⟩)))]), g_ 68 73 (.build [(.at (.string ⟨#[]⟩)), (.at (.string ⟨#[]⟩))] [(0, 1, (c_ (.string ⟨#[98]⟩))), (1, 1, (c_ (.string ⟨#[]⟩)))]), g_ 68 74 (.buildG 2 [(x_ 71), (x_ 72), (x_ 73)]), g_ 68 75 (.callR 44 [(x_ 70), (x_ 74)] [.bool]), i_ 76 (.pick (x_ 68) (x_ 75) F_), m_ 77 76, gm_ 77 78 10, g_ 77 79 (.call 14 [(x_ 78), (.func 15)] [ix]), g_ 77 80 (.bin .eql (x_ 79) (n_ 0)), i_ 81 (.pick (x_ 77) (x_ 80) F_), m_ 82 81, gm_ 82 83 10, g_ 82 84 (.call 14 [(x_ 83), (c_ .nilFunc)] [ix]), g_ 82 85 (.bin .eql (x_ 84) (n_ 19)), i_ 86 (.pick (x_ 82) (x_ 85) F_), m_ 87 86, gm_ 87 88 10, g_ 87 89 (.call 13 [(x_ 88)] [ix]), g_ 87 90 (.bin .eql (x_ 89) (n_ 7)), i_ 91 (.pick (x_ 87) (x_ 90) F_), m_ 0 91],
   .ret]⟩


/-! 17: wharfage/kv.held -/
def kv_held.pol : Pol := { glob := [11], heap := [999999], ro := roList, rs := [4, 5] }
def kv_held.a : AFun := ⟨2, [.tmp 4, .tmp 5],
  sq [r_ [i_ 4 (.mov (c_ (.pointer none))), i_ 5 (.mov (n_ 0))],
   sq [r_ [m_ 6 1, i_ 7 (.bin .neq (x_ 6) (n_ 0))],
    if_ 7 (sq [r_ [m_ 8 1, i_ 4 (.mov (c_ (.pointer none))), m_ 5 8],
      .ret]) (.skip)],
   r_ [m_ 9 0, i_ 10 (.build [(.at (.pointer none))] [(0, 1, (x_ 9))]), i_ 11 (.boxG (x_ 10)), m_ 4 11, i_ 5 (.mov (n_ 0))],
   .ret]⟩


/-! 18: wharfage/pages.Format -/
def pages_Format.pol : Pol := { pure := [46, 49], heap := [999999], ro := roList, rs := [6, 7], live := [([0, 1, 2, 8, 10], [0, 1, 2])] }
def pages_Format.L0 : ACode :=
  sq [sq [r_ [m_ 29 10, m_ 30 8, i_ 31 (.bin .lss (x_ 29) (x_ 30))],
    if_ 31 (.skip) (.exit 0)],
   .block 1 (sq [r_ [m_ 34 0, m_ 35 10, i_ 36 (.callP 49 [] [.str]), i_ 37 (.call 48 [(x_ 34), (x_ 35), (x_ 36)] [ix]), m_ 11 37],
     r_ [m_ 38 11, i_ 39 (.bin .neq (x_ 38) (n_ 0))],
     if_ 39 (sq [r_ [m_ 40 11, i_ 6 (.mov (c_ (.pointer none))), m_ 7 40],
       .ret]) (.skip)]),
   r_ [m_ 32 10, i_ 33 (.bin .add (x_ 32) (n_ 1)), m_ 10 33]]
def pages_Format.a : AFun := ⟨3, [.tmp 6, .tmp 7],
  sq [r_ [i_ 6 (.mov (c_ (.pointer none))), i_ 7 (.mov (n_ 0))],
   r_ [m_ 16 1, m_ 17 2, i_ 18 (.callP 46 [(x_ 16), (x_ 17)] [ix, ix]), m_ 15 18, i_ 19 (.extract (x_ 15) 0), i_ 20 (.extract (x_ 15) 1), m_ 8 19, m_ 9 20],
   sq [r_ [m_ 21 9, i_ 22 (.bin .neq (x_ 21) (n_ 0)), m_ 23 22, hm_ 23 24 0, h_ 23 25 (.callR 47 [(x_ 24)] [ix]), hm_ 23 26 8, h_ 23 27 (.bin .neq (x_ 25) (x_ 26)), i_ 28 (.pick (x_ 23) T_ (x_ 27))],
    if_ 28 (sq [r_ [i_ 6 (.mov (c_ (.pointer none))), i_ 7 (.mov (n_ 18))],
      .ret]) (.skip)],
   sq [r_ [i_ 10 (.mov (n_ 1))],
    .block 0 (.loop [0, 1, 2, 8, 10] [0, 1, 2] [6, 7] pages_Format.L0)],
   sq [r_ [m_ 41 0, i_ 42 (.call 50 [(x_ 41)] [ix]), m_ 12 42],
    r_ [m_ 43 12, i_ 44 (.bin .neq (x_ 43) (n_ 0))],
    if_ 44 (sq [r_ [m_ 45 12, i_ 6 (.mov (c_ (.pointer none))), m_ 7 45],
      .ret]) (.skip)],
   r_ [m_ 46 0, m_ 47 1, m_ 48 2, i_ 49 (.call 51 [(x_ 46), (x_ 47), (x_ 48)] [.any]), m_ 13 49],
   sq [r_ [m_ 50 13, i_ 51 (.call 52 [(x_ 50), (k_ .u64 1)] [ix]), m_ 14 51],
    r_ [m_ 52 14, i_ 53 (.bin .neq (x_ 52) (n_ 0))],
    if_ 53 (sq [r_ [m_ 54 14, i_ 6 (.mov (c_ (.pointer none))), m_ 7 54],
      .ret]) (.skip)],
   r_ [m_ 55 13, m_ 6 55, i_ 7 (.mov (n_ 0))],
   .ret]⟩
def pages_Format.R0 (C : CallF) (N : Nat) := round (evalC C N pages_Format.L0) [0, 1, 2, 8, 10] [0, 1, 2] [6, 7]
def pages_Format.K0 (C : CallF) (N : Nat) : Ex → St → R := contC C N [.snd, .snd, .snd, .fst, .snd, .blk] pages_Format.a.body (finish pages_Format.a)


/-! 19: wharfage/pages.Load -/
def pages_Load.pol : Pol := { heap := [999999], ro := roList, rs := [2, 3] }
def pages_Load.a : AFun := ⟨1, [.tmp 2, .tmp 3],
  sq [r_ [i_ 2 (.mov (c_ (.pointer none))), i_ 3 (.mov (n_ 0))],
   sq [r_ [m_ 10 0, i_ 11 (.nilCmp false 1 (x_ 10))],
    if_ 11 (sq [r_ [i_ 2 (.mov (c_ (.pointer none))), i_ 3 (.mov (n_ 18))],
      .ret]) (.skip)],
   r_ [m_ 13 0, i_ 14 (.call 53 [(x_ 13)] [.any, .int .u64, ix]), m_ 12 14, i_ 15 (.extract (x_ 12) 0), i_ 16 (.extract (x_ 12) 1), i_ 17 (.extract (x_ 12) 2), m_ 4 15, m_ 5 16, m_ 6 17],
   sq [r_ [m_ 18 6, i_ 19 (.bin .neq (x_ 18) (n_ 0))],
    if_ 19 (sq [r_ [m_ 20 6, i_ 2 (.mov (c_ (.pointer none))), m_ 3 20],
      .ret]) (.skip)],
   sq [r_ [m_ 21 4, i_ 22 (.call 54 [(x_ 21)] [ix]), m_ 7 22],
    r_ [m_ 23 7, i_ 24 (.bin .neq (x_ 23) (n_ 0))],
    if_ 24 (sq [r_ [m_ 25 7, i_ 2 (.mov (c_ (.pointer none))), m_ 3 25],
      .ret]) (.skip)],
   sq [r_ [m_ 26 4, m_ 27 5, i_ 28 (.call 55 [(x_ 26), (x_ 27)] [ix]), m_ 8 28],
    r_ [m_ 29 8, i_ 30 (.bin .neq (x_ 29) (n_ 0))],
    if_ 30 (sq [r_ [m_ 31 8, i_ 2 (.mov (c_ (.pointer none))), m_ 3 31],
      .ret]) (.skip)],
   sq [r_ [m_ 32 4, m_ 33 5, i_ 34 (.bin .add (x_ 33) (k_ .u64 1)), i_ 35 (.call 56 [(x_ 32), (x_ 34)] [ix]), m_ 9 35],
    r_ [m_ 36 9, i_ 37 (.bin .neq (x_ 36) (n_ 0))],
    if_ 37 (sq [r_ [m_ 38 9, i_ 2 (.mov (c_ (.pointer none))), m_ 3 38],
      .ret]) (.skip)],
   r_ [m_ 39 4, m_ 2 39, i_ 3 (.mov (n_ 0))],
   .ret]⟩


/-! 20: wharfage/heap.Do -/
def heap_Do.pol : Pol := { glob := [17], heap := [999999], ro := roList, rs := [4] }
def heap_Do.a : AFun := ⟨2, [.tmp 4],
  sq [r_ [i_ 4 (.mov (n_ 0))],
   sq [r_ [m_ 8 0, i_ 9 (.nilCmp false 1 (x_ 8)), m_ 10 9, hm_ 10 11 1, h_ 10 12 (.nilCmp false 2 (x_ 11)), i_ 13 (.pick (x_ 10) T_ (x_ 12))],
    if_ 13 (sq [r_ [i_ 4 (.mov (n_ 18))],
      .ret]) (.skip)],
   r_ [m_ 14 0, i_ 15 (.mkMap), i_ 16 (.build [(.at (.pointer none)), (.at (.map none))] [(0, 1, (x_ 14)), (1, 1, (x_ 15))]), i_ 17 (.boxG (x_ 16)), m_ 5 17],
   sq [r_ [m_ 18 5, m_ 19 1, i_ 20 (.call 57 [(x_ 18), (x_ 19)] [ix]), m_ 6 20],
    r_ [m_ 21 6, i_ 22 (.bin .neq (x_ 21) (n_ 0))],
    if_ 22 (sq [r_ [m_ 23 6, m_ 4 23],
      .ret]) (.skip)],
   r_ [m_ 24 5, i_ 25 (.call 58 [(x_ 24)] [.any]), m_ 7 25],
   sq [r_ [m_ 26 7, i_ 27 (.lenL (x_ 26)), i_ 28 (.bin .eql (x_ 27) (n_ 0))],
    if_ 28 (sq [r_ [i_ 4 (.mov (n_ 0))],
      .ret]) (.skip)],
   r_ [m_ 29 0, m_ 30 7, i_ 31 (.call 59 [(x_ 29), (x_ 30)] [ix]), m_ 4 31],
   .ret]⟩


/-! 21: (*wharfage/kv.Store).pages -/
def kv_Store_pages.pol : Pol := { heap := [999999], ro := roList, rs := [2] }
def kv_Store_pages.a : AFun := ⟨1, [.tmp 2],
  sq [r_ [i_ 2 (.mov (c_ (.pointer none)))],
   sq [r_ [m_ 3 0, i_ 4 (.nilCmp false 1 (x_ 3))],
    if_ 4 (sq [r_ [i_ 2 (.mov (c_ (.pointer none)))],
      .ret]) (.skip)],
   r_ [m_ 5 0, i_ 6 (.nilCk (x_ 5)), i_ 7 (.addr 0 (x_ 6)), i_ 8 (.load [.any] false none (x_ 7)), m_ 2 8],
   .ret]⟩


/-! 22: wharfage/kv.on -/
def kv_on.pol : Pol := { glob := [1], heap := [999999], ro := roList, rs := [2] }
def kv_on.a : AFun := ⟨1, [.tmp 2],
  sq [r_ [i_ 1 (.boxG (x_ 0)), i_ 2 (.mov (c_ .nilFunc))],
   sq [r_ [i_ 3 (.load [.any] false none (x_ 1)), i_ 4 (.nilCmp false 2 (x_ 3))],
    if_ 4 (sq [r_ [i_ 2 (.mov (c_ .nilFunc))],
      .ret]) (.skip)],
   r_ [i_ 5 (.makeFunc 60 [] [(x_ 1)]), m_ 2 5],
   .ret]⟩


/-! 23: wharfage/heap.View -/
def heap_View.pol : Pol := { glob := [14], heap := [999999], ro := roList, rs := [4] }
def heap_View.a : AFun := ⟨2, [.tmp 4],
  sq [r_ [i_ 4 (.mov (n_ 0))],
   sq [r_ [m_ 5 0, i_ 6 (.nilCmp false 1 (x_ 5)), m_ 7 6, hm_ 7 8 1, h_ 7 9 (.nilCmp false 2 (x_ 8)), i_ 10 (.pick (x_ 7) T_ (x_ 9))],
    if_ 10 (sq [r_ [i_ 4 (.mov (n_ 18))],
      .ret]) (.skip)],
   r_ [m_ 11 0, i_ 12 (.mkMap), i_ 13 (.build [(.at (.pointer none)), (.at (.map none))] [(0, 1, (x_ 11)), (1, 1, (x_ 12))]), i_ 14 (.boxG (x_ 13)), m_ 15 1, i_ 16 (.call 57 [(x_ 14), (x_ 15)] [ix]), m_ 4 16],
   .ret]⟩


/-! 24: (*wharfage/pages.Store).Flush -/
def pages_Store_Flush.pol : Pol := { heap := [999999], ro := roList, rs := [2] }
def pages_Store_Flush.a : AFun := ⟨1, [.tmp 2],
  sq [r_ [i_ 2 (.mov (n_ 0))],
   sq [r_ [m_ 5 0, i_ 6 (.callR 61 [(x_ 5)] [ix]), m_ 3 6],
    r_ [m_ 7 3, i_ 8 (.bin .neq (x_ 7) (n_ 0)), m_ 9 8, hm_ 9 10 0, h_ 9 11 (.nilCk (x_ 10)), h_ 9 12 (.addr 5 (x_ 11)), h_ 9 13 (.load [ix] false none (x_ 12)), h_ 9 14 (.bin .eql (x_ 13) (n_ 0)), i_ 15 (.pick (x_ 9) T_ (x_ 14))],
    if_ 15 (sq [r_ [m_ 16 3, m_ 2 16],
      .ret]) (.skip)],
   r_ [m_ 17 0, i_ 18 (.nilCk (x_ 17)), i_ 19 (.addr 0 (x_ 18)), i_ 20 (.load [.any] false none (x_ 19)), i_ 21 (.call 50 [(x_ 20)] [ix]), m_ 4 21],
   sq [r_ [m_ 22 4, i_ 23 (.bin .eql (x_ 22) (n_ 0))],
    if_ 23 (r_ [m_ 24 0, i_ 25 (.nilCk (x_ 24)), i_ 26 (.addr 5 (x_ 25)), u_ (.store 1 none (x_ 26) (n_ 0))]) (.skip)],
   r_ [m_ 27 4, m_ 2 27],
   .ret]⟩


/-! 25: (*wharfage/pages.Store).Checkpoint -/
def pages_Store_Checkpoint.pol : Pol := { heap := [999999], ro := roList, rs := [2] }
def pages_Store_Checkpoint.a : AFun := ⟨1, [.tmp 2],
  sq [r_ [i_ 2 (.mov (n_ 0))],
   sq [r_ [m_ 4 0, i_ 5 (.callR 61 [(x_ 4)] [ix]), m_ 3 5],
    r_ [m_ 6 3, i_ 7 (.bin .neq (x_ 6) (n_ 0)), m_ 8 7, hm_ 8 9 0, h_ 8 10 (.nilCk (x_ 9)), h_ 8 11 (.addr 4 (x_ 10)), h_ 8 12 (.load [.any] false none (x_ 11)), h_ 8 13 (.callR 62 [(x_ 12)] [.int .u64]), h_ 8 14 (.bin .eql (x_ 13) (k_ .u64 0)), i_ 15 (.pick (x_ 8) T_ (x_ 14))],
    if_ 15 (sq [r_ [m_ 16 3, m_ 2 16],
      .ret]) (.skip)],
   r_ [m_ 17 0, m_ 18 0, i_ 19 (.callR 63 [(x_ 18)] [.int .u64]), i_ 20 (.bin .add (x_ 19) (k_ .u64 1)), i_ 21 (.call 56 [(x_ 17), (x_ 20)] [ix]), m_ 2 21],
   .ret]⟩


/-! 26: (*wharfage/pages.Store).Waiting -/
def pages_Store_Waiting.pol : Pol := { heap := [999999], ro := roList, rs := [2] }
def pages_Store_Waiting.a : AFun := ⟨1, [.tmp 2],
  sq [r_ [i_ 2 (.mov (n_ 0))],
   sq [r_ [m_ 3 0, i_ 4 (.nilCmp false 1 (x_ 3))],
    if_ 4 (sq [r_ [i_ 2 (.mov (n_ 0))],
      .ret]) (.skip)],
   r_ [m_ 5 0, i_ 6 (.nilCk (x_ 5)), i_ 7 (.addr 5 (x_ 6)), i_ 8 (.load [ix] false none (x_ 7)), m_ 2 8],
   .ret]⟩


/-! 27: (*wharfage/kv.Store).Free$1 -/
def kv_Store_Free_1.pol : Pol := { heap := [999999], ro := roList }
def kv_Store_Free_1.a : AFun := ⟨2, [],
  r_ [m_ 3 0, i_ 4 (.nilCk (x_ 3)), i_ 5 (.addr 0 (x_ 4)), i_ 6 (.load [.any] false none (x_ 5)), i_ 7 (.callR 28 [(x_ 6)] [ix]), u_ (.store 1 none (x_ 1) (x_ 7))]⟩


/-! 28: (*wharfage/heap.Heap).Free -/
def heap_Heap_Free.pol : Pol := { pure := [64], heap := [999999], ro := roList, rs := [2] }
def heap_Heap_Free.a : AFun := ⟨1, [.tmp 2],
  sq [r_ [i_ 2 (.mov (n_ 0))],
   r_ [m_ 3 0, i_ 4 (.callR 36 [(x_ 3)] [ix]), i_ 5 (.bin .sub (x_ 4) (n_ 2)), m_ 6 0, i_ 7 (.callR 65 [(x_ 6), (n_ 1)] [.str]), m_ 8 0, i_ 9 (.callR 36 [(x_ 8)] [ix]), i_ 10 (.callP 64 [(x_ 7), (n_ 2), (x_ 9)] [ix]), i_ 11 (.bin .sub (x_ 5) (x_ 10)), m_ 2 11],
   .ret]⟩


/-! 29: (*wharfage/kv.Store).Check$1 -/
def kv_Store_Check_1.pol : Pol := { heap := [999999], ro := roList, lo := [(3, [(3, 10)])], root := [(8, 8)], live := [([0, 1, 2, 4, 5, 6], [0, 1, 4]), ([0, 1, 2, 4, 5, 6, 49, 50, 51], [0, 1, 2, 4, 5, 6])] }
def kv_Store_Check_1.L1 : ACode :=
  sq [r_ [i_ 52 (.bin .lss (x_ 51) (x_ 50))],
   if_ 52 (.skip) (.exit 2),
   .block 3 (sq [r_ [i_ 53 (.indexAddrS 2 (x_ 49) (x_ 51)), i_ 54 (.load [ix, ix] true none (x_ 53)), i_ 8 (.allocL [(.at (.int .i64 0)), (.at (.int .i64 0))]), u_ (.store 2 (some 8) (x_ 8) (x_ 54))],
     d_ [m_ 55 4, m_ 56 0, i_ 57 (.nilCk (x_ 56)), i_ 58 (.addr 0 (x_ 57)), i_ 59 (.load [.any] false none (x_ 58)), i_ 60 (.load [ix, ix] true (some 8) (x_ 8)), i_ 61 (.call 35 [(x_ 59), (x_ 60)] [.any]), i_ 62 (.call 31 [(x_ 55), (x_ 61)] [.bool]), m_ 63 62, g_ 63 64 (.load [.bool] false none (x_ 1)), i_ 65 (.pick (x_ 63) (x_ 64) F_), u_ (.store 1 none (x_ 1) (x_ 65))]]),
   r_ [i_ 66 (.bin .add (x_ 51) (n_ 1)), m_ 51 66]]
def kv_Store_Check_1.L0 : ACode :=
  sq [sq [r_ [i_ 34 (.load [.any] false none (x_ 2)), i_ 35 (.nilCmp true 2 (x_ 34)), m_ 36 35, gm_ 36 37 6, gm_ 36 38 5, g_ 36 39 (.lenL (x_ 38)), g_ 36 40 (.bin .lss (x_ 37) (x_ 39)), i_ 41 (.pick (x_ 36) (x_ 40) F_)],
    if_ 41 (.skip) (.exit 0)],
   .block 1 (sq [d_ [i_ 44 (.load [.any] false none (x_ 2)), m_ 45 5, m_ 46 6, i_ 47 (.indexAddrS 2 (x_ 45) (x_ 46)), i_ 48 (.load [.str, .str] true none (x_ 47)), i_ 49 (.callV (x_ 44) [(x_ 48)] [.sl 2]), i_ 50 (.lenL (x_ 49)), i_ 51 (.mov (n_ 0))],
     .block 2 (.loop [0, 1, 2, 4, 5, 6, 49, 50, 51] [0, 1, 2, 4, 5, 6] [] kv_Store_Check_1.L1)]),
   r_ [m_ 42 6, i_ 43 (.bin .add (x_ 42) (n_ 1)), m_ 6 43]]
def kv_Store_Check_1.a : AFun := ⟨3, [],
  sq [sq [r_ [m_ 9 0, i_ 10 (.nilCk (x_ 9)), i_ 11 (.addr 0 (x_ 10)), i_ 12 (.load [.any] false none (x_ 11)), i_ 13 (.call 30 [(x_ 12)] [ix]), i_ 14 (.bin .neq (x_ 13) (n_ 0))],
    if_ 14 (.ret) (.skip)],
   r_ [i_ 15 (.mkMap), m_ 4 15],
   r_ [m_ 16 4, m_ 17 0, i_ 18 (.nilCk (x_ 17)), i_ 19 (.addr 0 (x_ 18)), i_ 20 (.load [.any] false none (x_ 19)), i_ 21 (.call 32 [(x_ 20)] [.any]), i_ 22 (.call 31 [(x_ 16), (x_ 21)] [.bool]), u_ (.store 1 none (x_ 1) (x_ 22))],
   .regionL [m_ 23 0, i_ 24 (.nilCk (x_ 23)), i_ 25 (.addr 0 (x_ 24)), i_ 26 (.load [.any] false none (x_ 25)), m_ 27 0, i_ 28 (.nilCk (x_ 27)), i_ 29 (.addr 0 (x_ 28)), i_ 30 (.load [.any] false none (x_ 29)), i_ 31 (.call 34 [(x_ 30)] [.int .u64]), i_ 32 (.convI .i64 (x_ 31)), i_ 33 (.call 33 [(x_ 26), (c_ (.string ⟨#[]⟩)), (x_ 32)] [.any]), m_ 5 33] [(3, 10)],
   sq [r_ [i_ 6 (.mov (n_ 0))],
    .block 0 (.loop [0, 1, 2, 4, 5, 6] [0, 1, 4] [] kv_Store_Check_1.L0)],
   d_ [i_ 67 (.load [.bool] false none (x_ 1)), m_ 68 67, gm_ 68 69 0, g_ 68 70 (.nilCk (x_ 69)), g_ 68 71 (.addr 0 (x_ 70)), g_ 68 72 (.load [.any] false none (x_ 71)), g_ 68 73 (.callR 28 [(x_ 72)] [ix]), gm_ 68 74 0, g_ 68 75 (.nilCk (x_ 74)), g_ 68 76 (.addr 0 (x_ 75)), g_ 68 77 (.load [.any] false none (x_ 76)), g_ 68 78 (.callR 36 [(x_ 77)] [ix]), g_ 68 79 (.bin .sub (x_ 78) (n_ 2)), gm_ 68 80 4, g_ 68 81 (.mapLen (x_ 80)), g_ 68 82 (.bin .sub (x_ 79) (x_ 81)), g_ 68 83 (.bin .eql (x_ 73) (x_ 82)), i_ 84 (.pick (x_ 68) (x_ 83) F_), u_ (.store 1 none (x_ 1) (x_ 84))]]⟩
def kv_Store_Check_1.R0 (C : CallF) (N : Nat) := round (evalC C N kv_Store_Check_1.L0) [0, 1, 2, 4, 5, 6] [0, 1, 4] []
def kv_Store_Check_1.K0 (C : CallF) (N : Nat) : Ex → St → R := contC C N [.snd, .snd, .snd, .snd, .fst, .snd, .blk] kv_Store_Check_1.a.body (finish kv_Store_Check_1.a)
def kv_Store_Check_1.R1 (C : CallF) (N : Nat) := round (evalC C N kv_Store_Check_1.L1) [0, 1, 2, 4, 5, 6, 49, 50, 51] [0, 1, 2, 4, 5, 6] []
def kv_Store_Check_1.K1 (C : CallF) (N : Nat) (k : Ex → St → R) : Ex → St → R := contC C N [.snd, .fst, .blk, .snd, .blk] kv_Store_Check_1.L0 (rndK [0, 1, 2, 4, 5, 6] [0, 1, 4] [] k)


/-! 30: wharfage/tree.Check -/
def tree_Check.pol : Pol := { glob := [12], pure := [68], heap := [999999], ro := roList, rs := [2] }
def tree_Check.a : AFun := ⟨1, [.tmp 2],
  sq [r_ [i_ 2 (.mov (n_ 0))],
   r_ [m_ 7 0, i_ 8 (.call 66 [(x_ 7)] [.any]), m_ 3 8],
   r_ [m_ 9 0, i_ 10 (.mkMap), i_ 11 (.build [(.at (.pointer none)), (.at (.map none)), (.at (.int .u64 0))] [(0, 1, (x_ 9)), (1, 1, (x_ 10))]), i_ 12 (.boxG (x_ 11)), m_ 4 12],
   r_ [m_ 13 3, i_ 14 (.nilCk (x_ 13)), i_ 15 (.addr 1 (x_ 14)), i_ 16 (.load [ix] false none (x_ 15)), i_ 17 (.bin .eql (x_ 16) (n_ 0)), m_ 18 17, hm_ 18 19 4, hm_ 18 20 3, h_ 18 21 (.nilCk (x_ 20)), h_ 18 22 (.addr 1 (x_ 21)), h_ 18 23 (.load [ix] false none (x_ 22)), h_ 18 24 (.build [(.at (.string ⟨#[]⟩)), (.at (.string ⟨#[]⟩)), (.at (.bool false))] []), h_ 18 25 (.call 67 [(x_ 19), (x_ 23), (x_ 24)] [ix]), h_ 18 26 (.bin .gtr (x_ 25) (n_ 0)), i_ 27 (.pick (x_ 18) T_ (x_ 26)), m_ 5 27],
   r_ [m_ 28 0, i_ 29 (.callR 65 [(x_ 28), (n_ 0)] [.str]), m_ 6 29],
   sq [d_ [m_ 30 5, i_ 31 (.un .not (x_ 30)), m_ 32 31, hm_ 32 33 4, h_ 32 34 (.nilCk (x_ 33)), h_ 32 35 (.addr 2 (x_ 34)), h_ 32 36 (.load [.int .u64] false none (x_ 35)), hm_ 32 37 3, h_ 32 38 (.nilCk (x_ 37)), h_ 32 39 (.addr 2 (x_ 38)), h_ 32 40 (.load [.int .u64] false none (x_ 39)), h_ 32 41 (.bin .neq (x_ 36) (x_ 40)), i_ 42 (.pick (x_ 32) T_ (x_ 41)), m_ 43 42, hm_ 43 44 6, h_ 43 45 (.callP 68 [(x_ 44)] [.bool]), h_ 43 46 (.un .not (x_ 45)), i_ 47 (.pick (x_ 43) T_ (x_ 46))],
    if_ 47 (sq [r_ [i_ 2 (.mov (n_ 19))],
      .ret]) (.skip)],
   r_ [i_ 2 (.mov (n_ 0))],
   .ret]⟩


/-! 31: wharfage/kv.met -/
def kv_met.pol : Pol := { heap := [999999], ro := roList, rs := [4], live := [([0, 5, 8, 9, 10], [5])] }
def kv_met.L0 : ACode :=
  sq [r_ [i_ 11 (.bin .lss (x_ 10) (x_ 9))],
   if_ 11 (.skip) (.exit 0),
   .block 1 (sq [r_ [i_ 12 (.indexAddrS 1 (x_ 8) (x_ 10)), i_ 13 (.load [ix] false none (x_ 12)), m_ 7 13],
     r_ [m_ 14 5, m_ 15 14, gm_ 15 16 0, gm_ 15 17 7, g_ 15 18 (.mapGet false [(.at (.bool false))] false false (x_ 16) (x_ 17)), g_ 15 19 (.un .not (x_ 18)), i_ 20 (.pick (x_ 15) (x_ 19) F_), m_ 5 20],
     r_ [m_ 21 0, m_ 22 7, u_ (.mapSet false (x_ 21) (x_ 22) T_)]]),
   r_ [i_ 23 (.bin .add (x_ 10) (n_ 1)), m_ 10 23]]
def kv_met.a : AFun := ⟨2, [.tmp 4],
  sq [r_ [i_ 4 (.mov F_)],
   r_ [i_ 5 (.mov T_)],
   sq [r_ [m_ 8 1, i_ 9 (.lenL (x_ 8)), i_ 10 (.mov (n_ 0))],
    .block 0 (.loop [0, 5, 8, 9, 10] [5] [4] kv_met.L0)],
   r_ [m_ 24 5, m_ 4 24],
   .ret]⟩
def kv_met.R0 (C : CallF) (N : Nat) := round (evalC C N kv_met.L0) [0, 5, 8, 9, 10] [5] [4]
def kv_met.K0 (C : CallF) (N : Nat) : Ex → St → R := contC C N [.snd, .snd, .fst, .snd, .blk] kv_met.a.body (finish kv_met.a)


/-! 32: wharfage/tree.Pages -/
def tree_Pages.pol : Pol := { heap := [999999], ro := roList, rs := [2] }
def tree_Pages.a : AFun := ⟨1, [.tmp 2],
  sq [r_ [i_ 2 (.nilS 1)],
   r_ [m_ 4 0, i_ 5 (.call 66 [(x_ 4)] [.any]), m_ 3 5],
   sq [r_ [m_ 6 3, i_ 7 (.nilCk (x_ 6)), i_ 8 (.addr 1 (x_ 7)), i_ 9 (.load [ix] false none (x_ 8)), i_ 10 (.bin .eql (x_ 9) (n_ 0))],
    if_ 10 (sq [r_ [i_ 2 (.nilS 1)],
      .ret]) (.skip)],
   r_ [m_ 11 3, m_ 12 3, i_ 13 (.nilCk (x_ 12)), i_ 14 (.addr 1 (x_ 13)), i_ 15 (.load [ix] false none (x_ 14)), i_ 16 (.call 69 [(x_ 11), (x_ 15)] [.any]), m_ 2 16],
   .ret]⟩


/-! 33: wharfage/tree.Scan -/
def tree_Scan.pol : Pol := { glob := [5, 8], heap := [999999], ro := roList, rs := [6] }
def tree_Scan.a : AFun := ⟨3, [.tmp 6],
  sq [r_ [i_ 5 (.boxG (x_ 2)), i_ 6 (.nilS 2)],
   r_ [m_ 9 0, i_ 10 (.call 66 [(x_ 9)] [.any]), m_ 7 10],
   r_ [i_ 8 (.allocG none [(.sl true 2 [])])],
   sq [r_ [m_ 11 7, i_ 12 (.nilCk (x_ 11)), i_ 13 (.addr 1 (x_ 12)), i_ 14 (.load [ix] false none (x_ 13)), i_ 15 (.bin .eql (x_ 14) (n_ 0)), m_ 16 15, h_ 16 17 (.load [ix] false none (x_ 5)), h_ 16 18 (.bin .lss (x_ 17) (n_ 1)), i_ 19 (.pick (x_ 16) T_ (x_ 18))],
    if_ 19 (sq [r_ [i_ 6 (.nilS 2)],
      .ret]) (.skip)],
   r_ [m_ 20 7, m_ 21 7, i_ 22 (.nilCk (x_ 21)), i_ 23 (.addr 1 (x_ 22)), i_ 24 (.load [ix] false none (x_ 23)), m_ 25 1, i_ 26 (.makeFunc 71 [] [(x_ 8), (x_ 5)]), i_ 27 (.call 70 [(x_ 20), (x_ 24), (x_ 25), (x_ 26)] [.bool])],
   r_ [i_ 28 (.load [.sl 2] false none (x_ 8)), m_ 6 28],
   .ret]⟩


/-! 34: wharfage/tree.Many -/
def tree_Many.pol : Pol := { heap := [999999], ro := roList, rs := [2] }
def tree_Many.a : AFun := ⟨1, [.tmp 2],
  sq [r_ [i_ 2 (.mov (k_ .u64 0))],
   r_ [m_ 3 0, i_ 4 (.call 66 [(x_ 3)] [.any]), i_ 5 (.nilCk (x_ 4)), i_ 6 (.addr 2 (x_ 5)), i_ 7 (.load [.int .u64] false none (x_ 6)), m_ 2 7],
   .ret]⟩


/-! 35: wharfage/blob.Pages -/
def blob_Pages.pol : Pol := { glob := [5], heap := [999999], ro := roList, root := [(3, 3)], rs := [4], live := [([5], [900000])] }
def blob_Pages.a : AFun := ⟨2, [.tmp 4],
  sq [r_ [i_ 3 (.boxL (x_ 1)), i_ 4 (.nilS 1)],
   r_ [i_ 5 (.allocG none [(.sl true 1 [])])],
   sq [r_ [m_ 7 0, i_ 8 (.load [ix, ix] true (some 3) (x_ 3)), i_ 9 (.call 72 [(x_ 7), (x_ 8)] [.any])],
    .block 0 (.ranged 900000 (x_ 9) [5])],
   r_ [i_ 16 (.load [.sl 1] false none (x_ 5)), m_ 4 16],
   .ret]⟩

def blob_Pages.polY900000 : Pol := { glob := [5], heap := [999999], ro := roList, root := [(3, 3)] }
def blob_Pages.Y900000 : AYield := ⟨[5], [10, 11],
  r_ [m_ 6 10],
  .block 1 (r_ [i_ 12 (.load [.sl 1] false none (x_ 5)), m_ 13 6, i_ 14 (.buildG 1 [(x_ 13)]), i_ 15 (.appendH none 1 8 (x_ 12) (x_ 14)), u_ (.store 1 none (x_ 5) (x_ 15))])⟩


/-! 36: (*wharfage/heap.Heap).Pages -/
def heap_Heap_Pages.pol : Pol := { heap := [999999], ro := roList, rs := [2] }
def heap_Heap_Pages.a : AFun := ⟨1, [.tmp 2],
  sq [r_ [i_ 2 (.mov (n_ 0))],
   r_ [m_ 3 0, i_ 4 (.nilCk (x_ 3)), i_ 5 (.addr 0 (x_ 4)), i_ 6 (.load [.any] false none (x_ 5)), i_ 7 (.callR 73 [(x_ 6)] [ix]), m_ 2 7],
   .ret]⟩


/-! 37: wharfage/wharfagelaw15.Made -/
def law15_Made.pol : Pol := { pure := [46], heap := [999999], ro := roList, rs := [4, 5, 6] }
def law15_Made.a : AFun := ⟨2, [.tmp 4, .tmp 5, .tmp 6],
  sq [r_ [i_ 4 (.mov (c_ (.pointer none))), i_ 5 (.mov (c_ (.pointer none))), i_ 6 (.mov F_)],
   r_ [m_ 14 0, m_ 15 1, i_ 16 (.callP 46 [(x_ 14), (x_ 15)] [ix, ix]), m_ 13 16, i_ 17 (.extract (x_ 13) 0), i_ 18 (.extract (x_ 13) 1), m_ 7 17, m_ 8 18],
   sq [r_ [m_ 19 8, i_ 20 (.bin .neq (x_ 19) (n_ 0)), m_ 21 20, hm_ 21 22 7, h_ 21 23 (.bin .gtr (x_ 22) (n_ 120)), i_ 24 (.pick (x_ 21) T_ (x_ 23))],
    if_ 24 (sq [r_ [i_ 4 (.mov (c_ (.pointer none))), i_ 5 (.mov (c_ (.pointer none))), i_ 6 (.mov F_)],
      .ret]) (.skip)],
   r_ [m_ 26 7, i_ 27 (.call 74 [(x_ 26)] [.any, ix]), m_ 25 27, i_ 28 (.extract (x_ 25) 0), i_ 29 (.extract (x_ 25) 1), m_ 9 28, m_ 10 29],
   r_ [m_ 31 9, m_ 32 0, m_ 33 1, i_ 34 (.call 4 [(x_ 31), (x_ 32), (x_ 33)] [.any, ix]), m_ 30 34, i_ 35 (.extract (x_ 30) 0), i_ 36 (.extract (x_ 30) 1), m_ 11 35, m_ 12 36],
   r_ [m_ 37 11, m_ 38 9, m_ 39 10, i_ 40 (.bin .eql (x_ 39) (n_ 0)), m_ 41 40, gm_ 41 42 12, g_ 41 43 (.bin .eql (x_ 42) (n_ 0)), i_ 44 (.pick (x_ 41) (x_ 43) F_), m_ 45 44, gm_ 45 46 11, g_ 45 47 (.nilCmp true 1 (x_ 46)), i_ 48 (.pick (x_ 45) (x_ 47) F_), m_ 49 48, gm_ 49 50 9, g_ 49 51 (.nilCmp true 1 (x_ 50)), i_ 52 (.pick (x_ 49) (x_ 51) F_), m_ 4 37, m_ 5 38, m_ 6 52],
   .ret]⟩


/-! 38: wharfage/wharfagelaw15.lives$1 -/
def law15_lives_1.pol : Pol := { heap := [999999], ro := roList }
def law15_lives_1.a : AFun := ⟨3, [],
  sq [r_ [m_ 4 0, i_ 5 (.call 39 [(x_ 4), (c_ (.string ⟨#[97, 98]⟩)), (c_ (.string ⟨#[104, 101, 108, 108, 111]⟩))] [])],
   r_ [m_ 6 0, i_ 7 (.call 39 [(x_ 6), (c_ (.string ⟨#[97, 99]⟩)), (c_ (.string ⟨#[121, 111, 117]⟩))] [])],
   r_ [m_ 8 0, i_ 9 (.call 39 [(x_ 8), (c_ (.string ⟨#[98]⟩)), (c_ (.string ⟨#[]⟩))] [])],
   r_ [m_ 11 0, i_ 12 (.call 40 [(x_ 11), (c_ (.string ⟨#[97]⟩)), (c_ (.string ⟨#[97, 97]⟩)), (n_ 1)] [.any, .bool]), m_ 10 12, i_ 13 (.extract (x_ 10) 0), i_ 14 (.extract (x_ 10) 1), u_ (.store 1 none (x_ 1) (x_ 13)), u_ (.store 1 none (x_ 2) (x_ 14))]]⟩


/-! 39: wharfage/wharfagelaw15.set -/
def law15_set.pol : Pol := { pure := [76], heap := [999999], ro := roList }
def law15_set.a : AFun := ⟨3, [],
  sq [r_ [m_ 6 0, m_ 7 1, i_ 8 (.call 42 [(x_ 6), (x_ 7)] [])],
   r_ [m_ 9 0, m_ 10 1, m_ 11 0, m_ 12 2, i_ 13 (.call 77 [(x_ 11), (x_ 12)] [.ag]), i_ 14 (.callP 76 [(x_ 13)] [.str]), i_ 15 (.call 75 [(x_ 9), (x_ 10), (x_ 14)] [])]]⟩


/-! 40: (*wharfage/kv.Tx).Scan -/
def kv_Tx_Scan.pol : Pol := { pure := [78], heap := [999999], ro := roList, rs := [8, 9], live := [([1, 3, 11, 12], [3, 11, 12])] }
def kv_Tx_Scan.L0 : ACode :=
  sq [sq [r_ [m_ 32 12, m_ 33 11, i_ 34 (.lenL (x_ 33)), i_ 35 (.bin .lss (x_ 32) (x_ 34)), m_ 36 35, gm_ 36 37 11, gm_ 36 38 12, g_ 36 39 (.indexAddrS 2 (x_ 37) (x_ 38)), g_ 36 40 (.addr 0 (x_ 39)), g_ 36 41 (.load [.str] false none (x_ 40)), gm_ 36 42 1, g_ 36 43 (.callP 78 [(x_ 41), (x_ 42)] [.bool]), i_ 44 (.pick (x_ 36) (x_ 43) F_)],
    if_ 44 (.skip) (.exit 0)],
   .block 1 (r_ [m_ 45 12, i_ 46 (.bin .add (x_ 45) (n_ 1)), m_ 12 46])]
def kv_Tx_Scan.a : AFun := ⟨4, [.tmp 8, .tmp 9],
  sq [r_ [i_ 8 (.nilS 2), i_ 9 (.mov F_)],
   r_ [m_ 13 1, m_ 10 13],
   sq [r_ [m_ 14 2, m_ 15 1, i_ 16 (.bin .geq (x_ 14) (x_ 15))],
    if_ 16 (r_ [m_ 17 2, i_ 18 (.bin .add (x_ 17) (c_ (.string ⟨#[0]⟩))), m_ 10 18]) (.skip)],
   r_ [m_ 19 3, i_ 20 (.minmax true [(x_ 19), (n_ 0)]), m_ 3 20],
   sq [r_ [m_ 21 3, i_ 22 (.bin .lss (x_ 21) (n_ 1048576))],
    if_ 22 (r_ [m_ 23 3, i_ 24 (.bin .add (x_ 23) (n_ 1)), m_ 3 24]) (.skip)],
   r_ [m_ 25 0, i_ 26 (.nilCk (x_ 25)), i_ 27 (.addr 0 (x_ 26)), i_ 28 (.load [.any] false none (x_ 27)), m_ 29 10, m_ 30 3, i_ 31 (.call 33 [(x_ 28), (x_ 29), (x_ 30)] [.any]), m_ 11 31],
   r_ [i_ 12 (.mov (n_ 0))],
   .block 0 (.loop [1, 3, 11, 12] [3, 11, 12] [8, 9] kv_Tx_Scan.L0),
   sq [r_ [m_ 47 12, m_ 48 3, i_ 49 (.bin .eql (x_ 47) (x_ 48))],
    if_ 49 (sq [r_ [m_ 50 11, m_ 51 12, i_ 52 (.bin .sub (x_ 51) (n_ 1)), i_ 53 (.sliceV 2 (x_ 50) none (some (x_ 52))), m_ 8 53, i_ 9 (.mov T_)],
      .ret]) (.skip)],
   r_ [m_ 54 11, m_ 55 12, i_ 56 (.sliceV 2 (x_ 54) none (some (x_ 55))), m_ 8 56, i_ 9 (.mov F_)],
   .ret]⟩
def kv_Tx_Scan.R0 (C : CallF) (N : Nat) := round (evalC C N kv_Tx_Scan.L0) [1, 3, 11, 12] [3, 11, 12] [8, 9]
def kv_Tx_Scan.K0 (C : CallF) (N : Nat) : Ex → St → R := contC C N [.snd, .snd, .snd, .snd, .snd, .snd, .snd, .fst, .blk] kv_Tx_Scan.a.body (finish kv_Tx_Scan.a)


/-! 41: wharfage/wharfagelaw15.lives$2 -/
def law15_lives_2.pol : Pol := { heap := [999999], ro := roList }
def law15_lives_2.a : AFun := ⟨1, [],
  sq [r_ [m_ 2 0, i_ 3 (.call 42 [(x_ 2), (c_ (.string ⟨#[97, 98]⟩))] [])],
   r_ [m_ 4 0, i_ 5 (.callR 43 [(x_ 4), (n_ 12)] [])]]⟩


/-! 42: wharfage/wharfagelaw15.unset -/
def law15_unset.pol : Pol := { pure := [15], heap := [999999], gret := [15], ro := roList, root := [(7, 7)], live := [([0, 1, 18, 19, 20], [0, 1])] }
def law15_unset.L0 : ACode :=
  sq [r_ [i_ 21 (.bin .lss (x_ 20) (x_ 19))],
   if_ 21 (.skip) (.exit 0),
   .block 1 (sq [r_ [i_ 22 (.indexAddrS 2 (x_ 18) (x_ 20)), i_ 23 (.load [ix, ix] true none (x_ 22)), i_ 7 (.allocL [(.at (.int .i64 0)), (.at (.int .i64 0))]), u_ (.store 2 (some 7) (x_ 7) (x_ 23))],
     r_ [m_ 24 0, i_ 25 (.load [ix, ix] true (some 7) (x_ 7)), i_ 26 (.call 80 [(x_ 24), (x_ 25)] [])]]),
   r_ [i_ 27 (.bin .add (x_ 20) (n_ 1)), m_ 20 27]]
def law15_unset.a : AFun := ⟨2, [],
  sq [r_ [m_ 9 0, m_ 10 1, i_ 11 (.call 79 [(x_ 9), (x_ 10)] [.str, .bool]), m_ 8 11, i_ 12 (.extract (x_ 8) 0), i_ 13 (.extract (x_ 8) 1), m_ 4 12, m_ 5 13],
   sq [r_ [m_ 14 5, i_ 15 (.un .not (x_ 14))],
    if_ 15 (.ret) (.skip)],
   sq [r_ [m_ 16 4, i_ 17 (.build [(.at (.string ⟨#[]⟩)), (.at (.string ⟨#[]⟩))] [(1, 1, (x_ 16))]), i_ 18 (.callD 15 [(x_ 17)] [.sl 2]), i_ 19 (.lenL (x_ 18)), i_ 20 (.mov (n_ 0))],
    .block 0 (.loop [0, 1, 18, 19, 20] [0, 1] [] law15_unset.L0)],
   r_ [m_ 28 0, m_ 29 1, i_ 30 (.call 81 [(x_ 28), (x_ 29)] [.bool])]]⟩
def law15_unset.R0 (C : CallF) (N : Nat) := round (evalC C N law15_unset.L0) [0, 1, 18, 19, 20] [0, 1] []
def law15_unset.K0 (C : CallF) (N : Nat) : Ex → St → R := contC C N [.snd, .snd, .fst, .snd, .blk] law15_unset.a.body (finish law15_unset.a)


/-! 43: (*wharfage/kv.Tx).Stop -/
def kv_Tx_Stop.pol : Pol := { heap := [999999], ro := roList }
def kv_Tx_Stop.a : AFun := ⟨2, [],
  r_ [m_ 4 0, i_ 5 (.nilCk (x_ 4)), i_ 6 (.addr 0 (x_ 5)), i_ 7 (.load [.any] false none (x_ 6)), m_ 8 1, i_ 9 (.callR 82 [(x_ 7), (x_ 8)] [])]⟩


/-! 44: wharfage/wharfageref12.SameItems -/
def ref12_SameItems.pol : Pol := { heap := [999999], ro := roList, rs := [4], live := [([0, 1, 5], [])] }
def ref12_SameItems.L0 : ACode :=
  sq [sq [r_ [m_ 11 5, m_ 12 0, i_ 13 (.lenL (x_ 12)), i_ 14 (.bin .lss (x_ 11) (x_ 13))],
    if_ 14 (.skip) (.exit 0)],
   .block 1 (sq [d_ [m_ 17 0, m_ 18 5, i_ 19 (.indexAddrS 2 (x_ 17) (x_ 18)), i_ 20 (.load [.str, .str] true none (x_ 19)), m_ 21 1, m_ 22 5, i_ 23 (.indexAddrS 2 (x_ 21) (x_ 22)), i_ 24 (.load [.str, .str] true none (x_ 23)), i_ 25 (.eqA true [.str, .str] 60 (x_ 20) (x_ 24))],
     if_ 25 (sq [r_ [i_ 4 (.mov F_)],
       .ret]) (.skip)]),
   r_ [m_ 15 5, i_ 16 (.bin .add (x_ 15) (n_ 1)), m_ 5 16]]
def ref12_SameItems.a : AFun := ⟨2, [.tmp 4],
  sq [r_ [i_ 4 (.mov F_)],
   sq [r_ [m_ 6 0, i_ 7 (.lenL (x_ 6)), m_ 8 1, i_ 9 (.lenL (x_ 8)), i_ 10 (.bin .neq (x_ 7) (x_ 9))],
    if_ 10 (sq [r_ [i_ 4 (.mov F_)],
      .ret]) (.skip)],
   sq [r_ [i_ 5 (.mov (n_ 0))],
    .block 0 (.loop [0, 1, 5] [] [4] ref12_SameItems.L0)],
   r_ [i_ 4 (.mov T_)],
   .ret]⟩
def ref12_SameItems.R0 (C : CallF) (N : Nat) := round (evalC C N ref12_SameItems.L0) [0, 1, 5] [] [4]
def ref12_SameItems.K0 (C : CallF) (N : Nat) : Ex → St → R := contC C N [.snd, .snd, .fst, .snd, .blk] ref12_SameItems.a.body (finish ref12_SameItems.a)


/-! 45: wharfage/wharfagelaw15.list -/
def law15_list.pol : Pol := { glob := [3], heap := [999999], ro := roList, rs := [2] }
def law15_list.a : AFun := ⟨1, [.tmp 2],
  sq [r_ [i_ 2 (.nilS 2)],
   r_ [i_ 3 (.allocG none [(.sl true 2 [])])],
   r_ [m_ 4 0, i_ 5 (.makeFunc 83 [] [(x_ 3)]), i_ 6 (.call 8 [(x_ 4), (x_ 5)] [ix])],
   r_ [i_ 7 (.load [.sl 2] false none (x_ 3)), m_ 2 7],
   .ret]⟩


/-! 46: wharfage/pages.Size -/
def pages_Size.pol : Pol := { pure := [85], heap := [999999], ro := roList, rs := [4, 5] }
def pages_Size.a : AFun := ⟨2, [.tmp 4, .tmp 5],
  sq [r_ [i_ 4 (.mov (n_ 0)), i_ 5 (.mov (n_ 0))],
   sq [r_ [m_ 6 0, m_ 7 1, i_ 8 (.callP 85 [(x_ 6), (x_ 7)] [.bool]), i_ 9 (.un .not (x_ 8))],
    if_ 9 (sq [r_ [i_ 4 (.mov (n_ 0)), i_ 5 (.mov (n_ 18))],
      .ret]) (.skip)],
   r_ [m_ 10 1, i_ 11 (.bin .add (n_ 1) (x_ 10)), m_ 12 0, i_ 13 (.bin .add (x_ 11) (x_ 12)), m_ 4 13, i_ 5 (.mov (n_ 0))],
   .ret]⟩


/-! 47: (*wharfage/disk.Disk).Len -/
def disk_Disk_Len.pol : Pol := { heap := [999999], ro := roList, rs := [2] }
def disk_Disk_Len.a : AFun := ⟨1, [.tmp 2],
  sq [r_ [i_ 2 (.mov (n_ 0))],
   sq [r_ [m_ 3 0, i_ 4 (.nilCmp false 1 (x_ 3))],
    if_ 4 (sq [r_ [i_ 2 (.mov (n_ 0))],
      .ret]) (.skip)],
   r_ [m_ 5 0, i_ 6 (.nilCk (x_ 5)), i_ 7 (.addr 0 (x_ 6)), i_ 8 (.load [.sl 1] false none (x_ 7)), i_ 9 (.lenL (x_ 8)), m_ 2 9],
   .ret]⟩


/-! 48: (*wharfage/disk.Disk).Write -/
def disk_Disk_Write.pol : Pol := { heap := [999999], ro := roList, rs := [6] }
def disk_Disk_Write.a : AFun := ⟨3, [.tmp 6],
  sq [r_ [i_ 6 (.mov (n_ 0))],
   sq [r_ [m_ 8 0, m_ 9 1, i_ 10 (.callR 86 [(x_ 8), (x_ 9)] [.bool]), i_ 11 (.un .not (x_ 10)), m_ 12 11, hm_ 12 13 2, h_ 12 14 (.lenS (x_ 13)), h_ 12 15 (.bin .neq (x_ 14) (n_ 512)), i_ 16 (.pick (x_ 12) T_ (x_ 15))],
    if_ 16 (sq [r_ [i_ 6 (.mov (n_ 18))],
      .ret]) (.skip)],
   r_ [m_ 17 0, i_ 18 (.call 87 [(x_ 17)] [ix]), m_ 7 18],
   sq [r_ [m_ 19 7, i_ 20 (.bin .eql (x_ 19) (n_ 0))],
    if_ 20 (r_ [m_ 21 0, m_ 22 0, i_ 23 (.nilCk (x_ 22)), i_ 24 (.addr 1 (x_ 23)), i_ 25 (.load [.sl 2] false none (x_ 24)), m_ 26 1, m_ 27 2, i_ 28 (.build [(.at (.int .i64 0)), (.at (.string ⟨#[]⟩))] [(0, 1, (x_ 26)), (1, 1, (x_ 27))]), i_ 29 (.buildG 2 [(x_ 28)]), i_ 30 (.appendH none 2 24 (x_ 25) (x_ 29)), i_ 31 (.nilCk (x_ 21)), i_ 32 (.addr 1 (x_ 31)), u_ (.store 1 none (x_ 32) (x_ 30))]) (.skip)],
   r_ [m_ 33 7, m_ 6 33],
   .ret]⟩


/-! 49: wharfage/sector.Blank -/
def sector_Blank.pol : Pol := { pure := [88], heap := [999999], ro := roList, rs := [0] }
def sector_Blank.a : AFun := ⟨0, [.tmp 0],
  sq [r_ [i_ 0 (.mov (c_ (.string ⟨#[]⟩)))],
   r_ [i_ 1 (.callP 88 [(c_ (.string ⟨#[]⟩)), (n_ 512)] [.str]), m_ 0 1],
   .ret]⟩


/-! 50: (*wharfage/disk.Disk).Flush -/
def disk_Disk_Flush.pol : Pol := { pure := [90], heap := [999999], ro := roList, rs := [2] }
def disk_Disk_Flush.a : AFun := ⟨1, [.tmp 2],
  sq [r_ [i_ 2 (.mov (n_ 0))],
   sq [r_ [m_ 4 0, i_ 5 (.nilCmp false 1 (x_ 4))],
    if_ 5 (sq [r_ [i_ 2 (.mov (n_ 18))],
      .ret]) (.skip)],
   r_ [m_ 6 0, i_ 7 (.call 87 [(x_ 6)] [ix]), m_ 3 7],
   sq [r_ [m_ 8 3, i_ 9 (.bin .eql (x_ 8) (n_ 0))],
    if_ 9 (r_ [m_ 10 0, i_ 11 (.call 89 [(x_ 10), (.func 90)] [ix])]) (.skip)],
   r_ [m_ 12 3, m_ 2 12],
   .ret]⟩


/-! 51: wharfage/pages.held -/
def pages_held.pol : Pol := { glob := [15], pure := [88], heap := [999999], ro := roList, rs := [6] }
def pages_held.a : AFun := ⟨3, [.tmp 6],
  sq [r_ [i_ 6 (.mov (c_ (.pointer none)))],
   r_ [m_ 7 0, m_ 8 2, i_ 9 (.callP 88 [(c_ (.string ⟨#[]⟩)), (n_ 480)] [.str]), i_ 10 (.buildG 1 [(x_ 9)]), m_ 11 1, i_ 12 (.call 91 [(x_ 10), (x_ 11)] [.any]), i_ 13 (.mkMap), i_ 14 (.build [(.at (.pointer none)), (.at (.int .i64 0)), (.sl true 1 []), (.at (.map none)), (.at (.pointer none)), (.at (.int .i64 0))] [(0, 1, (x_ 7)), (1, 1, (x_ 8)), (2, 1, (x_ 12)), (3, 1, (x_ 13))]), i_ 15 (.boxG (x_ 14)), m_ 6 15],
   .ret]⟩


/-! 52: (*wharfage/pages.Store).write -/
def pages_Store_write.pol : Pol := { pure := [92], heap := [999999], ro := roList, rs := [4] }
def pages_Store_write.a : AFun := ⟨2, [.tmp 4],
  sq [r_ [i_ 4 (.mov (n_ 0))],
   d_ [m_ 10 0, i_ 11 (.nilCk (x_ 10)), i_ 12 (.addr 2 (x_ 11)), i_ 13 (.load [.sl 1] false none (x_ 12)), i_ 14 (.lenL (x_ 13)), m_ 15 0, i_ 16 (.nilCk (x_ 15)), i_ 17 (.addr 1 (x_ 16)), i_ 18 (.load [ix] false none (x_ 17)), m_ 19 1, i_ 20 (.callP 92 [(x_ 14), (x_ 18), (x_ 19)] [.str, ix]), m_ 9 20, i_ 21 (.extract (x_ 9) 0), i_ 22 (.extract (x_ 9) 1), m_ 5 21, m_ 6 22],
   sq [r_ [m_ 23 6, i_ 24 (.bin .neq (x_ 23) (n_ 0))],
    if_ 24 (sq [r_ [m_ 25 6, m_ 4 25],
      .ret]) (.skip)],
   sq [r_ [m_ 26 0, i_ 27 (.nilCk (x_ 26)), i_ 28 (.addr 0 (x_ 27)), i_ 29 (.load [.any] false none (x_ 28)), m_ 30 5, i_ 31 (.call 48 [(x_ 29), (n_ 0), (x_ 30)] [ix]), m_ 7 31],
    r_ [m_ 32 7, i_ 33 (.bin .neq (x_ 32) (n_ 0))],
    if_ 33 (sq [r_ [m_ 34 7, m_ 4 34],
      .ret]) (.skip)],
   sq [r_ [m_ 35 0, i_ 36 (.nilCk (x_ 35)), i_ 37 (.addr 0 (x_ 36)), i_ 38 (.load [.any] false none (x_ 37)), i_ 39 (.call 50 [(x_ 38)] [ix]), m_ 8 39],
    r_ [m_ 40 8, i_ 41 (.bin .neq (x_ 40) (n_ 0))],
    if_ 41 (sq [r_ [m_ 42 8, m_ 4 42],
      .ret]) (.skip)],
   d_ [m_ 44 0, m_ 45 0, i_ 46 (.nilCk (x_ 45)), i_ 47 (.addr 0 (x_ 46)), i_ 48 (.load [.any] false none (x_ 47)), m_ 49 0, i_ 50 (.nilCk (x_ 49)), i_ 51 (.addr 1 (x_ 50)), i_ 52 (.load [ix] false none (x_ 51)), m_ 53 1, i_ 54 (.call 93 [(x_ 48), (x_ 52), (x_ 53)] [.any, ix]), m_ 43 54, i_ 55 (.extract (x_ 43) 0), i_ 56 (.extract (x_ 43) 1), i_ 57 (.nilCk (x_ 44)), i_ 58 (.addr 4 (x_ 57)), u_ (.store 1 none (x_ 58) (x_ 55)), m_ 6 56],
   r_ [m_ 59 6, m_ 4 59],
   .ret]⟩


/-! 53: wharfage/pages.open -/
def pages_open.pol : Pol := { pure := [46, 92, 95], heap := [999999], ro := roList, root := [(7, 7), (29, 7), (31, 7), (37, 7), (39, 7), (41, 7), (60, 7), (62, 7), (65, 7)], rs := [2, 3, 4] }
def pages_open.a : AFun := ⟨1, [.tmp 2, .tmp 3, .tmp 4],
  sq [r_ [i_ 2 (.mov (c_ (.pointer none))), i_ 3 (.mov (k_ .u64 0)), i_ 4 (.mov (n_ 0))],
   r_ [m_ 13 0, i_ 14 (.call 94 [(x_ 13), (n_ 0)] [.str, ix]), m_ 12 14, i_ 15 (.extract (x_ 12) 0), i_ 16 (.extract (x_ 12) 1), m_ 5 15, m_ 6 16],
   sq [r_ [m_ 17 6, i_ 18 (.bin .neq (x_ 17) (n_ 0))],
    if_ 18 (sq [r_ [m_ 19 6, i_ 2 (.mov (c_ (.pointer none))), i_ 3 (.mov (k_ .u64 0)), m_ 4 19],
      .ret]) (.skip)],
   r_ [m_ 21 5, i_ 22 (.callP 95 [(x_ 21)] [.ag, ix]), m_ 20 22, i_ 23 (.extract (x_ 20) 0), i_ 24 (.extract (x_ 20) 1), i_ 7 (.allocL [(.at (.int .i64 0)), (.at (.int .u64 0)), (.at (.int .u64 0)), (.at (.int .i64 0)), (.at (.int .i64 0)), (.at (.string ⟨#[]⟩))]), u_ (.store 6 (some 7) (x_ 7) (x_ 23)), m_ 6 24],
   sq [r_ [m_ 25 6, i_ 26 (.bin .neq (x_ 25) (n_ 0))],
    if_ 26 (sq [r_ [m_ 27 6, i_ 2 (.mov (c_ (.pointer none))), i_ 3 (.mov (k_ .u64 0)), m_ 4 27],
      .ret]) (.skip)],
   r_ [i_ 29 (.addr 3 (x_ 7)), i_ 30 (.load [ix] false (some 7) (x_ 29)), i_ 31 (.addr 4 (x_ 7)), i_ 32 (.load [ix] false (some 7) (x_ 31)), i_ 33 (.callP 46 [(x_ 30), (x_ 32)] [ix, ix]), m_ 28 33, i_ 34 (.extract (x_ 28) 0), i_ 35 (.extract (x_ 28) 1), m_ 8 34, m_ 9 35],
   r_ [i_ 37 (.addr 3 (x_ 7)), i_ 38 (.load [ix] false (some 7) (x_ 37)), i_ 39 (.addr 4 (x_ 7)), i_ 40 (.load [ix] false (some 7) (x_ 39)), i_ 41 (.addr 1 (x_ 7)), i_ 42 (.load [.int .u64] false (some 7) (x_ 41)), i_ 43 (.callP 92 [(x_ 38), (x_ 40), (x_ 42)] [.str, ix]), m_ 36 43, i_ 44 (.extract (x_ 36) 0), i_ 45 (.extract (x_ 36) 1), m_ 10 44, m_ 11 45],
   sq [r_ [m_ 46 9, i_ 47 (.bin .neq (x_ 46) (n_ 0)), m_ 48 47, hm_ 48 49 8, hm_ 48 50 0, h_ 48 51 (.callR 47 [(x_ 50)] [ix]), h_ 48 52 (.bin .neq (x_ 49) (x_ 51)), i_ 53 (.pick (x_ 48) T_ (x_ 52)), m_ 54 53, hm_ 54 55 5, hm_ 54 56 10, h_ 54 57 (.bin .neq (x_ 55) (x_ 56)), i_ 58 (.pick (x_ 54) T_ (x_ 57))],
    if_ 58 (sq [r_ [i_ 2 (.mov (c_ (.pointer none))), i_ 3 (.mov (k_ .u64 0)), i_ 4 (.mov (n_ 19))],
      .ret]) (.skip)],
   d_ [m_ 59 0, i_ 60 (.addr 3 (x_ 7)), i_ 61 (.load [ix] false (some 7) (x_ 60)), i_ 62 (.addr 4 (x_ 7)), i_ 63 (.load [ix] false (some 7) (x_ 62)), i_ 64 (.call 51 [(x_ 59), (x_ 61), (x_ 63)] [.any]), i_ 65 (.addr 1 (x_ 7)), i_ 66 (.load [.int .u64] false (some 7) (x_ 65)), m_ 2 64, m_ 3 66, i_ 4 (.mov (n_ 0))],
   .ret]⟩


/-! 54: (*wharfage/pages.Store).read -/
def pages_Store_read.pol : Pol := { pure := [97], heap := [999999], ro := roList, rs := [2], live := [([0, 10, 11], [])] }
def pages_Store_read.L0 : ACode :=
  sq [r_ [i_ 12 (.bin .lss (x_ 11) (x_ 10))],
   if_ 12 (.skip) (.exit 0),
   .block 1 (sq [r_ [m_ 13 11, m_ 3 13],
     d_ [m_ 15 0, i_ 16 (.nilCk (x_ 15)), i_ 17 (.addr 0 (x_ 16)), i_ 18 (.load [.any] false none (x_ 17)), m_ 19 0, m_ 20 3, i_ 21 (.callR 96 [(x_ 19), (x_ 20)] [ix]), i_ 22 (.call 94 [(x_ 18), (x_ 21)] [.str, ix]), m_ 14 22, i_ 23 (.extract (x_ 14) 0), i_ 24 (.extract (x_ 14) 1), m_ 4 23, m_ 5 24],
     sq [r_ [m_ 25 5, i_ 26 (.bin .neq (x_ 25) (n_ 0))],
      if_ 26 (sq [r_ [m_ 27 5, m_ 2 27],
        .ret]) (.skip)],
     d_ [m_ 29 0, i_ 30 (.nilCk (x_ 29)), i_ 31 (.addr 2 (x_ 30)), i_ 32 (.load [.sl 1] false none (x_ 31)), m_ 33 3, m_ 34 4, m_ 35 3, i_ 36 (.callP 97 [(x_ 34), (x_ 35)] [.str, ix]), m_ 28 36, i_ 37 (.extract (x_ 28) 0), i_ 38 (.extract (x_ 28) 1), i_ 39 (.indexAddrS 1 (x_ 32) (x_ 33)), u_ (.store 1 none (x_ 39) (x_ 37)), m_ 5 38],
     r_ [m_ 40 5, i_ 41 (.bin .neq (x_ 40) (n_ 0))],
     if_ 41 (sq [r_ [m_ 42 5, m_ 2 42],
       .ret]) (.skip)]),
   r_ [i_ 43 (.bin .add (x_ 11) (n_ 1)), m_ 11 43]]
def pages_Store_read.a : AFun := ⟨1, [.tmp 2],
  sq [r_ [i_ 2 (.mov (n_ 0))],
   sq [r_ [m_ 6 0, i_ 7 (.nilCk (x_ 6)), i_ 8 (.addr 2 (x_ 7)), i_ 9 (.load [.sl 1] false none (x_ 8)), i_ 10 (.lenL (x_ 9)), i_ 11 (.mov (n_ 0))],
    .block 0 (.loop [0, 10, 11] [] [2] pages_Store_read.L0)],
   r_ [i_ 2 (.mov (n_ 0))],
   .ret]⟩
def pages_Store_read.R0 (C : CallF) (N : Nat) := round (evalC C N pages_Store_read.L0) [0, 10, 11] [] [2]
def pages_Store_read.K0 (C : CallF) (N : Nat) : Ex → St → R := contC C N [.snd, .fst, .snd, .blk] pages_Store_read.a.body (finish pages_Store_read.a)


/-! 55: (*wharfage/pages.Store).replay -/
def pages_Store_replay.pol : Pol := { heap := [999999], ro := roList, rs := [4], live := [([0, 25, 26, 27], [])] }
def pages_Store_replay.L0 : ACode :=
  sq [r_ [i_ 28 (.bin .lss (x_ 27) (x_ 26))],
   if_ 28 (.skip) (.exit 0),
   .block 1 (sq [r_ [i_ 29 (.indexAddrS 1 (x_ 25) (x_ 27)), i_ 30 (.load [.sl 2] false none (x_ 29)), m_ 8 30],
     sq [r_ [m_ 31 0, m_ 32 8, i_ 33 (.call 99 [(x_ 31), (x_ 32)] [.bool]), i_ 34 (.un .not (x_ 33))],
      if_ 34 (sq [r_ [i_ 4 (.mov (n_ 19))],
        .ret]) (.skip)],
     r_ [m_ 35 0, m_ 36 8, i_ 37 (.call 100 [(x_ 35), (x_ 36)] [])]]),
   r_ [i_ 38 (.bin .add (x_ 27) (n_ 1)), m_ 27 38]]
def pages_Store_replay.a : AFun := ⟨2, [.tmp 4],
  sq [r_ [i_ 4 (.mov (n_ 0))],
   d_ [m_ 10 0, i_ 11 (.nilCk (x_ 10)), i_ 12 (.addr 0 (x_ 11)), i_ 13 (.load [.any] false none (x_ 12)), m_ 14 0, i_ 15 (.nilCk (x_ 14)), i_ 16 (.addr 1 (x_ 15)), i_ 17 (.load [ix] false none (x_ 16)), m_ 18 1, i_ 19 (.call 98 [(x_ 13), (x_ 17), (x_ 18)] [.any, ix]), m_ 9 19, i_ 20 (.extract (x_ 9) 0), i_ 21 (.extract (x_ 9) 1), m_ 5 20, m_ 6 21],
   sq [r_ [m_ 22 6, i_ 23 (.bin .neq (x_ 22) (n_ 0))],
    if_ 23 (sq [r_ [m_ 24 6, m_ 4 24],
      .ret]) (.skip)],
   sq [r_ [m_ 25 5, i_ 26 (.lenL (x_ 25)), i_ 27 (.mov (n_ 0))],
    .block 0 (.loop [0, 25, 26, 27] [] [4] pages_Store_replay.L0)],
   r_ [i_ 4 (.mov (n_ 0))],
   .ret]⟩
def pages_Store_replay.R0 (C : CallF) (N : Nat) := round (evalC C N pages_Store_replay.L0) [0, 25, 26, 27] [] [4]
def pages_Store_replay.K0 (C : CallF) (N : Nat) : Ex → St → R := contC C N [.snd, .snd, .snd, .fst, .snd, .blk] pages_Store_replay.a.body (finish pages_Store_replay.a)


/-! 56: (*wharfage/pages.Store).checkpoint -/
def pages_Store_checkpoint.pol : Pol := { pure := [103], heap := [999999], ro := roList, rs := [4], live := [([0, 1, 26, 27, 28], [0, 1])] }
def pages_Store_checkpoint.L0 : ACode :=
  sq [r_ [i_ 29 (.bin .lss (x_ 28) (x_ 27))],
   if_ 29 (.skip) (.exit 0),
   .block 1 (sq [r_ [i_ 30 (.indexAddrS 1 (x_ 26) (x_ 28)), i_ 31 (.load [ix] false none (x_ 30)), m_ 7 31],
     r_ [m_ 33 7, m_ 34 0, i_ 35 (.nilCk (x_ 34)), i_ 36 (.addr 2 (x_ 35)), i_ 37 (.load [.sl 1] false none (x_ 36)), m_ 38 7, i_ 39 (.indexAddrS 1 (x_ 37) (x_ 38)), i_ 40 (.load [.str] false none (x_ 39)), i_ 41 (.callP 103 [(x_ 33), (x_ 40)] [.str, ix]), m_ 32 41, i_ 42 (.extract (x_ 32) 0), i_ 43 (.extract (x_ 32) 1), m_ 8 42, m_ 9 43],
     sq [r_ [m_ 44 9, i_ 45 (.bin .neq (x_ 44) (n_ 0))],
      if_ 45 (sq [r_ [m_ 46 9, m_ 4 46],
        .ret]) (.skip)],
     d_ [m_ 47 0, i_ 48 (.nilCk (x_ 47)), i_ 49 (.addr 0 (x_ 48)), i_ 50 (.load [.any] false none (x_ 49)), m_ 51 0, m_ 52 7, i_ 53 (.callR 96 [(x_ 51), (x_ 52)] [ix]), m_ 54 8, i_ 55 (.call 48 [(x_ 50), (x_ 53), (x_ 54)] [ix]), m_ 10 55],
     r_ [m_ 56 10, i_ 57 (.bin .neq (x_ 56) (n_ 0))],
     if_ 57 (sq [r_ [m_ 58 10, m_ 4 58],
       .ret]) (.skip)]),
   r_ [i_ 59 (.bin .add (x_ 28) (n_ 1)), m_ 28 59]]
def pages_Store_checkpoint.a : AFun := ⟨2, [.tmp 4],
  sq [r_ [i_ 4 (.mov (n_ 0))],
   sq [r_ [m_ 13 0, i_ 14 (.nilCk (x_ 13)), i_ 15 (.addr 0 (x_ 14)), i_ 16 (.load [.any] false none (x_ 15)), i_ 17 (.call 50 [(x_ 16)] [ix]), m_ 5 17],
    r_ [m_ 18 5, i_ 19 (.bin .neq (x_ 18) (n_ 0))],
    if_ 19 (sq [r_ [m_ 20 5, m_ 4 20],
      .ret]) (.skip)],
   sq [r_ [m_ 21 0, i_ 22 (.nilCk (x_ 21)), i_ 23 (.addr 3 (x_ 22)), i_ 24 (.load [.any] false none (x_ 23)), i_ 25 (.call 102 [(x_ 24)] [.any]), i_ 26 (.call 101 [(x_ 25)] [.any]), i_ 27 (.lenL (x_ 26)), i_ 28 (.mov (n_ 0))],
    .block 0 (.loop [0, 1, 26, 27, 28] [0, 1] [4] pages_Store_checkpoint.L0)],
   sq [r_ [m_ 60 0, i_ 61 (.nilCk (x_ 60)), i_ 62 (.addr 0 (x_ 61)), i_ 63 (.load [.any] false none (x_ 62)), i_ 64 (.call 50 [(x_ 63)] [ix]), m_ 11 64],
    r_ [m_ 65 11, i_ 66 (.bin .neq (x_ 65) (n_ 0))],
    if_ 66 (sq [r_ [m_ 67 11, m_ 4 67],
      .ret]) (.skip)],
   sq [r_ [m_ 68 0, m_ 69 1, i_ 70 (.call 52 [(x_ 68), (x_ 69)] [ix]), m_ 12 70],
    r_ [m_ 71 12, i_ 72 (.bin .neq (x_ 71) (n_ 0))],
    if_ 72 (sq [r_ [m_ 73 12, m_ 4 73],
      .ret]) (.skip)],
   r_ [m_ 74 0, i_ 75 (.nilCk (x_ 74)), i_ 76 (.addr 3 (x_ 75)), i_ 77 (.load [.any] false none (x_ 76)), u_ (.mapClr (x_ 77))],
   r_ [m_ 78 0, i_ 79 (.nilCk (x_ 78)), i_ 80 (.addr 5 (x_ 79)), u_ (.store 1 none (x_ 80) (n_ 0))],
   r_ [i_ 4 (.mov (n_ 0))],
   .ret]⟩
def pages_Store_checkpoint.R0 (C : CallF) (N : Nat) := round (evalC C N pages_Store_checkpoint.L0) [0, 1, 26, 27, 28] [0, 1] [4]
def pages_Store_checkpoint.K0 (C : CallF) (N : Nat) : Ex → St → R := contC C N [.snd, .snd, .fst, .snd, .blk] pages_Store_checkpoint.a.body (finish pages_Store_checkpoint.a)


/-! 58: (*wharfage/heap.Heap).images -/
def heap_Heap_images.pol : Pol := { heap := [999999], ro := roList, rs := [2], live := [([0, 3, 13, 14, 15], [3])] }
def heap_Heap_images.L0 : ACode :=
  sq [r_ [i_ 16 (.bin .lss (x_ 15) (x_ 14))],
   if_ 16 (.skip) (.exit 0),
   .block 1 (sq [r_ [i_ 17 (.indexAddrS 1 (x_ 13) (x_ 15)), i_ 18 (.load [ix] false none (x_ 17)), m_ 5 18],
     r_ [m_ 20 0, i_ 21 (.nilCk (x_ 20)), i_ 22 (.addr 0 (x_ 21)), i_ 23 (.load [.any] false none (x_ 22)), m_ 24 5, i_ 25 (.callR 106 [(x_ 23), (x_ 24)] [.str, ix]), m_ 19 25, i_ 26 (.extract (x_ 19) 0), i_ 27 (.extract (x_ 19) 1), m_ 6 26, m_ 7 27],
     r_ [m_ 28 6, m_ 29 0, i_ 30 (.nilCk (x_ 29)), i_ 31 (.addr 1 (x_ 30)), i_ 32 (.load [.any] false none (x_ 31)), m_ 33 5, i_ 34 (.mapGet false [(.at (.string ⟨#[]⟩))] false false (x_ 32) (x_ 33)), i_ 35 (.bin .neq (x_ 28) (x_ 34))],
     if_ 35 (r_ [m_ 36 3, m_ 37 5, m_ 38 0, i_ 39 (.nilCk (x_ 38)), i_ 40 (.addr 1 (x_ 39)), i_ 41 (.load [.any] false none (x_ 40)), m_ 42 5, i_ 43 (.mapGet false [(.at (.string ⟨#[]⟩))] false false (x_ 41) (x_ 42)), i_ 44 (.build [(.at (.int .i64 0)), (.at (.string ⟨#[]⟩))] [(0, 1, (x_ 37)), (1, 1, (x_ 43))]), i_ 45 (.buildG 2 [(x_ 44)]), i_ 46 (.appendH none 2 24 (x_ 36) (x_ 45)), m_ 3 46]) (.skip)]),
   r_ [i_ 47 (.bin .add (x_ 15) (n_ 1)), m_ 15 47]]
def heap_Heap_images.a : AFun := ⟨1, [.tmp 2],
  sq [r_ [i_ 2 (.nilS 2)],
   r_ [i_ 3 (.nilS 2)],
   sq [r_ [m_ 8 0, i_ 9 (.nilCk (x_ 8)), i_ 10 (.addr 1 (x_ 9)), i_ 11 (.load [.any] false none (x_ 10)), i_ 12 (.call 105 [(x_ 11)] [.any]), i_ 13 (.call 101 [(x_ 12)] [.any]), i_ 14 (.lenL (x_ 13)), i_ 15 (.mov (n_ 0))],
    .block 0 (.loop [0, 3, 13, 14, 15] [3] [2] heap_Heap_images.L0)],
   r_ [m_ 48 3, m_ 2 48],
   .ret]⟩
def heap_Heap_images.R0 (C : CallF) (N : Nat) := round (evalC C N heap_Heap_images.L0) [0, 3, 13, 14, 15] [3] [2]
def heap_Heap_images.K0 (C : CallF) (N : Nat) : Ex → St → R := contC C N [.snd, .snd, .fst, .snd, .blk] heap_Heap_images.a.body (finish heap_Heap_images.a)


/-! 59: (*wharfage/pages.Store).Commit -/
def pages_Store_Commit.pol : Pol := { heap := [999999], ro := roList, rs := [4] }
def pages_Store_Commit.a : AFun := ⟨2, [.tmp 4],
  sq [r_ [i_ 4 (.mov (n_ 0))],
   .block 0 (sq [r_ [m_ 8 0, i_ 9 (.nilCmp false 1 (x_ 8)), m_ 10 9, hm_ 10 11 1, h_ 10 12 (.call 107 [(x_ 11)] [ix]), h_ 10 13 (.bin .neq (x_ 12) (n_ 0)), i_ 14 (.pick (x_ 10) T_ (x_ 13)), m_ 15 14, hm_ 15 16 0, hm_ 15 17 1, h_ 15 18 (.call 99 [(x_ 16), (x_ 17)] [.bool]), h_ 15 19 (.un .not (x_ 18)), i_ 20 (.pick (x_ 15) T_ (x_ 19)), m_ 7 20],
     if_ 7 (sq [r_ [i_ 4 (.mov (n_ 18))],
       .ret]) (sq [r_ [m_ 22 1, i_ 23 (.lenL (x_ 22)), m_ 24 0, i_ 25 (.nilCk (x_ 24)), i_ 26 (.addr 1 (x_ 25)), i_ 27 (.load [ix] false none (x_ 26)), i_ 28 (.bin .geq (x_ 23) (x_ 27)), m_ 21 28],
       if_ 21 (sq [r_ [i_ 4 (.mov (n_ 14))],
         .ret]) (sq [r_ [m_ 30 0, i_ 31 (.nilCk (x_ 30)), i_ 32 (.addr 0 (x_ 31)), i_ 33 (.load [.any] false none (x_ 32)), i_ 34 (.callR 108 [(x_ 33)] [.bool]), m_ 29 34],
         if_ 29 (sq [r_ [i_ 4 (.mov (n_ 17))],
           .ret]) (.skip)])])]),
   sq [r_ [m_ 35 1, i_ 36 (.lenL (x_ 35)), m_ 37 0, i_ 38 (.callR 109 [(x_ 37)] [ix]), i_ 39 (.bin .geq (x_ 36) (x_ 38))],
    if_ 39 (sq [r_ [m_ 40 0, m_ 41 0, i_ 42 (.callR 63 [(x_ 41)] [.int .u64]), i_ 43 (.bin .add (x_ 42) (k_ .u64 1)), i_ 44 (.call 56 [(x_ 40), (x_ 43)] [ix]), m_ 5 44],
      r_ [m_ 45 5, i_ 46 (.bin .neq (x_ 45) (n_ 0))],
      if_ 46 (sq [r_ [m_ 47 5, m_ 4 47],
        .ret]) (.skip)]) (.skip)],
   sq [r_ [m_ 48 0, i_ 49 (.nilCk (x_ 48)), i_ 50 (.addr 4 (x_ 49)), i_ 51 (.load [.any] false none (x_ 50)), m_ 52 1, i_ 53 (.call 110 [(x_ 51), (x_ 52)] [ix]), m_ 6 53],
    r_ [m_ 54 6, i_ 55 (.bin .neq (x_ 54) (n_ 0))],
    if_ 55 (sq [r_ [m_ 56 6, m_ 4 56],
      .ret]) (.skip)],
   r_ [m_ 57 0, m_ 58 1, i_ 59 (.call 100 [(x_ 57), (x_ 58)] [])],
   r_ [m_ 60 0, i_ 61 (.nilCk (x_ 60)), i_ 62 (.addr 5 (x_ 61)), i_ 63 (.load [ix] false none (x_ 62)), i_ 64 (.bin .add (x_ 63) (n_ 1)), i_ 65 (.nilCk (x_ 60)), i_ 66 (.addr 5 (x_ 65)), u_ (.store 1 none (x_ 66) (x_ 64))],
   r_ [i_ 4 (.mov (n_ 0))],
   .ret]⟩


/-! 60: wharfage/kv.on$1 -/
def kv_on_1.pol : Pol := { glob := [6], heap := [999999], ro := roList }
def kv_on_1.a : AFun := ⟨2, [],
  r_ [i_ 3 (.load [.any] false none (x_ 1)), m_ 4 0, i_ 5 (.build [(.at (.pointer none))] [(0, 1, (x_ 4))]), i_ 6 (.boxG (x_ 5)), i_ 7 (.callV (x_ 3) [(x_ 6)] [])]⟩


/-! 61: (*wharfage/pages.Store).may -/
def pages_Store_may.pol : Pol := { heap := [999999], ro := roList, rs := [2] }
def pages_Store_may.a : AFun := ⟨1, [.tmp 2],
  sq [r_ [i_ 2 (.mov (n_ 0))],
   .block 0 (sq [r_ [m_ 4 0, i_ 5 (.nilCmp false 1 (x_ 4)), m_ 3 5],
     if_ 3 (sq [r_ [i_ 2 (.mov (n_ 18))],
       .ret]) (sq [r_ [m_ 7 0, i_ 8 (.nilCk (x_ 7)), i_ 9 (.addr 0 (x_ 8)), i_ 10 (.load [.any] false none (x_ 9)), i_ 11 (.callR 108 [(x_ 10)] [.bool]), m_ 6 11],
       if_ 6 (sq [r_ [i_ 2 (.mov (n_ 17))],
         .ret]) (.skip)])]),
   r_ [i_ 2 (.mov (n_ 0))],
   .ret]⟩


/-! 62: (*wharfage/journal.Journal).Number -/
def journal_Journal_Number.pol : Pol := { heap := [999999], ro := roList, rs := [2] }
def journal_Journal_Number.a : AFun := ⟨1, [.tmp 2],
  sq [r_ [i_ 2 (.mov (k_ .u64 0))],
   sq [r_ [m_ 3 0, i_ 4 (.nilCmp false 1 (x_ 3))],
    if_ 4 (sq [r_ [i_ 2 (.mov (k_ .u64 0))],
      .ret]) (.skip)],
   r_ [m_ 5 0, i_ 6 (.nilCk (x_ 5)), i_ 7 (.addr 4 (x_ 6)), i_ 8 (.load [.int .u64] false none (x_ 7)), m_ 2 8],
   .ret]⟩


/-! 63: (*wharfage/pages.Store).Epoch -/
def pages_Store_Epoch.pol : Pol := { heap := [999999], ro := roList, rs := [2] }
def pages_Store_Epoch.a : AFun := ⟨1, [.tmp 2],
  sq [r_ [i_ 2 (.mov (k_ .u64 0))],
   sq [r_ [m_ 3 0, i_ 4 (.nilCmp false 1 (x_ 3))],
    if_ 4 (sq [r_ [i_ 2 (.mov (k_ .u64 0))],
      .ret]) (.skip)],
   r_ [m_ 5 0, i_ 6 (.nilCk (x_ 5)), i_ 7 (.addr 4 (x_ 6)), i_ 8 (.load [.any] false none (x_ 7)), i_ 9 (.callR 111 [(x_ 8)] [.int .u64]), m_ 2 9],
   .ret]⟩


/-! 64: wharfage/bitmap.Many -/
def bitmap_Many.pol : Pol := { pure := [112, 113, 114], heap := [999999], ro := roList, rs := [6], live := [([0, 2, 7, 8], [7])] }
def bitmap_Many.L0 : ACode :=
  sq [sq [r_ [m_ 17 8, m_ 18 2, i_ 19 (.bin .lss (x_ 17) (x_ 18))],
    if_ 19 (.skip) (.exit 0)],
   .block 1 (sq [sq [r_ [m_ 20 8, i_ 21 (.bin .rem (x_ 20) (n_ 8)), i_ 22 (.bin .eql (x_ 21) (n_ 0)), m_ 23 22, gm_ 23 24 8, g_ 23 25 (.bin .add (x_ 24) (n_ 8)), gm_ 23 26 2, g_ 23 27 (.bin .leq (x_ 25) (x_ 26)), i_ 28 (.pick (x_ 23) (x_ 27) F_)],
      if_ 28 (sq [r_ [m_ 29 7, m_ 30 0, m_ 31 8, i_ 32 (.bin .quo (x_ 31) (n_ 8)), i_ 33 (.indexS (x_ 30) (x_ 32)), i_ 34 (.callP 113 [(x_ 33)] [ix]), i_ 35 (.bin .add (x_ 29) (x_ 34)), m_ 7 35],
        r_ [m_ 36 8, i_ 37 (.bin .add (x_ 36) (n_ 8)), m_ 8 37],
        .exit 1]) (.skip)],
     sq [r_ [m_ 38 0, m_ 39 8, i_ 40 (.callP 114 [(x_ 38), (x_ 39)] [.bool])],
      if_ 40 (r_ [m_ 41 7, i_ 42 (.bin .add (x_ 41) (n_ 1)), m_ 7 42]) (.skip)],
     r_ [m_ 43 8, i_ 44 (.bin .add (x_ 43) (n_ 1)), m_ 8 44]])]
def bitmap_Many.a : AFun := ⟨3, [.tmp 6],
  sq [r_ [i_ 6 (.mov (n_ 0))],
   sq [r_ [m_ 9 0, i_ 10 (.callP 112 [(x_ 9)] [.bool]), i_ 11 (.un .not (x_ 10))],
    if_ 11 (sq [r_ [i_ 6 (.mov (n_ 0))],
      .ret]) (.skip)],
   r_ [m_ 12 1, i_ 13 (.minmax true [(x_ 12), (n_ 0)]), m_ 14 2, i_ 15 (.minmax false [(x_ 14), (n_ 3840)]), m_ 1 13, m_ 2 15],
   r_ [i_ 7 (.mov (n_ 0))],
   sq [r_ [m_ 16 1, m_ 8 16],
    .block 0 (.loop [0, 2, 7, 8] [7] [6] bitmap_Many.L0)],
   r_ [m_ 45 7, m_ 6 45],
   .ret]⟩
def bitmap_Many.R0 (C : CallF) (N : Nat) := round (evalC C N bitmap_Many.L0) [0, 2, 7, 8] [7] [6]
def bitmap_Many.K0 (C : CallF) (N : Nat) : Ex → St → R := contC C N [.snd, .snd, .snd, .snd, .fst, .snd, .blk] bitmap_Many.a.body (finish bitmap_Many.a)


/-! 65: (*wharfage/heap.Heap).Get -/
def heap_Heap_Get.pol : Pol := { heap := [999999], ro := roList, rs := [4] }
def heap_Heap_Get.a : AFun := ⟨2, [.tmp 4],
  sq [r_ [i_ 4 (.mov (c_ (.string ⟨#[]⟩)))],
   sq [r_ [m_ 10 0, i_ 11 (.nilCk (x_ 10)), i_ 12 (.addr 1 (x_ 11)), i_ 13 (.load [.any] false none (x_ 12)), m_ 14 1, i_ 15 (.mapGet false [(.at (.string ⟨#[]⟩))] false true (x_ 13) (x_ 14)), m_ 9 15, i_ 16 (.extract (x_ 9) 0), i_ 17 (.extract (x_ 9) 1), m_ 5 16, m_ 6 17],
    r_ [m_ 18 6],
    if_ 18 (sq [r_ [m_ 19 5, m_ 4 19],
      .ret]) (.skip)],
   r_ [m_ 21 0, i_ 22 (.nilCk (x_ 21)), i_ 23 (.addr 0 (x_ 22)), i_ 24 (.load [.any] false none (x_ 23)), m_ 25 1, i_ 26 (.callR 106 [(x_ 24), (x_ 25)] [.str, ix]), m_ 20 26, i_ 27 (.extract (x_ 20) 0), i_ 28 (.extract (x_ 20) 1), m_ 7 27, m_ 8 28],
   r_ [m_ 29 0, m_ 30 8, i_ 31 (.callR 115 [(x_ 29), (x_ 30)] [])],
   r_ [m_ 32 7, m_ 4 32],
   .ret]⟩


/-! 66: wharfage/tree.open -/
def tree_open.pol : Pol := { glob := [17], heap := [999999], ro := roList, rs := [2] }
def tree_open.a : AFun := ⟨1, [.tmp 2],
  sq [r_ [i_ 2 (.mov (c_ (.pointer none)))],
   r_ [m_ 4 0, i_ 5 (.callR 65 [(x_ 4), (n_ 0)] [.str]), i_ 6 (.call 116 [(x_ 5)] [.any]), m_ 3 6],
   r_ [m_ 7 0, m_ 8 3, i_ 9 (.call 117 [(x_ 8), (n_ 2)] [.int .u64]), i_ 10 (.convI .i64 (x_ 9)), m_ 11 3, i_ 12 (.call 117 [(x_ 11), (n_ 8)] [.int .u64]), m_ 13 0, i_ 14 (.callR 36 [(x_ 13)] [ix]), i_ 15 (.bin .mul (n_ 4) (x_ 14)), i_ 16 (.build [(.at (.pointer none)), (.at (.int .i64 0)), (.at (.int .u64 0)), (.at (.int .i64 0))] [(0, 1, (x_ 7)), (1, 1, (x_ 10)), (2, 1, (x_ 12)), (3, 1, (x_ 15))]), i_ 17 (.boxG (x_ 16)), m_ 2 17],
   .ret]⟩


/-! 67: (*wharfage/tree.checker).depth -/
def tree_checker_depth.pol : Pol := { pure := [119], heap := [999999], ro := roList, root := [(5, 5), (7, 7), (23, 7), (10, 10), (31, 10), (36, 7), (44, 7), (51, 7)], rs := [6], live := [([0, 5, 7, 24, 25, 26], [0, 5, 7]), ([0, 5, 7, 11, 52, 53, 54], [11])] }
def tree_checker_depth.L0 : ACode :=
  sq [r_ [i_ 27 (.bin .lss (x_ 26) (x_ 25))],
   if_ 27 (.skip) (.exit 0),
   .block 1 (sq [r_ [i_ 28 (.indexAddrS 2 (x_ 24) (x_ 26)), i_ 29 (.load [.str, .str] true none (x_ 28)), i_ 10 (.allocL [(.at (.string ⟨#[]⟩)), (.at (.string ⟨#[]⟩))]), u_ (.store 2 (some 10) (x_ 10) (x_ 29))],
     r_ [i_ 30 (.load [.str, .str, .bool] true (some 5) (x_ 5)), i_ 31 (.addr 0 (x_ 10)), i_ 32 (.load [.str] false (some 10) (x_ 31)), i_ 33 (.callP 119 [(x_ 30), (x_ 32)] [.bool]), i_ 34 (.un .not (x_ 33))],
     if_ 34 (sq [r_ [i_ 6 (.mov (n_ (-1)))],
       .ret]) (.skip)]),
   r_ [i_ 35 (.bin .add (x_ 26) (n_ 1)), m_ 26 35]]
def tree_checker_depth.L1 : ACode :=
  sq [r_ [i_ 55 (.bin .lss (x_ 54) (x_ 53))],
   if_ 55 (.skip) (.exit 2),
   .block 3 (sq [r_ [m_ 56 54, i_ 57 (.indexAddrS 1 (x_ 52) (x_ 54)), i_ 58 (.load [ix] false none (x_ 57)), m_ 12 56, m_ 13 58],
     r_ [m_ 59 0, m_ 60 13, i_ 61 (.load [.str, .str, .bool] true (some 5) (x_ 5)), i_ 62 (.load [.sl 2, .sl 1] true (some 7) (x_ 7)), m_ 63 12, i_ 64 (.callR 120 [(x_ 61), (x_ 62), (x_ 63)] [.ag]), i_ 65 (.call 67 [(x_ 59), (x_ 60), (x_ 64)] [ix]), m_ 14 65],
     sq [r_ [m_ 66 14, i_ 67 (.bin .lss (x_ 66) (n_ 0)), m_ 68 67, hm_ 68 69 12, h_ 68 70 (.bin .gtr (x_ 69) (n_ 0)), hm_ 68 71 70, gm_ 71 72 14, gm_ 71 73 11, g_ 71 74 (.bin .neq (x_ 72) (x_ 73)), h_ 68 75 (.pick (x_ 71) (x_ 74) F_), i_ 76 (.pick (x_ 68) T_ (x_ 75))],
      if_ 76 (sq [r_ [i_ 6 (.mov (n_ (-1)))],
        .ret]) (.skip)],
     r_ [m_ 77 14, m_ 11 77]]),
   r_ [i_ 78 (.bin .add (x_ 54) (n_ 1)), m_ 54 78]]
def tree_checker_depth.a : AFun := ⟨3, [.tmp 6],
  sq [r_ [i_ 5 (.boxL (x_ 2)), i_ 6 (.mov (n_ 0))],
   r_ [m_ 16 0, m_ 17 1, i_ 18 (.call 118 [(x_ 16), (x_ 17)] [.ag, .bool]), m_ 15 18, i_ 19 (.extract (x_ 15) 0), i_ 20 (.extract (x_ 15) 1), i_ 7 (.allocL [(.sl true 2 []), (.sl true 1 [])]), u_ (.store 2 (some 7) (x_ 7) (x_ 19)), m_ 8 20],
   sq [r_ [m_ 21 8, i_ 22 (.un .not (x_ 21))],
    if_ 22 (sq [r_ [i_ 6 (.mov (n_ (-1)))],
      .ret]) (.skip)],
   sq [r_ [i_ 23 (.addr 0 (x_ 7)), i_ 24 (.load [.sl 2] false (some 7) (x_ 23)), i_ 25 (.lenL (x_ 24)), i_ 26 (.mov (n_ 0))],
    .block 0 (.loop [0, 5, 7, 24, 25, 26] [0, 5, 7] [6] tree_checker_depth.L0)],
   sq [r_ [i_ 36 (.addr 1 (x_ 7)), i_ 37 (.load [.sl 1] false (some 7) (x_ 36)), i_ 38 (.lenL (x_ 37)), i_ 39 (.bin .eql (x_ 38) (n_ 0))],
    if_ 39 (sq [d_ [m_ 40 0, i_ 41 (.nilCk (x_ 40)), i_ 42 (.addr 2 (x_ 41)), i_ 43 (.load [.int .u64] false none (x_ 42)), i_ 44 (.addr 0 (x_ 7)), i_ 45 (.load [.sl 2] false (some 7) (x_ 44)), i_ 46 (.lenL (x_ 45)), i_ 47 (.convI .u64 (x_ 46)), i_ 48 (.bin .add (x_ 43) (x_ 47)), i_ 49 (.nilCk (x_ 40)), i_ 50 (.addr 2 (x_ 49)), u_ (.store 1 none (x_ 50) (x_ 48))],
      r_ [i_ 6 (.mov (n_ 1))],
      .ret]) (.skip)],
   r_ [i_ 11 (.mov (n_ 0))],
   sq [r_ [i_ 51 (.addr 1 (x_ 7)), i_ 52 (.load [.sl 1] false (some 7) (x_ 51)), i_ 53 (.lenL (x_ 52)), i_ 54 (.mov (n_ 0))],
    .block 2 (.loop [0, 5, 7, 11, 52, 53, 54] [11] [6] tree_checker_depth.L1)],
   r_ [m_ 79 11, i_ 80 (.bin .add (x_ 79) (n_ 1)), m_ 6 80],
   .ret]⟩
def tree_checker_depth.R0 (C : CallF) (N : Nat) := round (evalC C N tree_checker_depth.L0) [0, 5, 7, 24, 25, 26] [0, 5, 7] [6]
def tree_checker_depth.K0 (C : CallF) (N : Nat) : Ex → St → R := contC C N [.snd, .snd, .snd, .fst, .snd, .blk] tree_checker_depth.a.body (finish tree_checker_depth.a)
def tree_checker_depth.R1 (C : CallF) (N : Nat) := round (evalC C N tree_checker_depth.L1) [0, 5, 7, 11, 52, 53, 54] [11] [6]
def tree_checker_depth.K1 (C : CallF) (N : Nat) : Ex → St → R := contC C N [.snd, .snd, .snd, .snd, .snd, .snd, .fst, .snd, .blk] tree_checker_depth.a.body (finish tree_checker_depth.a)


/-! 68: wharfage/tree.blank -/
def tree_blank.pol : Pol := { heap := [999999], ro := roList, root := [(7, 7), (11, 7)], rs := [2], live := [([7, 8, 9], [])] }
def tree_blank.L0 : ACode :=
  sq [r_ [i_ 10 (.bin .lss (x_ 9) (x_ 8))],
   if_ 10 (.skip) (.exit 0),
   .block 1 (sq [r_ [i_ 11 (.indexAddrS 1 (x_ 7) (x_ 9)), i_ 12 (.load [.int .u8] false (some 7) (x_ 11)), m_ 4 12],
     r_ [m_ 13 4, i_ 14 (.bin .neq (x_ 13) (k_ .u8 0))],
     if_ 14 (sq [r_ [i_ 2 (.mov F_)],
       .ret]) (.skip)]),
   r_ [i_ 15 (.bin .add (x_ 9) (n_ 1)), m_ 9 15]]
def tree_blank.a : AFun := ⟨1, [.tmp 2],
  sq [r_ [i_ 2 (.mov F_)],
   sq [r_ [m_ 5 0, i_ 6 (.sliceS (x_ 5) (some (n_ 10)) none), i_ 7 (.toBytes (x_ 6)), i_ 8 (.lenL (x_ 7)), i_ 9 (.mov (n_ 0))],
    .block 0 (.loop [7, 8, 9] [] [2] tree_blank.L0)],
   r_ [i_ 2 (.mov T_)],
   .ret]⟩
def tree_blank.R0 (C : CallF) (N : Nat) := round (evalC C N tree_blank.L0) [7, 8, 9] [] [2]
def tree_blank.K0 (C : CallF) (N : Nat) : Ex → St → R := contC C N [.snd, .fst, .snd, .blk] tree_blank.a.body (finish tree_blank.a)


/-! 69: (*wharfage/tree.tree).pages -/
def tree_tree_pages.pol : Pol := { heap := [999999], ro := roList, rs := [4], live := [([0, 5, 13, 14, 15], [5])] }
def tree_tree_pages.L0 : ACode :=
  sq [r_ [i_ 16 (.bin .lss (x_ 15) (x_ 14))],
   if_ 16 (.skip) (.exit 0),
   .block 1 (sq [r_ [i_ 17 (.indexAddrS 1 (x_ 13) (x_ 15)), i_ 18 (.load [ix] false none (x_ 17)), m_ 7 18],
     r_ [m_ 19 5, m_ 20 0, m_ 21 7, i_ 22 (.call 69 [(x_ 20), (x_ 21)] [.any]), i_ 23 (.appendH none 1 8 (x_ 19) (x_ 22)), m_ 5 23]]),
   r_ [i_ 24 (.bin .add (x_ 15) (n_ 1)), m_ 15 24]]
def tree_tree_pages.a : AFun := ⟨2, [.tmp 4],
  sq [r_ [i_ 4 (.nilS 1)],
   r_ [m_ 8 1, i_ 9 (.buildG 1 [(x_ 8)]), m_ 5 9],
   sq [r_ [m_ 10 0, m_ 11 1, i_ 12 (.call 121 [(x_ 10), (x_ 11)] [.ag]), i_ 13 (.field 1 [.sl 1] false (x_ 12)), i_ 14 (.lenL (x_ 13)), i_ 15 (.mov (n_ 0))],
    .block 0 (.loop [0, 5, 13, 14, 15] [5] [4] tree_tree_pages.L0)],
   r_ [m_ 25 5, m_ 4 25],
   .ret]⟩
def tree_tree_pages.R0 (C : CallF) (N : Nat) := round (evalC C N tree_tree_pages.L0) [0, 5, 13, 14, 15] [5] [4]
def tree_tree_pages.K0 (C : CallF) (N : Nat) : Ex → St → R := contC C N [.snd, .snd, .fst, .snd, .blk] tree_tree_pages.a.body (finish tree_tree_pages.a)


/-! 70: (*wharfage/tree.tree).walk -/
def tree_tree_walk.pol : Pol := { heap := [999999], ro := roList, root := [(9, 9), (25, 9), (29, 9), (13, 13), (43, 9)], rs := [8], live := [([3, 32, 33, 34], []), ([0, 2, 3, 46, 47, 48], [])] }
def tree_tree_walk.L0 : ACode :=
  sq [r_ [i_ 35 (.bin .lss (x_ 34) (x_ 33))],
   if_ 35 (.skip) (.exit 0),
   .block 1 (sq [r_ [i_ 36 (.indexAddrS 2 (x_ 32) (x_ 34)), i_ 37 (.load [.str, .str] true none (x_ 36)), i_ 13 (.allocL [(.at (.string ⟨#[]⟩)), (.at (.string ⟨#[]⟩))]), u_ (.store 2 (some 13) (x_ 13) (x_ 37))],
     r_ [m_ 38 3, i_ 39 (.load [.str, .str] true (some 13) (x_ 13)), i_ 40 (.callV (x_ 38) [(x_ 39)] [.bool]), i_ 41 (.un .not (x_ 40))],
     if_ 41 (sq [r_ [i_ 8 (.mov F_)],
       .ret]) (.skip)]),
   r_ [i_ 42 (.bin .add (x_ 34) (n_ 1)), m_ 34 42]]
def tree_tree_walk.L1 : ACode :=
  sq [r_ [i_ 49 (.bin .lss (x_ 48) (x_ 47))],
   if_ 49 (.skip) (.exit 2),
   .block 3 (sq [r_ [i_ 50 (.indexAddrS 1 (x_ 46) (x_ 48)), i_ 51 (.load [ix] false none (x_ 50)), m_ 15 51],
     r_ [m_ 52 0, m_ 53 15, m_ 54 2, m_ 55 3, i_ 56 (.call 70 [(x_ 52), (x_ 53), (x_ 54), (x_ 55)] [.bool]), i_ 57 (.un .not (x_ 56))],
     if_ 57 (sq [r_ [i_ 8 (.mov F_)],
       .ret]) (.skip)]),
   r_ [i_ 58 (.bin .add (x_ 48) (n_ 1)), m_ 48 58]]
def tree_tree_walk.a : AFun := ⟨4, [.tmp 8],
  sq [r_ [i_ 8 (.mov F_)],
   r_ [m_ 16 0, m_ 17 1, i_ 18 (.call 121 [(x_ 16), (x_ 17)] [.ag]), i_ 9 (.allocL [(.sl true 2 []), (.sl true 1 [])]), u_ (.store 2 (some 9) (x_ 9) (x_ 18))],
   r_ [i_ 20 (.load [.sl 2, .sl 1] true (some 9) (x_ 9)), m_ 21 2, i_ 22 (.call 122 [(x_ 20), (x_ 21)] [ix, .bool]), m_ 19 22, i_ 23 (.extract (x_ 19) 0), i_ 24 (.extract (x_ 19) 1), m_ 10 23, m_ 11 24],
   sq [r_ [i_ 25 (.addr 1 (x_ 9)), i_ 26 (.load [.sl 1] false (some 9) (x_ 25)), i_ 27 (.lenL (x_ 26)), i_ 28 (.bin .eql (x_ 27) (n_ 0))],
    if_ 28 (sq [sq [r_ [i_ 29 (.addr 0 (x_ 9)), i_ 30 (.load [.sl 2] false (some 9) (x_ 29)), m_ 31 10, i_ 32 (.sliceV 2 (x_ 30) (some (x_ 31)) none), i_ 33 (.lenL (x_ 32)), i_ 34 (.mov (n_ 0))],
       .block 0 (.loop [3, 32, 33, 34] [] [8] tree_tree_walk.L0)],
      r_ [i_ 8 (.mov T_)],
      .ret]) (.skip)],
   sq [r_ [i_ 43 (.addr 1 (x_ 9)), i_ 44 (.load [.sl 1] false (some 9) (x_ 43)), m_ 45 10, i_ 46 (.sliceV 1 (x_ 44) (some (x_ 45)) none), i_ 47 (.lenL (x_ 46)), i_ 48 (.mov (n_ 0))],
    .block 2 (.loop [0, 2, 3, 46, 47, 48] [] [8] tree_tree_walk.L1)],
   r_ [i_ 8 (.mov T_)],
   .ret]⟩
def tree_tree_walk.R0 (C : CallF) (N : Nat) := round (evalC C N tree_tree_walk.L0) [3, 32, 33, 34] [] [8]
def tree_tree_walk.K0 (C : CallF) (N : Nat) : Ex → St → R := contC C N [.snd, .snd, .snd, .fst, .snd, .thn, .fst, .snd, .blk] tree_tree_walk.a.body (finish tree_tree_walk.a)
def tree_tree_walk.R1 (C : CallF) (N : Nat) := round (evalC C N tree_tree_walk.L1) [0, 2, 3, 46, 47, 48] [] [8]
def tree_tree_walk.K1 (C : CallF) (N : Nat) : Ex → St → R := contC C N [.snd, .snd, .snd, .snd, .fst, .snd, .blk] tree_tree_walk.a.body (finish tree_tree_walk.a)


/-! 71: wharfage/tree.Scan$1 -/
def tree_Scan_1.pol : Pol := { heap := [999999], ro := roList, root := [(3, 3)], rs := [4] }
def tree_Scan_1.a : AFun := ⟨3, [.tmp 4],
  sq [r_ [i_ 3 (.boxL (x_ 0)), i_ 4 (.mov F_)],
   r_ [i_ 5 (.load [.sl 2] false none (x_ 1)), i_ 6 (.load [.str, .str] true (some 3) (x_ 3)), i_ 7 (.buildG 2 [(x_ 6)]), i_ 8 (.appendH none 2 32 (x_ 5) (x_ 7)), u_ (.store 1 none (x_ 1) (x_ 8))],
   r_ [i_ 9 (.load [.sl 2] false none (x_ 1)), i_ 10 (.lenL (x_ 9)), i_ 11 (.load [ix] false none (x_ 2)), i_ 12 (.bin .lss (x_ 10) (x_ 11)), m_ 4 12],
   .ret]⟩


/-! 72: wharfage/blob.parts -/
def blob_parts.pol : Pol := { glob := [2, 3], heap := [999999], ro := roList, rs := [4] }
def blob_parts.a : AFun := ⟨2, [.tmp 4],
  sq [r_ [i_ 2 (.boxG (x_ 0)), i_ 3 (.boxG (x_ 1)), i_ 4 (.mov (c_ .nilFunc))],
   r_ [i_ 5 (.makeFunc 123 [] [(x_ 3), (x_ 2)]), m_ 4 5],
   .ret]⟩


/-! 73: (*wharfage/pages.Store).Pages -/
def pages_Store_Pages.pol : Pol := { heap := [999999], ro := roList, rs := [2] }
def pages_Store_Pages.a : AFun := ⟨1, [.tmp 2],
  sq [r_ [i_ 2 (.mov (n_ 0))],
   sq [r_ [m_ 3 0, i_ 4 (.nilCmp false 1 (x_ 3))],
    if_ 4 (sq [r_ [i_ 2 (.mov (n_ 0))],
      .ret]) (.skip)],
   r_ [m_ 5 0, i_ 6 (.nilCk (x_ 5)), i_ 7 (.addr 2 (x_ 6)), i_ 8 (.load [.sl 1] false none (x_ 7)), i_ 9 (.lenL (x_ 8)), m_ 2 9],
   .ret]⟩


/-! 74: wharfage/disk.New -/
def disk_New.pol : Pol := { glob := [15], pure := [49], heap := [999999], ro := roList, rs := [2, 3] }
def disk_New.a : AFun := ⟨1, [.tmp 2, .tmp 3],
  sq [r_ [i_ 2 (.mov (c_ (.pointer none))), i_ 3 (.mov (n_ 0))],
   sq [r_ [m_ 4 0, i_ 5 (.bin .lss (x_ 4) (n_ 1)), m_ 6 5, hm_ 6 7 0, h_ 6 8 (.bin .gtr (x_ 7) (n_ 4865)), i_ 9 (.pick (x_ 6) T_ (x_ 8))],
    if_ 9 (sq [r_ [i_ 2 (.mov (c_ (.pointer none))), i_ 3 (.mov (n_ 18))],
      .ret]) (.skip)],
   r_ [i_ 10 (.callP 49 [] [.str]), i_ 11 (.buildG 1 [(x_ 10)]), m_ 12 0, i_ 13 (.call 91 [(x_ 11), (x_ 12)] [.any]), i_ 14 (.build [(.sl true 1 []), (.sl true 2 []), (.at (.int .i64 0)), (.at (.bool false)), (.at (.int .i64 0))] [(0, 1, (x_ 13))]), i_ 15 (.boxG (x_ 14)), m_ 2 15, i_ 3 (.mov (n_ 0))],
   .ret]⟩


/-! 75: (*wharfage/kv.Tx).Put -/
def kv_Tx_Put.pol : Pol := { heap := [999999], ro := roList }
def kv_Tx_Put.a : AFun := ⟨3, [],
  r_ [m_ 6 0, i_ 7 (.nilCk (x_ 6)), i_ 8 (.addr 0 (x_ 7)), i_ 9 (.load [.any] false none (x_ 8)), m_ 10 1, m_ 11 2, i_ 12 (.call 125 [(x_ 9), (x_ 10), (x_ 11)] [])]⟩


/-! 76: wharfage/wharfagelaw15.value -/
def law15_value.pol : Pol := { heap := [999999], ro := roList, root := [(1, 1), (3, 1), (7, 1), (10, 1), (14, 1)], rs := [2] }
def law15_value.a : AFun := ⟨1, [.tmp 2],
  sq [r_ [i_ 1 (.boxL (x_ 0)), i_ 2 (.mov (c_ (.string ⟨#[]⟩)))],
   r_ [i_ 3 (.addr 0 (x_ 1)), i_ 4 (.load [ix] false (some 1) (x_ 3)), i_ 5 (.bin .shr (x_ 4) (k_ .u64 8)), i_ 6 (.convI .u8 (x_ 5)), i_ 7 (.addr 0 (x_ 1)), i_ 8 (.load [ix] false (some 1) (x_ 7)), i_ 9 (.convI .u8 (x_ 8)), i_ 10 (.addr 1 (x_ 1)), i_ 11 (.load [ix] false (some 1) (x_ 10)), i_ 12 (.bin .shr (x_ 11) (k_ .u64 8)), i_ 13 (.convI .u8 (x_ 12)), i_ 14 (.addr 1 (x_ 1)), i_ 15 (.load [ix] false (some 1) (x_ 14)), i_ 16 (.convI .u8 (x_ 15)), i_ 17 (.buildG 1 [(x_ 6), (x_ 9), (x_ 13), (x_ 16)]), i_ 18 (.toStrG (x_ 17)), m_ 2 18],
   .ret]⟩


/-! 77: (*wharfage/kv.Tx).Keep -/
def kv_Tx_Keep.pol : Pol := { heap := [999999], ro := roList, root := [(4, 4)], rs := [4] }
def kv_Tx_Keep.a : AFun := ⟨2, [.cell 4 [ix, ix] true],
  sq [r_ [i_ 4 (.allocL [(.at (.int .i64 0)), (.at (.int .i64 0))])],
   r_ [m_ 5 0, i_ 6 (.nilCk (x_ 5)), i_ 7 (.addr 0 (x_ 6)), i_ 8 (.load [.any] false none (x_ 7)), m_ 9 1, i_ 10 (.call 126 [(x_ 8), (x_ 9)] [.ag]), u_ (.store 2 (some 4) (x_ 4) (x_ 10))],
   .ret]⟩


/-! 78: strings.HasPrefix -/
def strings_HasPrefix.pol : Pol := { pure := [127], heap := [999999], ro := roList, rs := [4] }
def strings_HasPrefix.a : AFun := ⟨2, [.tmp 4],
  sq [r_ [i_ 4 (.mov F_)],
   r_ [m_ 5 0, m_ 6 1, i_ 7 (.callP 127 [(x_ 5), (x_ 6)] [.bool]), m_ 4 7],
   .ret]⟩


/-! 79: (*wharfage/kv.Tx).Get -/
def kv_Tx_Get.pol : Pol := { heap := [999999], ro := roList, rs := [4, 5] }
def kv_Tx_Get.a : AFun := ⟨2, [.tmp 4, .tmp 5],
  sq [r_ [i_ 4 (.mov (c_ (.string ⟨#[]⟩))), i_ 5 (.mov F_)],
   r_ [m_ 6 0, i_ 7 (.nilCk (x_ 6)), i_ 8 (.addr 0 (x_ 7)), i_ 9 (.load [.any] false none (x_ 8)), m_ 10 1, i_ 11 (.call 128 [(x_ 9), (x_ 10)] [.str, .bool]), i_ 12 (.extract (x_ 11) 0), i_ 13 (.extract (x_ 11) 1), m_ 4 12, m_ 5 13],
   .ret]⟩


/-! 80: (*wharfage/kv.Tx).Drop -/
def kv_Tx_Drop.pol : Pol := { heap := [999999], ro := roList, root := [(3, 3)] }
def kv_Tx_Drop.a : AFun := ⟨2, [],
  sq [r_ [i_ 3 (.boxL (x_ 1))],
   d_ [m_ 4 0, i_ 5 (.nilCk (x_ 4)), i_ 6 (.addr 0 (x_ 5)), i_ 7 (.load [.any] false none (x_ 6)), i_ 8 (.load [ix, ix] true (some 3) (x_ 3)), i_ 9 (.call 129 [(x_ 7), (x_ 8)] [])]]⟩


/-! 81: (*wharfage/kv.Tx).Delete -/
def kv_Tx_Delete.pol : Pol := { heap := [999999], ro := roList, rs := [4] }
def kv_Tx_Delete.a : AFun := ⟨2, [.tmp 4],
  sq [r_ [i_ 4 (.mov F_)],
   r_ [m_ 5 0, i_ 6 (.nilCk (x_ 5)), i_ 7 (.addr 0 (x_ 6)), i_ 8 (.load [.any] false none (x_ 7)), m_ 9 1, i_ 10 (.call 130 [(x_ 8), (x_ 9)] [.bool]), m_ 4 10],
   .ret]⟩


/-! 82: (*wharfage/heap.Heap).Stop -/
def heap_Heap_Stop.pol : Pol := { heap := [999999], ro := roList }
def heap_Heap_Stop.a : AFun := ⟨2, [],
  sq [sq [r_ [m_ 4 1, i_ 5 (.bin .eql (x_ 4) (n_ 0))],
    if_ 5 (r_ [i_ 1 (.mov (n_ 18))]) (.skip)],
   r_ [m_ 6 1, i_ 7 (.build [(.at (.int .i64 0))] [(0, 1, (x_ 6))]), i_ 8 (.mkIfc 155 (x_ 7)), u_ (.panicI (x_ 8))]]⟩


/-! 83: wharfage/wharfagelaw15.list$1 -/
def law15_list_1.pol : Pol := { pure := [15], heap := [999999], gret := [15], ro := roList, lo := [(7, [(0, 8)])], root := [(6, 6), (8, 8), (28, 6)], live := [([0, 1, 14, 15, 16], []), ([0, 1, 6, 14, 15, 16, 21, 22, 23], [0, 1, 14, 15, 16])] }
def law15_list_1.L1 : ACode :=
  sq [r_ [i_ 24 (.bin .lss (x_ 23) (x_ 22))],
   if_ 24 (.skip) (.exit 2),
   .block 3 (sq [r_ [i_ 25 (.indexAddrS 2 (x_ 21) (x_ 23)), i_ 26 (.load [ix, ix] true none (x_ 25)), i_ 8 (.allocL [(.at (.int .i64 0)), (.at (.int .i64 0))]), u_ (.store 2 (some 8) (x_ 8) (x_ 26))],
     .regionL [i_ 27 (.load [.sl 2] false none (x_ 1)), i_ 28 (.addr 0 (x_ 6)), i_ 29 (.load [.str] false (some 6) (x_ 28)), m_ 30 0, i_ 31 (.load [ix, ix] true (some 8) (x_ 8)), i_ 32 (.call 84 [(x_ 30), (x_ 31)] [.str]), i_ 33 (.build [(.at (.string ⟨#[]⟩)), (.at (.string ⟨#[]⟩))] [(0, 1, (x_ 29)), (1, 1, (x_ 32))]), i_ 34 (.buildG 2 [(x_ 33)]), i_ 35 (.appendH none 2 32 (x_ 27) (x_ 34)), u_ (.store 1 none (x_ 1) (x_ 35))] [(0, 8)]]),
   r_ [i_ 36 (.bin .add (x_ 23) (n_ 1)), m_ 23 36]]
def law15_list_1.L0 : ACode :=
  sq [r_ [i_ 17 (.bin .lss (x_ 16) (x_ 15))],
   if_ 17 (.skip) (.exit 0),
   .block 1 (sq [r_ [i_ 18 (.indexAddrS 2 (x_ 14) (x_ 16)), i_ 19 (.load [.str, .str] true none (x_ 18)), i_ 6 (.allocL [(.at (.string ⟨#[]⟩)), (.at (.string ⟨#[]⟩))]), u_ (.store 2 (some 6) (x_ 6) (x_ 19))],
     r_ [i_ 20 (.load [.str, .str] true (some 6) (x_ 6)), i_ 21 (.callD 15 [(x_ 20)] [.sl 2]), i_ 22 (.lenL (x_ 21)), i_ 23 (.mov (n_ 0))],
     .block 2 (.loop [0, 1, 6, 14, 15, 16, 21, 22, 23] [0, 1, 14, 15, 16] [] law15_list_1.L1)]),
   r_ [i_ 37 (.bin .add (x_ 16) (n_ 1)), m_ 16 37]]
def law15_list_1.a : AFun := ⟨2, [],
  sq [r_ [m_ 10 0, i_ 11 (.call 40 [(x_ 10), (c_ (.string ⟨#[]⟩)), (c_ (.string ⟨#[]⟩)), (n_ 1000)] [.any, .bool]), m_ 9 11, i_ 12 (.extract (x_ 9) 0), i_ 13 (.extract (x_ 9) 1), m_ 3 12, m_ 4 13],
   r_ [m_ 14 3, i_ 15 (.lenL (x_ 14)), i_ 16 (.mov (n_ 0))],
   .block 0 (.loop [0, 1, 14, 15, 16] [] [] law15_list_1.L0)]⟩
def law15_list_1.R0 (C : CallF) (N : Nat) := round (evalC C N law15_list_1.L0) [0, 1, 14, 15, 16] [] []
def law15_list_1.K0 (C : CallF) (N : Nat) : Ex → St → R := contC C N [.snd, .snd, .blk] law15_list_1.a.body (finish law15_list_1.a)
def law15_list_1.R1 (C : CallF) (N : Nat) := round (evalC C N law15_list_1.L1) [0, 1, 6, 14, 15, 16, 21, 22, 23] [0, 1, 14, 15, 16] []
def law15_list_1.K1 (C : CallF) (N : Nat) (k : Ex → St → R) : Ex → St → R := contC C N [.snd, .snd, .fst, .blk, .snd, .snd, .blk] law15_list_1.L0 (rndK [0, 1, 14, 15, 16] [] [] k)


/-! 84: (*wharfage/kv.Tx).Body -/
def kv_Tx_Body.pol : Pol := { heap := [999999], ro := roList, root := [(3, 3)], rs := [4] }
def kv_Tx_Body.a : AFun := ⟨2, [.tmp 4],
  sq [r_ [i_ 3 (.boxL (x_ 1)), i_ 4 (.mov (c_ (.string ⟨#[]⟩)))],
   d_ [m_ 5 0, i_ 6 (.nilCk (x_ 5)), i_ 7 (.addr 0 (x_ 6)), i_ 8 (.load [.any] false none (x_ 7)), i_ 9 (.load [ix, ix] true (some 3) (x_ 3)), i_ 10 (.call 131 [(x_ 8), (x_ 9)] [.str]), m_ 4 10],
   .ret]⟩


/-! 85: wharfage/pages.sizes -/
def pages_sizes.pol : Pol := { heap := [999999], ro := roList, rs := [4] }
def pages_sizes.a : AFun := ⟨2, [.tmp 4],
  sq [r_ [i_ 4 (.mov F_)],
   r_ [m_ 5 0, i_ 6 (.bin .geq (x_ 5) (n_ 8)), m_ 7 6, gm_ 7 8 0, g_ 7 9 (.bin .leq (x_ 8) (n_ 3840)), i_ 10 (.pick (x_ 7) (x_ 9) F_), m_ 11 10, gm_ 11 12 1, g_ 11 13 (.bin .geq (x_ 12) (n_ 4)), i_ 14 (.pick (x_ 11) (x_ 13) F_), m_ 15 14, gm_ 15 16 1, g_ 15 17 (.bin .leq (x_ 16) (n_ 1024)), i_ 18 (.pick (x_ 15) (x_ 17) F_), m_ 4 18],
   .ret]⟩


/-! 86: (*wharfage/disk.Disk).has -/
def disk_Disk_has.pol : Pol := { heap := [999999], ro := roList, rs := [4] }
def disk_Disk_has.a : AFun := ⟨2, [.tmp 4],
  sq [r_ [i_ 4 (.mov F_)],
   r_ [m_ 5 1, i_ 6 (.bin .geq (x_ 5) (n_ 0)), m_ 7 6, gm_ 7 8 1, gm_ 7 9 0, g_ 7 10 (.callR 47 [(x_ 9)] [ix]), g_ 7 11 (.bin .lss (x_ 8) (x_ 10)), i_ 12 (.pick (x_ 7) (x_ 11) F_), m_ 4 12],
   .ret]⟩


/-! 87: (*wharfage/disk.Disk).step -/
def disk_Disk_step.pol : Pol := { heap := [999999], ro := roList, rs := [2] }
def disk_Disk_step.a : AFun := ⟨1, [.tmp 2],
  sq [r_ [i_ 2 (.mov (n_ 0))],
   sq [r_ [m_ 3 0, i_ 4 (.nilCk (x_ 3)), i_ 5 (.addr 3 (x_ 4)), i_ 6 (.load [.bool] false none (x_ 5)), m_ 7 6, hm_ 7 8 0, h_ 7 9 (.nilCk (x_ 8)), h_ 7 10 (.addr 2 (x_ 9)), h_ 7 11 (.load [ix] false none (x_ 10)), h_ 7 12 (.bin .eql (x_ 11) (n_ 1)), i_ 13 (.pick (x_ 7) T_ (x_ 12))],
    if_ 13 (sq [r_ [m_ 14 0, m_ 15 0, i_ 16 (.nilCk (x_ 14)), i_ 17 (.addr 3 (x_ 16)), u_ (.store 1 none (x_ 17) T_), i_ 18 (.nilCk (x_ 15)), i_ 19 (.addr 2 (x_ 18)), u_ (.store 1 none (x_ 19) (n_ 0))],
      r_ [i_ 2 (.mov (n_ 17))],
      .ret]) (.skip)],
   r_ [m_ 20 0, m_ 21 0, i_ 22 (.nilCk (x_ 21)), i_ 23 (.addr 2 (x_ 22)), i_ 24 (.load [ix] false none (x_ 23)), i_ 25 (.bin .sub (x_ 24) (n_ 1)), i_ 26 (.minmax true [(x_ 25), (n_ 0)]), i_ 27 (.nilCk (x_ 20)), i_ 28 (.addr 2 (x_ 27)), u_ (.store 1 none (x_ 28) (x_ 26))],
   r_ [m_ 29 0, i_ 30 (.nilCk (x_ 29)), i_ 31 (.addr 4 (x_ 30)), i_ 32 (.load [ix] false none (x_ 31)), i_ 33 (.bin .add (x_ 32) (n_ 1)), i_ 34 (.nilCk (x_ 29)), i_ 35 (.addr 4 (x_ 34)), u_ (.store 1 none (x_ 35) (x_ 33))],
   r_ [i_ 2 (.mov (n_ 0))],
   .ret]⟩


/-! 88: wharfage/octets.Pad -/
def octets_Pad.pol : Pol := { pure := [132], heap := [999999], ro := roList, rs := [4] }
def octets_Pad.a : AFun := ⟨2, [.tmp 4],
  sq [r_ [i_ 4 (.mov (c_ (.string ⟨#[]⟩)))],
   sq [r_ [m_ 5 1, i_ 6 (.bin .gtr (x_ 5) (n_ 65536)), m_ 7 6, hm_ 7 8 1, hm_ 7 9 0, h_ 7 10 (.lenS (x_ 9)), h_ 7 11 (.bin .leq (x_ 8) (x_ 10)), i_ 12 (.pick (x_ 7) T_ (x_ 11))],
    if_ 12 (sq [r_ [m_ 13 0, m_ 4 13],
      .ret]) (.skip)],
   r_ [m_ 14 0, m_ 15 1, m_ 16 0, i_ 17 (.lenS (x_ 16)), i_ 18 (.bin .sub (x_ 15) (x_ 17)), i_ 19 (.callP 132 [(c_ (.string ⟨#[0]⟩)), (x_ 18)] [.str]), i_ 20 (.bin .add (x_ 14) (x_ 19)), m_ 4 20],
   .ret]⟩


/-! 89: (*wharfage/disk.Disk).settle -/
def disk_Disk_settle.pol : Pol := { heap := [999999], ro := roList, root := [(7, 7), (25, 7), (27, 7)], rs := [4], live := [([0, 1, 5, 11, 12, 13], [0, 5])] }
def disk_Disk_settle.L0 : ACode :=
  sq [r_ [i_ 14 (.bin .lss (x_ 13) (x_ 12))],
   if_ 14 (.skip) (.exit 0),
   .block 1 (sq [r_ [m_ 15 13, i_ 16 (.indexAddrS 2 (x_ 11) (x_ 13)), i_ 17 (.load [ix, .str] true none (x_ 16)), i_ 7 (.allocL [(.at (.int .i64 0)), (.at (.string ⟨#[]⟩))]), m_ 6 15, u_ (.store 2 (some 7) (x_ 7) (x_ 17))],
     r_ [m_ 18 1, m_ 19 6, i_ 20 (.callV (x_ 18) [(x_ 19)] [.bool])],
     if_ 20 (sq [d_ [m_ 21 0, i_ 22 (.nilCk (x_ 21)), i_ 23 (.addr 0 (x_ 22)), i_ 24 (.load [.sl 1] false none (x_ 23)), i_ 25 (.addr 0 (x_ 7)), i_ 26 (.load [ix] false (some 7) (x_ 25)), i_ 27 (.addr 1 (x_ 7)), i_ 28 (.load [.str] false (some 7) (x_ 27)), i_ 29 (.indexAddrS 1 (x_ 24) (x_ 26)), u_ (.store 1 none (x_ 29) (x_ 28))],
       r_ [m_ 30 5, i_ 31 (.bin .add (x_ 30) (n_ 1)), m_ 5 31]]) (.skip)]),
   r_ [i_ 32 (.bin .add (x_ 13) (n_ 1)), m_ 13 32]]
def disk_Disk_settle.a : AFun := ⟨2, [.tmp 4],
  sq [r_ [i_ 4 (.mov (n_ 0))],
   r_ [i_ 5 (.mov (n_ 0))],
   sq [r_ [m_ 8 0, i_ 9 (.nilCk (x_ 8)), i_ 10 (.addr 1 (x_ 9)), i_ 11 (.load [.sl 2] false none (x_ 10)), i_ 12 (.lenL (x_ 11)), i_ 13 (.mov (n_ 0))],
    .block 0 (.loop [0, 1, 5, 11, 12, 13] [0, 5] [4] disk_Disk_settle.L0)],
   r_ [m_ 33 0, i_ 34 (.nilCk (x_ 33)), i_ 35 (.addr 1 (x_ 34)), u_ (.store 1 none (x_ 35) (c_ (.slice none 0 0)))],
   r_ [m_ 36 5, m_ 4 36],
   .ret]⟩
def disk_Disk_settle.R0 (C : CallF) (N : Nat) := round (evalC C N disk_Disk_settle.L0) [0, 1, 5, 11, 12, 13] [0, 5] [4]
def disk_Disk_settle.K0 (C : CallF) (N : Nat) : Ex → St → R := contC C N [.snd, .snd, .fst, .snd, .blk] disk_Disk_settle.a.body (finish disk_Disk_settle.a)


/-! 90: (*wharfage/disk.Disk).Flush$1 -/
def disk_Disk_Flush_1.pol : Pol := { heap := [999999], ro := roList, rs := [2] }
def disk_Disk_Flush_1.a : AFun := ⟨1, [.tmp 2],
  sq [r_ [i_ 2 (.mov F_)],
   r_ [i_ 2 (.mov T_)],
   .ret]⟩


/-! 91: slices.Repeat[[]string,string] -/
def slices_Repeat_string_string.pol : Pol := { pure := [133], heap := [999999], ro := roList, rs := [4], live := [([7, 8], [7])] }
def slices_Repeat_string_string.L0 : ACode :=
  sq [sq [r_ [m_ 34 8, m_ 35 7, i_ 36 (.lenL (x_ 35)), i_ 37 (.bin .lss (x_ 34) (x_ 36))],
    if_ 37 (.skip) (.exit 0)],
   .block 1 (d_ [m_ 38 8, m_ 39 7, m_ 40 8, i_ 41 (.sliceV 1 (x_ 39) (some (x_ 40)) none), m_ 42 7, m_ 43 8, i_ 44 (.sliceV 1 (x_ 42) none (some (x_ 43))), i_ 45 (.copyG 1 (x_ 41) (x_ 44)), i_ 46 (.bin .add (x_ 38) (x_ 45)), m_ 8 46])]
def slices_Repeat_string_string.a : AFun := ⟨2, [.tmp 4],
  sq [r_ [i_ 4 (.nilS 1)],
   sq [r_ [m_ 9 1, i_ 10 (.bin .lss (x_ 9) (n_ 0))],
    if_ 10 (r_ [i_ 11 (.mkIfc 9 (c_ (.string ⟨#[99, 97, 110, 110, 111, 116, 32, 98, 101, 32, 110, 101, 103, 97, 116, 105, 118, 101]⟩))), u_ (.panicI (x_ 11))]) (.skip)],
   r_ [m_ 13 0, i_ 14 (.lenL (x_ 13)), i_ 15 (.convI .u64 (x_ 14)), m_ 16 1, i_ 17 (.convI .u64 (x_ 16)), i_ 18 (.callP 133 [(x_ 15), (x_ 17)] [.int .u64, .int .u64]), m_ 12 18, i_ 19 (.extract (x_ 12) 0), i_ 20 (.extract (x_ 12) 1), m_ 5 19, m_ 6 20],
   sq [r_ [m_ 21 5, i_ 22 (.bin .gtr (x_ 21) (k_ .u64 0)), m_ 23 22, hm_ 23 24 6, h_ 23 25 (.bin .gtr (x_ 24) (k_ .u64 9223372036854775807)), i_ 26 (.pick (x_ 23) T_ (x_ 25))],
    if_ 26 (r_ [i_ 27 (.mkIfc 9 (c_ (.string ⟨#[116, 104, 101, 32, 114, 101, 115, 117, 108, 116, 32, 111, 102, 32, 40, 108, 101, 110, 40, 120, 41, 32, 42, 32, 99, 111, 117, 110, 116, 41, 32, 111, 118, 101, 114, 102, 108, 111, 119, 115]⟩))), u_ (.panicI (x_ 27))]) (.skip)],
   r_ [m_ 28 6, i_ 29 (.convI .i64 (x_ 28)), i_ 30 (.makeG 1 16 [(.at (.string ⟨#[]⟩))] (x_ 29) (x_ 29)), m_ 7 30],
   r_ [m_ 31 7, m_ 32 0, i_ 33 (.copyG 1 (x_ 31) (x_ 32)), m_ 8 33],
   .block 0 (.loop [7, 8] [7] [4] slices_Repeat_string_string.L0),
   r_ [m_ 47 7, m_ 4 47],
   .ret]⟩
def slices_Repeat_string_string.R0 (C : CallF) (N : Nat) := round (evalC C N slices_Repeat_string_string.L0) [7, 8] [7] [4]
def slices_Repeat_string_string.K0 (C : CallF) (N : Nat) : Ex → St → R := contC C N [.snd, .snd, .snd, .snd, .snd, .snd, .fst, .blk] slices_Repeat_string_string.a.body (finish slices_Repeat_string_string.a)


/-! 92: wharfage/pages.head -/
def pages_head.pol : Pol := { pure := [88, 134], heap := [999999], ro := roList, rs := [6, 7] }
def pages_head.a : AFun := ⟨3, [.tmp 6, .tmp 7],
  sq [r_ [i_ 6 (.mov (c_ (.string ⟨#[]⟩))), i_ 7 (.mov (n_ 0))],
   r_ [m_ 8 2, m_ 9 0, m_ 10 1, i_ 11 (.callP 88 [(c_ (.string ⟨#[]⟩)), (n_ 480)] [.str]), i_ 12 (.build [(.at (.int .i64 0)), (.at (.int .u64 0)), (.at (.int .u64 0)), (.at (.int .i64 0)), (.at (.int .i64 0)), (.at (.string ⟨#[]⟩))] [(0, 1, (n_ 1)), (1, 1, (x_ 8)), (3, 1, (x_ 9)), (4, 1, (x_ 10)), (5, 1, (x_ 11))]), i_ 13 (.callP 134 [(x_ 12)] [.str, ix]), i_ 14 (.extract (x_ 13) 0), i_ 15 (.extract (x_ 13) 1), m_ 6 14, m_ 7 15],
   .ret]⟩


/-! 93: wharfage/journal.Open -/
def journal_Open.pol : Pol := { glob := [28], heap := [999999], ro := roList, rs := [6, 7] }
def journal_Open.a : AFun := ⟨3, [.tmp 6, .tmp 7],
  sq [r_ [i_ 6 (.mov (c_ (.pointer none))), i_ 7 (.mov (n_ 0))],
   sq [r_ [m_ 8 0, i_ 9 (.nilCmp false 1 (x_ 8)), m_ 10 9, hm_ 10 11 1, h_ 10 12 (.bin .lss (x_ 11) (n_ 4)), i_ 13 (.pick (x_ 10) T_ (x_ 12)), m_ 14 13, hm_ 14 15 1, h_ 14 16 (.bin .gtr (x_ 15) (n_ 1024)), i_ 17 (.pick (x_ 14) T_ (x_ 16)), m_ 18 17, hm_ 18 19 0, h_ 18 20 (.callR 47 [(x_ 19)] [ix]), hm_ 18 21 1, h_ 18 22 (.bin .leq (x_ 20) (x_ 21)), i_ 23 (.pick (x_ 18) T_ (x_ 22))],
    if_ 23 (sq [r_ [i_ 6 (.mov (c_ (.pointer none))), i_ 7 (.mov (n_ 18))],
      .ret]) (.skip)],
   r_ [m_ 24 0, m_ 25 1, m_ 26 2, i_ 27 (.build [(.at (.pointer none)), (.at (.int .i64 0)), (.at (.int .u64 0)), (.at (.int .i64 0)), (.at (.int .u64 0))] [(0, 1, (x_ 24)), (1, 1, (x_ 25)), (2, 1, (x_ 26))]), i_ 28 (.boxG (x_ 27)), m_ 6 28, i_ 7 (.mov (n_ 0))],
   .ret]⟩


/-! 94: (*wharfage/disk.Disk).Read -/
def disk_Disk_Read.pol : Pol := { glob := [3, 4, 5, 7], heap := [999999], ro := roList, rs := [4, 5], live := [([3, 4, 5], [900001])] }
def disk_Disk_Read.a : AFun := ⟨2, [.cell 4 [.str] false, .cell 5 [ix] false],
  sq [r_ [i_ 3 (.boxG (x_ 1)), i_ 4 (.allocG none [(.at (.string ⟨#[]⟩))]), i_ 5 (.allocG none [(.at (.int .i64 0))])],
   .block 0 (sq [r_ [m_ 9 0, i_ 10 (.nilCmp true 1 (x_ 9)), m_ 11 10, gm_ 11 12 0, g_ 11 13 (.nilCk (x_ 12)), g_ 11 14 (.addr 3 (x_ 13)), g_ 11 15 (.load [.bool] false none (x_ 14)), i_ 16 (.pick (x_ 11) (x_ 15) F_), m_ 8 16],
     if_ 8 (sq [r_ [u_ (.store 1 none (x_ 4) (c_ (.string ⟨#[]⟩))), u_ (.store 1 none (x_ 5) (n_ 17))],
       .ret]) (sq [r_ [m_ 18 0, i_ 19 (.load [ix] false none (x_ 3)), i_ 20 (.callR 86 [(x_ 18), (x_ 19)] [.bool]), i_ 21 (.un .not (x_ 20)), m_ 17 21],
       if_ 17 (sq [r_ [u_ (.store 1 none (x_ 4) (c_ (.string ⟨#[]⟩))), u_ (.store 1 none (x_ 5) (n_ 18))],
         .ret]) (.skip)])]),
   sq [r_ [m_ 22 0, i_ 23 (.nilCk (x_ 22)), i_ 24 (.addr 1 (x_ 23)), i_ 25 (.load [.sl 2] false none (x_ 24)), i_ 26 (.call 135 [(x_ 25)] [.any])],
    .block 1 (.ranged 900001 (x_ 26) [3, 4, 5])],
   d_ [m_ 35 0, i_ 36 (.nilCk (x_ 35)), i_ 37 (.addr 0 (x_ 36)), i_ 38 (.load [.sl 1] false none (x_ 37)), i_ 39 (.load [ix] false none (x_ 3)), i_ 40 (.indexAddrS 1 (x_ 38) (x_ 39)), i_ 41 (.load [.str] false none (x_ 40)), u_ (.store 1 none (x_ 4) (x_ 41)), u_ (.store 1 none (x_ 5) (n_ 0))],
   .ret]⟩

def disk_Disk_Read.polY900001 : Pol := { glob := [3, 4, 5, 7], heap := [999999], ro := roList }
def disk_Disk_Read.Y900001 : AYield := ⟨[3, 4, 5], [27, 28],
  r_ [i_ 7 (.allocG none [(.at (.int .i64 0)), (.at (.string ⟨#[]⟩))]), u_ (.store 2 none (x_ 7) (x_ 28))],
  .block 2 (sq [r_ [i_ 29 (.addr 0 (x_ 7)), i_ 30 (.load [ix] false none (x_ 29)), i_ 31 (.load [ix] false none (x_ 3)), i_ 32 (.bin .eql (x_ 30) (x_ 31))],
    if_ 32 (sq [r_ [i_ 33 (.addr 1 (x_ 7)), i_ 34 (.load [.str] false none (x_ 33)), u_ (.store 1 none (x_ 4) (x_ 34)), u_ (.store 1 none (x_ 5) (n_ 0))],
      .ret]) (.skip)])⟩


/-! 95: wharfage/sector.Open -/
def sector_Open.pol : Pol := { pure := [134], heap := [999999], ro := roList, root := [(2, 2), (5, 5), (22, 5), (23, 5), (30, 5), (31, 5), (36, 5)], rs := [2, 3] }
def sector_Open.a : AFun := ⟨1, [.cell 2 [ix, .int .u64, .int .u64, ix, ix, .str] true, .tmp 3],
  sq [r_ [i_ 2 (.allocL [(.at (.int .i64 0)), (.at (.int .u64 0)), (.at (.int .u64 0)), (.at (.int .i64 0)), (.at (.int .i64 0)), (.at (.string ⟨#[]⟩))]), i_ 3 (.mov (n_ 0))],
   r_ [m_ 8 0, i_ 9 (.call 116 [(x_ 8)] [.any]), m_ 4 9],
   r_ [m_ 10 4, i_ 11 (.call 117 [(x_ 10), (n_ 1)] [.int .u64]), i_ 12 (.convI .i64 (x_ 11)), i_ 13 (.build [(.at (.int .i64 0)), (.at (.int .u64 0)), (.at (.int .u64 0)), (.at (.int .i64 0)), (.at (.int .i64 0)), (.at (.string ⟨#[]⟩))] [(0, 1, (x_ 12))]), i_ 5 (.allocL [(.at (.int .i64 0)), (.at (.int .u64 0)), (.at (.int .u64 0)), (.at (.int .i64 0)), (.at (.int .i64 0)), (.at (.string ⟨#[]⟩))]), u_ (.store 6 (some 5) (x_ 5) (x_ 13))],
   r_ [m_ 14 4, i_ 15 (.call 117 [(x_ 14), (n_ 1)] [.int .u64])],
   r_ [m_ 16 4, i_ 17 (.call 117 [(x_ 16), (n_ 2)] [.int .u64]), i_ 18 (.convI .i64 (x_ 17)), m_ 19 4, i_ 20 (.call 117 [(x_ 19), (n_ 2)] [.int .u64]), i_ 21 (.convI .i64 (x_ 20)), i_ 22 (.addr 3 (x_ 5)), u_ (.store 1 (some 5) (x_ 22) (x_ 18)), i_ 23 (.addr 4 (x_ 5)), u_ (.store 1 (some 5) (x_ 23) (x_ 21))],
   r_ [m_ 24 4, i_ 25 (.call 117 [(x_ 24), (n_ 2)] [.int .u64])],
   r_ [m_ 26 4, i_ 27 (.call 117 [(x_ 26), (n_ 8)] [.int .u64]), m_ 28 4, i_ 29 (.call 117 [(x_ 28), (n_ 8)] [.int .u64]), i_ 30 (.addr 1 (x_ 5)), u_ (.store 1 (some 5) (x_ 30) (x_ 27)), i_ 31 (.addr 2 (x_ 5)), u_ (.store 1 (some 5) (x_ 31) (x_ 29))],
   r_ [m_ 32 4, i_ 33 (.call 117 [(x_ 32), (n_ 8)] [.int .u64])],
   r_ [m_ 34 4, i_ 35 (.call 136 [(x_ 34), (n_ 480)] [.str]), i_ 36 (.addr 5 (x_ 5)), u_ (.store 1 (some 5) (x_ 36) (x_ 35))],
   sq [r_ [i_ 38 (.load [ix, .int .u64, .int .u64, ix, ix, .str] true (some 5) (x_ 5)), i_ 39 (.callP 134 [(x_ 38)] [.str, ix]), m_ 37 39, i_ 40 (.extract (x_ 37) 0), i_ 41 (.extract (x_ 37) 1), m_ 6 40, m_ 7 41],
    r_ [m_ 42 7, i_ 43 (.bin .neq (x_ 42) (n_ 0)), m_ 44 43, hm_ 44 45 6, hm_ 44 46 0, h_ 44 47 (.bin .neq (x_ 45) (x_ 46)), i_ 48 (.pick (x_ 44) T_ (x_ 47))],
    if_ 48 (sq [r_ [i_ 49 (.build [(.at (.int .i64 0)), (.at (.int .u64 0)), (.at (.int .u64 0)), (.at (.int .i64 0)), (.at (.int .i64 0)), (.at (.string ⟨#[]⟩))] []), u_ (.store 6 (some 2) (x_ 2) (x_ 49)), i_ 3 (.mov (n_ 19))],
      .ret]) (.skip)],
   r_ [i_ 50 (.load [ix, .int .u64, .int .u64, ix, ix, .str] true (some 5) (x_ 5)), u_ (.store 6 (some 2) (x_ 2) (x_ 50)), i_ 3 (.mov (n_ 0))],
   .ret]⟩


/-! 96: (*wharfage/pages.Store).home -/
def pages_Store_home.pol : Pol := { heap := [999999], ro := roList, rs := [4] }
def pages_Store_home.a : AFun := ⟨2, [.tmp 4],
  sq [r_ [i_ 4 (.mov (n_ 0))],
   r_ [m_ 5 0, i_ 6 (.nilCk (x_ 5)), i_ 7 (.addr 1 (x_ 6)), i_ 8 (.load [ix] false none (x_ 7)), i_ 9 (.bin .add (n_ 1) (x_ 8)), m_ 10 1, i_ 11 (.bin .add (x_ 9) (x_ 10)), m_ 4 11],
   .ret]⟩


/-! 97: wharfage/sector.OfHome -/
def sector_OfHome.pol : Pol := { pure := [49, 88, 95], heap := [999999], ro := roList, root := [(6, 6), (22, 6), (27, 6)], rs := [4, 5] }
def sector_OfHome.a : AFun := ⟨2, [.tmp 4, .tmp 5],
  sq [r_ [i_ 4 (.mov (c_ (.string ⟨#[]⟩))), i_ 5 (.mov (n_ 0))],
   sq [r_ [m_ 8 0, i_ 9 (.callP 49 [] [.str]), i_ 10 (.bin .eql (x_ 8) (x_ 9))],
    if_ 10 (sq [r_ [i_ 11 (.callP 88 [(c_ (.string ⟨#[]⟩)), (n_ 480)] [.str]), m_ 4 11, i_ 5 (.mov (n_ 0))],
      .ret]) (.skip)],
   r_ [m_ 13 0, i_ 14 (.callP 95 [(x_ 13)] [.ag, ix]), m_ 12 14, i_ 15 (.extract (x_ 12) 0), i_ 16 (.extract (x_ 12) 1), i_ 6 (.allocL [(.at (.int .i64 0)), (.at (.int .u64 0)), (.at (.int .u64 0)), (.at (.int .i64 0)), (.at (.int .i64 0)), (.at (.string ⟨#[]⟩))]), u_ (.store 6 (some 6) (x_ 6) (x_ 15)), m_ 7 16],
   sq [r_ [m_ 17 7, i_ 18 (.bin .neq (x_ 17) (n_ 0)), m_ 19 18, h_ 19 20 (.load [ix, .int .u64, .int .u64, ix, ix, .str] true (some 6) (x_ 6)), hm_ 19 21 1, h_ 19 22 (.addr 5 (x_ 6)), h_ 19 23 (.load [.str] false (some 6) (x_ 22)), h_ 19 24 (.build [(.at (.int .i64 0)), (.at (.int .u64 0)), (.at (.int .u64 0)), (.at (.int .i64 0)), (.at (.int .i64 0)), (.at (.string ⟨#[]⟩))] [(0, 1, (n_ 4)), (3, 1, (x_ 21)), (5, 1, (x_ 23))]), h_ 19 25 (.eqA true [ix, .int .u64, .int .u64, ix, ix, .str] 139 (x_ 20) (x_ 24)), i_ 26 (.pick (x_ 19) T_ (x_ 25))],
    if_ 26 (sq [r_ [i_ 4 (.mov (c_ (.string ⟨#[]⟩))), i_ 5 (.mov (n_ 19))],
      .ret]) (.skip)],
   r_ [i_ 27 (.addr 5 (x_ 6)), i_ 28 (.load [.str] false (some 6) (x_ 27)), m_ 4 28, i_ 5 (.mov (n_ 0))],
   .ret]⟩


/-! 98: wharfage/journal.Scan -/
def journal_Scan.pol : Pol := { glob := [29], heap := [999999], ro := roList, rs := [6, 7], live := [([10, 11, 12], [])] }
def journal_Scan.L0 : ACode :=
  sq [.block 1 (sq [r_ [m_ 33 10, m_ 34 12, i_ 35 (.call 137 [(x_ 33), (x_ 34)] [.any, ix]), m_ 32 35, i_ 36 (.extract (x_ 32) 0), i_ 37 (.extract (x_ 32) 1), m_ 13 36, m_ 14 37],
     sq [r_ [m_ 38 14, i_ 39 (.bin .neq (x_ 38) (n_ 0))],
      if_ 39 (sq [r_ [m_ 40 14, i_ 6 (.nilS 1), m_ 7 40],
        .ret]) (.skip)],
     sq [r_ [m_ 41 13, i_ 42 (.lenL (x_ 41)), i_ 43 (.bin .eql (x_ 42) (n_ 0))],
      if_ 43 (sq [r_ [m_ 44 11, m_ 6 44, i_ 7 (.mov (n_ 0))],
        .ret]) (.skip)],
     r_ [m_ 45 11, m_ 46 13, i_ 47 (.buildG 1 [(x_ 46)]), i_ 48 (.appendH none 1 24 (x_ 45) (x_ 47)), m_ 11 48]]),
   r_ [m_ 30 12, i_ 31 (.bin .add (x_ 30) (k_ .u64 1)), m_ 12 31]]
def journal_Scan.a : AFun := ⟨3, [.tmp 6, .tmp 7],
  sq [r_ [i_ 6 (.nilS 1), i_ 7 (.mov (n_ 0))],
   sq [r_ [m_ 16 0, m_ 17 1, m_ 18 2, i_ 19 (.call 93 [(x_ 16), (x_ 17), (x_ 18)] [.any, ix]), m_ 15 19, i_ 20 (.extract (x_ 15) 0), i_ 21 (.extract (x_ 15) 1), m_ 8 20, m_ 9 21],
    r_ [m_ 22 9, i_ 23 (.bin .neq (x_ 22) (n_ 0))],
    if_ 23 (sq [r_ [m_ 24 9, i_ 6 (.nilS 1), m_ 7 24],
      .ret]) (.skip)],
   r_ [m_ 25 0, m_ 26 1, m_ 27 2, i_ 28 (.build [(.at (.pointer none)), (.at (.int .i64 0)), (.at (.int .u64 0)), (.at (.int .i64 0))] [(0, 1, (x_ 25)), (1, 1, (x_ 26)), (2, 1, (x_ 27))]), i_ 29 (.boxG (x_ 28)), m_ 10 29],
   r_ [i_ 11 (.nilS 1)],
   r_ [i_ 12 (.mov (k_ .u64 1))],
   .block 0 (.loop [10, 11, 12] [] [6, 7] journal_Scan.L0)]⟩
def journal_Scan.R0 (C : CallF) (N : Nat) := round (evalC C N journal_Scan.L0) [10, 11, 12] [] [6, 7]
def journal_Scan.K0 (C : CallF) (N : Nat) : Ex → St → R := contC C N [.snd, .snd, .snd, .snd, .snd, .blk] journal_Scan.a.body (finish journal_Scan.a)


/-! 99: (*wharfage/pages.Store).has -/
def pages_Store_has.pol : Pol := { glob := [2], heap := [999999], ro := roList, rs := [4] }
def pages_Store_has.a : AFun := ⟨2, [.tmp 4],
  sq [r_ [i_ 2 (.boxG (x_ 0)), i_ 4 (.mov F_)],
   r_ [m_ 5 1, i_ 6 (.makeFunc 139 [] [(x_ 2)]), i_ 7 (.call 138 [(x_ 5), (x_ 6)] [.bool]), i_ 8 (.un .not (x_ 7)), m_ 4 8],
   .ret]⟩


/-! 100: (*wharfage/pages.Store).change -/
def pages_Store_change.pol : Pol := { heap := [999999], ro := roList, root := [(5, 5), (16, 5), (18, 5), (25, 5)], live := [([0, 6, 7, 8], [])] }
def pages_Store_change.L0 : ACode :=
  sq [r_ [i_ 9 (.bin .lss (x_ 8) (x_ 7))],
   if_ 9 (.skip) (.exit 0),
   .block 1 (sq [r_ [i_ 10 (.indexAddrS 2 (x_ 6) (x_ 8)), i_ 11 (.load [ix, .str] true none (x_ 10)), i_ 5 (.allocL [(.at (.int .i64 0)), (.at (.string ⟨#[]⟩))]), u_ (.store 2 (some 5) (x_ 5) (x_ 11))],
     d_ [m_ 12 0, i_ 13 (.nilCk (x_ 12)), i_ 14 (.addr 2 (x_ 13)), i_ 15 (.load [.sl 1] false none (x_ 14)), i_ 16 (.addr 0 (x_ 5)), i_ 17 (.load [ix] false (some 5) (x_ 16)), i_ 18 (.addr 1 (x_ 5)), i_ 19 (.load [.str] false (some 5) (x_ 18)), i_ 20 (.indexAddrS 1 (x_ 15) (x_ 17)), u_ (.store 1 none (x_ 20) (x_ 19))],
     d_ [m_ 21 0, i_ 22 (.nilCk (x_ 21)), i_ 23 (.addr 3 (x_ 22)), i_ 24 (.load [.any] false none (x_ 23)), i_ 25 (.addr 0 (x_ 5)), i_ 26 (.load [ix] false (some 5) (x_ 25)), u_ (.mapSet false (x_ 24) (x_ 26) T_)]]),
   r_ [i_ 27 (.bin .add (x_ 8) (n_ 1)), m_ 8 27]]
def pages_Store_change.a : AFun := ⟨2, [],
  sq [r_ [m_ 6 1, i_ 7 (.lenL (x_ 6)), i_ 8 (.mov (n_ 0))],
   .block 0 (.loop [0, 6, 7, 8] [] [] pages_Store_change.L0)]⟩
def pages_Store_change.R0 (C : CallF) (N : Nat) := round (evalC C N pages_Store_change.L0) [0, 6, 7, 8] [] []
def pages_Store_change.K0 (C : CallF) (N : Nat) : Ex → St → R := contC C N [.snd, .blk] pages_Store_change.a.body (finish pages_Store_change.a)


/-! 102: maps.Keys[map[int]bool,int,bool] -/
def maps_Keys_map_intbool_int_bool.pol : Pol := { glob := [1], heap := [999999], ro := roList, rs := [2] }
def maps_Keys_map_intbool_int_bool.a : AFun := ⟨1, [.tmp 2],
  sq [r_ [i_ 1 (.boxG (x_ 0)), i_ 2 (.mov (c_ .nilFunc))],
   r_ [i_ 3 (.makeFunc 142 [] [(x_ 1)]), m_ 2 3],
   .ret]⟩


/-! 103: wharfage/sector.Home -/
def sector_Home.pol : Pol := { pure := [49, 134, 143, 144], heap := [999999], ro := roList, root := [(6, 6)], rs := [4, 5] }
def sector_Home.a : AFun := ⟨2, [.tmp 4, .tmp 5],
  sq [r_ [i_ 4 (.mov (c_ (.string ⟨#[]⟩))), i_ 5 (.mov (n_ 0))],
   r_ [m_ 7 0, m_ 8 1, i_ 9 (.build [(.at (.int .i64 0)), (.at (.int .u64 0)), (.at (.int .u64 0)), (.at (.int .i64 0)), (.at (.int .i64 0)), (.at (.string ⟨#[]⟩))] [(0, 1, (n_ 4)), (3, 1, (x_ 7)), (5, 1, (x_ 8))]), i_ 6 (.allocL [(.at (.int .i64 0)), (.at (.int .u64 0)), (.at (.int .u64 0)), (.at (.int .i64 0)), (.at (.int .i64 0)), (.at (.string ⟨#[]⟩))]), u_ (.store 6 (some 6) (x_ 6) (x_ 9))],
   sq [r_ [i_ 10 (.load [ix, .int .u64, .int .u64, ix, ix, .str] true (some 6) (x_ 6)), i_ 11 (.callP 143 [(x_ 10)] [ix]), i_ 12 (.bin .eql (x_ 11) (n_ 0)), m_ 13 12, gm_ 13 14 1, g_ 13 15 (.callP 144 [(x_ 14)] [.bool]), i_ 16 (.pick (x_ 13) (x_ 15) F_)],
    if_ 16 (sq [r_ [i_ 17 (.callP 49 [] [.str]), m_ 4 17, i_ 5 (.mov (n_ 0))],
      .ret]) (.skip)],
   r_ [i_ 18 (.load [ix, .int .u64, .int .u64, ix, ix, .str] true (some 6) (x_ 6)), i_ 19 (.callP 134 [(x_ 18)] [.str, ix]), i_ 20 (.extract (x_ 19) 0), i_ 21 (.extract (x_ 19) 1), m_ 4 20, m_ 5 21],
   .ret]⟩


/-! 105: maps.Keys[map[int]string,int,string] -/
def maps_Keys_map_intstring_int_string.pol : Pol := { glob := [1], heap := [999999], ro := roList, rs := [2] }
def maps_Keys_map_intstring_int_string.a : AFun := ⟨1, [.tmp 2],
  sq [r_ [i_ 1 (.boxG (x_ 0)), i_ 2 (.mov (c_ .nilFunc))],
   r_ [i_ 3 (.makeFunc 145 [] [(x_ 1)]), m_ 2 3],
   .ret]⟩


/-! 106: (*wharfage/pages.Store).Read -/
def pages_Store_Read.pol : Pol := { heap := [999999], ro := roList, rs := [4, 5] }
def pages_Store_Read.a : AFun := ⟨2, [.tmp 4, .tmp 5],
  sq [r_ [i_ 4 (.mov (c_ (.string ⟨#[]⟩))), i_ 5 (.mov (n_ 0))],
   sq [r_ [m_ 6 1, i_ 7 (.bin .lss (x_ 6) (n_ 0)), m_ 8 7, hm_ 8 9 1, hm_ 8 10 0, h_ 8 11 (.callR 73 [(x_ 10)] [ix]), h_ 8 12 (.bin .geq (x_ 9) (x_ 11)), i_ 13 (.pick (x_ 8) T_ (x_ 12))],
    if_ 13 (sq [r_ [i_ 4 (.mov (c_ (.string ⟨#[]⟩))), i_ 5 (.mov (n_ 18))],
      .ret]) (.skip)],
   r_ [m_ 14 0, i_ 15 (.nilCk (x_ 14)), i_ 16 (.addr 2 (x_ 15)), i_ 17 (.load [.sl 1] false none (x_ 16)), m_ 18 1, i_ 19 (.indexAddrS 1 (x_ 17) (x_ 18)), i_ 20 (.load [.str] false none (x_ 19)), m_ 4 20, i_ 5 (.mov (n_ 0))],
   .ret]⟩


/-! 107: wharfage/journal.Check -/
def journal_Check.pol : Pol := { pure := [146], heap := [999999], ro := roList, root := [(5, 5), (13, 5), (18, 5), (25, 5), (30, 5)], rs := [2], live := [([0, 3, 7, 8, 9], [0])] }
def journal_Check.L0 : ACode :=
  sq [r_ [i_ 10 (.bin .lss (x_ 9) (x_ 8))],
   if_ 10 (.skip) (.exit 0),
   .block 1 (sq [r_ [i_ 11 (.indexAddrS 2 (x_ 7) (x_ 9)), i_ 12 (.load [ix, .str] true none (x_ 11)), i_ 5 (.allocL [(.at (.int .i64 0)), (.at (.string ⟨#[]⟩))]), u_ (.store 2 (some 5) (x_ 5) (x_ 12))],
     sq [r_ [i_ 13 (.addr 0 (x_ 5)), i_ 14 (.load [ix] false (some 5) (x_ 13)), i_ 15 (.callP 146 [(x_ 14)] [.bool]), i_ 16 (.un .not (x_ 15)), m_ 17 16, h_ 17 18 (.addr 1 (x_ 5)), h_ 17 19 (.load [.str] false (some 5) (x_ 18)), h_ 17 20 (.lenS (x_ 19)), h_ 17 21 (.bin .neq (x_ 20) (n_ 480)), i_ 22 (.pick (x_ 17) T_ (x_ 21)), m_ 23 22, hm_ 23 24 3, h_ 23 25 (.addr 0 (x_ 5)), h_ 23 26 (.load [ix] false (some 5) (x_ 25)), h_ 23 27 (.mapGet false [(.at (.bool false))] false false (x_ 24) (x_ 26)), i_ 28 (.pick (x_ 23) T_ (x_ 27))],
      if_ 28 (sq [r_ [i_ 2 (.mov (n_ 18))],
        .ret]) (.skip)],
     r_ [m_ 29 3, i_ 30 (.addr 0 (x_ 5)), i_ 31 (.load [ix] false (some 5) (x_ 30)), u_ (.mapSet false (x_ 29) (x_ 31) T_)]]),
   r_ [i_ 32 (.bin .add (x_ 9) (n_ 1)), m_ 9 32]]
def journal_Check.a : AFun := ⟨1, [.tmp 2],
  sq [r_ [i_ 2 (.mov (n_ 0))],
   r_ [i_ 6 (.mkMap), m_ 3 6],
   sq [r_ [m_ 7 0, i_ 8 (.lenL (x_ 7)), i_ 9 (.mov (n_ 0))],
    .block 0 (.loop [0, 3, 7, 8, 9] [0] [2] journal_Check.L0)],
   sq [r_ [m_ 33 0, i_ 34 (.lenL (x_ 33)), i_ 35 (.bin .eql (x_ 34) (n_ 0))],
    if_ 35 (sq [r_ [i_ 2 (.mov (n_ 18))],
      .ret]) (.skip)],
   r_ [i_ 2 (.mov (n_ 0))],
   .ret]⟩
def journal_Check.R0 (C : CallF) (N : Nat) := round (evalC C N journal_Check.L0) [0, 3, 7, 8, 9] [0] [2]
def journal_Check.K0 (C : CallF) (N : Nat) : Ex → St → R := contC C N [.snd, .snd, .fst, .snd, .blk] journal_Check.a.body (finish journal_Check.a)


/-! 108: (*wharfage/disk.Disk).Down -/
def disk_Disk_Down.pol : Pol := { heap := [999999], ro := roList, rs := [2] }
def disk_Disk_Down.a : AFun := ⟨1, [.tmp 2],
  sq [r_ [i_ 2 (.mov F_)],
   r_ [m_ 3 0, i_ 4 (.nilCmp false 1 (x_ 3)), m_ 5 4, hm_ 5 6 0, h_ 5 7 (.nilCk (x_ 6)), h_ 5 8 (.addr 3 (x_ 7)), h_ 5 9 (.load [.bool] false none (x_ 8)), i_ 10 (.pick (x_ 5) T_ (x_ 9)), m_ 2 10],
   .ret]⟩


/-! 109: (*wharfage/pages.Store).Room -/
def pages_Store_Room.pol : Pol := { heap := [999999], ro := roList, rs := [2] }
def pages_Store_Room.a : AFun := ⟨1, [.tmp 2],
  sq [r_ [i_ 2 (.mov (n_ 0))],
   sq [r_ [m_ 3 0, i_ 4 (.nilCmp false 1 (x_ 3))],
    if_ 4 (sq [r_ [i_ 2 (.mov (n_ 0))],
      .ret]) (.skip)],
   r_ [m_ 5 0, i_ 6 (.nilCk (x_ 5)), i_ 7 (.addr 4 (x_ 6)), i_ 8 (.load [.any] false none (x_ 7)), i_ 9 (.callR 147 [(x_ 8)] [ix]), m_ 2 9],
   .ret]⟩


/-! 110: (*wharfage/journal.Journal).Append -/
def journal_Journal_Append.pol : Pol := { pure := [88], heap := [999999], ro := roList, root := [(6, 6), (33, 6), (36, 6), (8, 8)], rs := [4], live := [([0, 1, 24, 25, 26], [0, 1])] }
def journal_Journal_Append.L0 : ACode :=
  sq [r_ [i_ 27 (.bin .lss (x_ 26) (x_ 25))],
   if_ 27 (.skip) (.exit 1),
   .block 2 (sq [r_ [m_ 28 26, i_ 29 (.indexAddrS 2 (x_ 24) (x_ 26)), i_ 30 (.load [ix, .str] true none (x_ 29)), i_ 6 (.allocL [(.at (.int .i64 0)), (.at (.string ⟨#[]⟩))]), m_ 5 28, u_ (.store 2 (some 6) (x_ 6) (x_ 30))],
     r_ [m_ 31 0, m_ 32 5, i_ 33 (.addr 0 (x_ 6)), i_ 34 (.load [ix] false (some 6) (x_ 33)), m_ 35 5, i_ 36 (.addr 1 (x_ 6)), i_ 37 (.load [.str] false (some 6) (x_ 36)), i_ 38 (.build [(.at (.int .i64 0)), (.at (.int .u64 0)), (.at (.int .u64 0)), (.at (.int .i64 0)), (.at (.int .i64 0)), (.at (.string ⟨#[]⟩))] [(0, 1, (n_ 2)), (3, 1, (x_ 34)), (4, 1, (x_ 35)), (5, 1, (x_ 37))]), i_ 39 (.call 148 [(x_ 31), (x_ 32), (x_ 38)] [ix]), m_ 7 39],
     r_ [m_ 40 7, i_ 41 (.bin .neq (x_ 40) (n_ 0))],
     if_ 41 (sq [r_ [m_ 42 7, m_ 4 42],
       .ret]) (.skip)]),
   r_ [i_ 43 (.bin .add (x_ 26) (n_ 1)), m_ 26 43]]
def journal_Journal_Append.a : AFun := ⟨2, [.tmp 4],
  sq [r_ [i_ 4 (.mov (n_ 0))],
   .block 0 (sq [r_ [m_ 11 0, i_ 12 (.nilCmp false 1 (x_ 11)), m_ 13 12, hm_ 13 14 1, h_ 13 15 (.call 107 [(x_ 14)] [ix]), h_ 13 16 (.bin .neq (x_ 15) (n_ 0)), i_ 17 (.pick (x_ 13) T_ (x_ 16)), m_ 10 17],
     if_ 10 (sq [r_ [i_ 4 (.mov (n_ 18))],
       .ret]) (sq [r_ [m_ 19 1, i_ 20 (.lenL (x_ 19)), m_ 21 0, i_ 22 (.callR 147 [(x_ 21)] [ix]), i_ 23 (.bin .geq (x_ 20) (x_ 22)), m_ 18 23],
       if_ 18 (sq [r_ [i_ 4 (.mov (n_ 14))],
         .ret]) (.skip)])]),
   sq [r_ [m_ 24 1, i_ 25 (.lenL (x_ 24)), i_ 26 (.mov (n_ 0))],
    .block 1 (.loop [0, 1, 24, 25, 26] [0, 1] [4] journal_Journal_Append.L0)],
   r_ [m_ 44 1, i_ 45 (.lenL (x_ 44)), i_ 46 (.callP 88 [(c_ (.string ⟨#[]⟩)), (n_ 480)] [.str]), i_ 47 (.build [(.at (.int .i64 0)), (.at (.int .u64 0)), (.at (.int .u64 0)), (.at (.int .i64 0)), (.at (.int .i64 0)), (.at (.string ⟨#[]⟩))] [(0, 1, (n_ 3)), (4, 1, (x_ 45)), (5, 1, (x_ 46))]), i_ 8 (.allocL [(.at (.int .i64 0)), (.at (.int .u64 0)), (.at (.int .u64 0)), (.at (.int .i64 0)), (.at (.int .i64 0)), (.at (.string ⟨#[]⟩))]), u_ (.store 6 (some 8) (x_ 8) (x_ 47))],
   sq [r_ [m_ 48 0, m_ 49 1, i_ 50 (.lenL (x_ 49)), i_ 51 (.load [ix, .int .u64, .int .u64, ix, ix, .str] true (some 8) (x_ 8)), i_ 52 (.call 148 [(x_ 48), (x_ 50), (x_ 51)] [ix]), m_ 9 52],
    r_ [m_ 53 9, i_ 54 (.bin .neq (x_ 53) (n_ 0))],
    if_ 54 (sq [r_ [m_ 55 9, m_ 4 55],
      .ret]) (.skip)],
   r_ [m_ 56 0, i_ 57 (.nilCk (x_ 56)), i_ 58 (.addr 3 (x_ 57)), i_ 59 (.load [ix] false none (x_ 58)), m_ 60 1, i_ 61 (.lenL (x_ 60)), i_ 62 (.bin .add (x_ 61) (n_ 1)), i_ 63 (.bin .add (x_ 59) (x_ 62)), i_ 64 (.nilCk (x_ 56)), i_ 65 (.addr 3 (x_ 64)), u_ (.store 1 none (x_ 65) (x_ 63))],
   r_ [m_ 66 0, i_ 67 (.nilCk (x_ 66)), i_ 68 (.addr 4 (x_ 67)), i_ 69 (.load [.int .u64] false none (x_ 68)), i_ 70 (.bin .add (x_ 69) (k_ .u64 1)), i_ 71 (.nilCk (x_ 66)), i_ 72 (.addr 4 (x_ 71)), u_ (.store 1 none (x_ 72) (x_ 70))],
   r_ [i_ 4 (.mov (n_ 0))],
   .ret]⟩
def journal_Journal_Append.R0 (C : CallF) (N : Nat) := round (evalC C N journal_Journal_Append.L0) [0, 1, 24, 25, 26] [0, 1] [4]
def journal_Journal_Append.K0 (C : CallF) (N : Nat) : Ex → St → R := contC C N [.snd, .snd, .fst, .snd, .blk] journal_Journal_Append.a.body (finish journal_Journal_Append.a)


/-! 111: (*wharfage/journal.Journal).Epoch -/
def journal_Journal_Epoch.pol : Pol := { heap := [999999], ro := roList, rs := [2] }
def journal_Journal_Epoch.a : AFun := ⟨1, [.tmp 2],
  sq [r_ [i_ 2 (.mov (k_ .u64 0))],
   sq [r_ [m_ 3 0, i_ 4 (.nilCmp false 1 (x_ 3))],
    if_ 4 (sq [r_ [i_ 2 (.mov (k_ .u64 0))],
      .ret]) (.skip)],
   r_ [m_ 5 0, i_ 6 (.nilCk (x_ 5)), i_ 7 (.addr 2 (x_ 6)), i_ 8 (.load [.int .u64] false none (x_ 7)), m_ 2 8],
   .ret]⟩


/-! 112: wharfage/bitmap.is -/
def bitmap_is.pol : Pol := { heap := [999999], ro := roList, rs := [2] }
def bitmap_is.a : AFun := ⟨1, [.tmp 2],
  sq [r_ [i_ 2 (.mov F_)],
   r_ [m_ 3 0, i_ 4 (.lenS (x_ 3)), i_ 5 (.bin .eql (x_ 4) (n_ 480)), m_ 2 5],
   .ret]⟩


/-! 113: math/bits.OnesCount8 -/
def math_bits_OnesCount8.pol : Pol := { heap := [999999], ro := roList, rs := [2] }
def math_bits_OnesCount8.a : AFun := ⟨1, [.tmp 2],
  sq [r_ [i_ 2 (.mov (n_ 0))],
   r_ [m_ 3 0, i_ 4 (.indexS (c_ (.string ⟨#[0, 1, 1, 2, 1, 2, 2, 3, 1, 2, 2, 3, 2, 3, 3, 4, 1, 2, 2, 3, 2, 3, 3, 4, 2, 3, 3, 4, 3, 4, 4, 5, 1, 2, 2, 3, 2, 3, 3, 4, 2, 3, 3, 4, 3, 4, 4, 5, 2, 3, 3, 4, 3, 4, 4, 5, 3, 4, 4, 5, 4, 5, 5, 6, 1, 2, 2, 3, 2, 3, 3, 4, 2, 3, 3, 4, 3, 4, 4, 5, 2, 3, 3, 4, 3, 4, 4, 5, 3, 4, 4, 5, 4, 5, 5, 6, 2, 3, 3, 4, 3, 4, 4, 5, 3, 4, 4, 5, 4, 5, 5, 6, 3, 4, 4, 5, 4, 5, 5, 6, 4, 5, 5, 6, 5, 6, 6, 7, 1, 2, 2, 3, 2, 3, 3, 4, 2, 3, 3, 4, 3, 4, 4, 5, 2, 3, 3, 4, 3, 4, 4, 5, 3, 4, 4, 5, 4, 5, 5, 6, 2, 3, 3, 4, 3, 4, 4, 5, 3, 4, 4, 5, 4, 5, 5, 6, 3, 4, 4, 5, 4, 5, 5, 6, 4, 5, 5, 6, 5, 6, 6, 7, 2, 3, 3, 4, 3, 4, 4, 5, 3, 4, 4, 5, 4, 5, 5, 6, 3, 4, 4, 5, 4, 5, 5, 6, 4, 5, 5, 6, 5, 6, 6, 7, 3, 4, 4, 5, 4, 5, 5, 6, 4, 5, 5, 6, 5, 6, 6, 7, 4, 5, 5, 6, 5, 6, 6, 7, 5, 6, 6, 7, 6, 7, 7, 8]⟩)) (x_ 3)), i_ 5 (.convI .i64 (x_ 4)), m_ 2 5],
   .ret]⟩


/-! 114: wharfage/bitmap.Used -/
def bitmap_Used.pol : Pol := { pure := [112, 149], heap := [999999], ro := roList, rs := [4] }
def bitmap_Used.a : AFun := ⟨2, [.tmp 4],
  sq [r_ [i_ 4 (.mov F_)],
   r_ [m_ 5 0, i_ 6 (.callP 112 [(x_ 5)] [.bool]), m_ 7 6, gm_ 7 8 1, g_ 7 9 (.callP 149 [(x_ 8)] [.bool]), i_ 10 (.pick (x_ 7) (x_ 9) F_), m_ 11 10, gm_ 11 12 0, gm_ 11 13 1, g_ 11 14 (.bin .quo (x_ 13) (n_ 8)), g_ 11 15 (.indexS (x_ 12) (x_ 14)), gm_ 11 16 1, g_ 11 17 (.bin .rem (x_ 16) (n_ 8)), g_ 11 18 (.bin .shr (x_ 15) (x_ 17)), g_ 11 19 (.bin .and (x_ 18) (k_ .u8 1)), g_ 11 20 (.bin .eql (x_ 19) (k_ .u8 1)), i_ 21 (.pick (x_ 11) (x_ 20) F_), m_ 4 21],
   .ret]⟩


/-! 115: (*wharfage/heap.Heap).must -/
def heap_Heap_must.pol : Pol := { heap := [999999], ro := roList }
def heap_Heap_must.a : AFun := ⟨2, [],
  sq [r_ [m_ 4 1, i_ 5 (.bin .neq (x_ 4) (n_ 0))],
   if_ 5 (r_ [m_ 6 0, m_ 7 1, i_ 8 (.callR 82 [(x_ 6), (x_ 7)] [])]) (.skip)]⟩


/-! 116: wharfage/octets.Open -/
def octets_Open.pol : Pol := { glob := [5], heap := [999999], ro := roList, rs := [2] }
def octets_Open.a : AFun := ⟨1, [.tmp 2],
  sq [r_ [i_ 2 (.mov (c_ (.pointer none)))],
   r_ [m_ 3 0, i_ 4 (.build [(.at (.string ⟨#[]⟩)), (.at (.int .i64 0))] [(0, 1, (x_ 3))]), i_ 5 (.boxG (x_ 4)), m_ 2 5],
   .ret]⟩


/-! 117: (*wharfage/octets.Reader).Num -/
def octets_Reader_Num.pol : Pol := { pure := [150], heap := [999999], ro := roList, root := [(14, 14), (18, 14)], rs := [4], live := [([5, 14, 15, 16], [5])] }
def octets_Reader_Num.L0 : ACode :=
  sq [r_ [i_ 17 (.bin .lss (x_ 16) (x_ 15))],
   if_ 17 (.skip) (.exit 0),
   .block 1 (sq [r_ [i_ 18 (.indexAddrS 1 (x_ 14) (x_ 16)), i_ 19 (.load [.int .u8] false (some 14) (x_ 18)), m_ 7 19],
     r_ [m_ 20 5, i_ 21 (.bin .shl (x_ 20) (k_ .u64 8)), m_ 22 7, i_ 23 (.convI .u64 (x_ 22)), i_ 24 (.bin .or (x_ 21) (x_ 23)), m_ 5 24]]),
   r_ [i_ 25 (.bin .add (x_ 16) (n_ 1)), m_ 16 25]]
def octets_Reader_Num.a : AFun := ⟨2, [.tmp 4],
  sq [r_ [i_ 4 (.mov (k_ .u64 0))],
   sq [r_ [m_ 8 1, i_ 9 (.callP 150 [(x_ 8)] [.bool]), i_ 10 (.un .not (x_ 9))],
    if_ 10 (r_ [i_ 1 (.mov (n_ (-1)))]) (.skip)],
   r_ [i_ 5 (.mov (k_ .u64 0))],
   sq [r_ [m_ 11 0, m_ 12 1, i_ 13 (.call 136 [(x_ 11), (x_ 12)] [.str]), i_ 14 (.toBytes (x_ 13)), i_ 15 (.lenL (x_ 14)), i_ 16 (.mov (n_ 0))],
    .block 0 (.loop [5, 14, 15, 16] [5] [4] octets_Reader_Num.L0)],
   r_ [m_ 26 5, m_ 4 26],
   .ret]⟩
def octets_Reader_Num.R0 (C : CallF) (N : Nat) := round (evalC C N octets_Reader_Num.L0) [5, 14, 15, 16] [5] [4]
def octets_Reader_Num.K0 (C : CallF) (N : Nat) : Ex → St → R := contC C N [.snd, .snd, .snd, .fst, .snd, .blk] octets_Reader_Num.a.body (finish octets_Reader_Num.a)


/-! 118: (*wharfage/tree.checker).node -/
def tree_checker_node.pol : Pol := { pure := [114], heap := [999999], ro := roList, root := [(4, 4), (6, 6)], rs := [4, 5] }
def tree_checker_node.a : AFun := ⟨2, [.cell 4 [.sl 2, .sl 1] true, .tmp 5],
  sq [r_ [i_ 4 (.allocL [(.sl true 2 []), (.sl true 1 [])]), i_ 5 (.mov F_)],
   sq [r_ [m_ 8 1, i_ 9 (.bin .lss (x_ 8) (n_ 2)), m_ 10 9, hm_ 10 11 1, hm_ 10 12 0, h_ 10 13 (.nilCk (x_ 12)), h_ 10 14 (.addr 0 (x_ 13)), h_ 10 15 (.load [.any] false none (x_ 14)), h_ 10 16 (.callR 36 [(x_ 15)] [ix]), h_ 10 17 (.bin .geq (x_ 11) (x_ 16)), i_ 18 (.pick (x_ 10) T_ (x_ 17)), m_ 19 18, hm_ 19 20 0, h_ 19 21 (.nilCk (x_ 20)), h_ 19 22 (.addr 1 (x_ 21)), h_ 19 23 (.load [.any] false none (x_ 22)), hm_ 19 24 1, h_ 19 25 (.mapGet false [(.at (.bool false))] false false (x_ 23) (x_ 24)), i_ 26 (.pick (x_ 19) T_ (x_ 25)), m_ 27 26, hm_ 27 28 0, h_ 27 29 (.nilCk (x_ 28)), h_ 27 30 (.addr 0 (x_ 29)), h_ 27 31 (.load [.any] false none (x_ 30)), h_ 27 32 (.callR 65 [(x_ 31), (n_ 1)] [.str]), hm_ 27 33 1, h_ 27 34 (.callP 114 [(x_ 32), (x_ 33)] [.bool]), h_ 27 35 (.un .not (x_ 34)), i_ 36 (.pick (x_ 27) T_ (x_ 35))],
    if_ 36 (sq [r_ [i_ 37 (.build [(.sl true 2 []), (.sl true 1 [])] []), u_ (.store 2 (some 4) (x_ 4) (x_ 37)), i_ 5 (.mov F_)],
      .ret]) (.skip)],
   r_ [m_ 38 0, i_ 39 (.nilCk (x_ 38)), i_ 40 (.addr 1 (x_ 39)), i_ 41 (.load [.any] false none (x_ 40)), m_ 42 1, u_ (.mapSet false (x_ 41) (x_ 42) T_)],
   r_ [m_ 44 0, i_ 45 (.nilCk (x_ 44)), i_ 46 (.addr 0 (x_ 45)), i_ 47 (.load [.any] false none (x_ 46)), m_ 48 1, i_ 49 (.callR 65 [(x_ 47), (x_ 48)] [.str]), i_ 50 (.call 151 [(x_ 49)] [.ag, ix]), m_ 43 50, i_ 51 (.extract (x_ 43) 0), i_ 52 (.extract (x_ 43) 1), i_ 6 (.allocL [(.sl true 2 []), (.sl true 1 [])]), u_ (.store 2 (some 6) (x_ 6) (x_ 51)), m_ 7 52],
   r_ [i_ 53 (.load [.sl 2, .sl 1] true (some 6) (x_ 6)), m_ 54 7, i_ 55 (.bin .eql (x_ 54) (n_ 0)), u_ (.store 2 (some 4) (x_ 4) (x_ 53)), m_ 5 55],
   .ret]⟩


/-! 119: (wharfage/tree.span).has -/
def tree_span_has.pol : Pol := { heap := [999999], ro := roList, root := [(2, 2), (6, 2), (10, 2), (15, 2)], rs := [4] }
def tree_span_has.a : AFun := ⟨2, [.tmp 4],
  sq [r_ [i_ 2 (.boxL (x_ 0)), i_ 4 (.mov F_)],
   r_ [m_ 5 1, i_ 6 (.addr 0 (x_ 2)), i_ 7 (.load [.str] false (some 2) (x_ 6)), i_ 8 (.bin .geq (x_ 5) (x_ 7)), m_ 9 8, g_ 9 10 (.addr 2 (x_ 2)), g_ 9 11 (.load [.bool] false (some 2) (x_ 10)), g_ 9 12 (.un .not (x_ 11)), gm_ 9 13 12, hm_ 13 14 1, h_ 13 15 (.addr 1 (x_ 2)), h_ 13 16 (.load [.str] false (some 2) (x_ 15)), h_ 13 17 (.bin .lss (x_ 14) (x_ 16)), g_ 9 18 (.pick (x_ 13) T_ (x_ 17)), i_ 19 (.pick (x_ 9) (x_ 18) F_), m_ 4 19],
   .ret]⟩


/-! 120: (wharfage/tree.span).kid -/
def tree_span_kid.pol : Pol := { heap := [999999], ro := roList, root := [(3, 3), (4, 4), (6, 6), (9, 4), (16, 3), (18, 4), (22, 4), (28, 3), (29, 3)], rs := [6] }
def tree_span_kid.a : AFun := ⟨3, [.cell 6 [.str, .str, .bool] true],
  sq [r_ [i_ 3 (.boxL (x_ 0)), i_ 4 (.boxL (x_ 1)), i_ 6 (.allocL [(.at (.string ⟨#[]⟩)), (.at (.string ⟨#[]⟩)), (.at (.bool false))])],
   sq [r_ [m_ 7 2, i_ 8 (.bin .gtr (x_ 7) (n_ 0))],
    if_ 8 (r_ [i_ 9 (.addr 0 (x_ 4)), i_ 10 (.load [.sl 2] false (some 4) (x_ 9)), m_ 11 2, i_ 12 (.bin .sub (x_ 11) (n_ 1)), i_ 13 (.indexAddrS 2 (x_ 10) (x_ 12)), i_ 14 (.addr 0 (x_ 13)), i_ 15 (.load [.str] false none (x_ 14)), i_ 16 (.addr 0 (x_ 3)), u_ (.store 1 (some 3) (x_ 16) (x_ 15))]) (.skip)],
   sq [r_ [m_ 17 2, i_ 18 (.addr 0 (x_ 4)), i_ 19 (.load [.sl 2] false (some 4) (x_ 18)), i_ 20 (.lenL (x_ 19)), i_ 21 (.bin .lss (x_ 17) (x_ 20))],
    if_ 21 (r_ [i_ 22 (.addr 0 (x_ 4)), i_ 23 (.load [.sl 2] false (some 4) (x_ 22)), m_ 24 2, i_ 25 (.indexAddrS 2 (x_ 23) (x_ 24)), i_ 26 (.addr 0 (x_ 25)), i_ 27 (.load [.str] false none (x_ 26)), i_ 28 (.addr 1 (x_ 3)), u_ (.store 1 (some 3) (x_ 28) (x_ 27)), i_ 29 (.addr 2 (x_ 3)), u_ (.store 1 (some 3) (x_ 29) T_)]) (.skip)],
   r_ [i_ 30 (.load [.str, .str, .bool] true (some 3) (x_ 3)), u_ (.store 3 (some 6) (x_ 6) (x_ 30))],
   .ret]⟩


/-! 121: (*wharfage/tree.tree).load -/
def tree_tree_load.pol : Pol := { heap := [999999], ro := roList, root := [(4, 4), (5, 5)], rs := [4] }
def tree_tree_load.a : AFun := ⟨2, [.cell 4 [.sl 2, .sl 1] true],
  sq [r_ [i_ 4 (.allocL [(.sl true 2 []), (.sl true 1 [])])],
   r_ [m_ 7 0, i_ 8 (.nilCk (x_ 7)), i_ 9 (.addr 3 (x_ 8)), i_ 10 (.load [ix] false none (x_ 9)), i_ 11 (.bin .sub (x_ 10) (n_ 1)), i_ 12 (.nilCk (x_ 7)), i_ 13 (.addr 3 (x_ 12)), u_ (.store 1 none (x_ 13) (x_ 11))],
   sq [r_ [m_ 14 0, i_ 15 (.nilCk (x_ 14)), i_ 16 (.addr 3 (x_ 15)), i_ 17 (.load [ix] false none (x_ 16)), i_ 18 (.bin .lss (x_ 17) (n_ 0)), m_ 19 18, hm_ 19 20 1, h_ 19 21 (.bin .lss (x_ 20) (n_ 2)), i_ 22 (.pick (x_ 19) T_ (x_ 21)), m_ 23 22, hm_ 23 24 1, hm_ 23 25 0, h_ 23 26 (.nilCk (x_ 25)), h_ 23 27 (.addr 0 (x_ 26)), h_ 23 28 (.load [.any] false none (x_ 27)), h_ 23 29 (.callR 36 [(x_ 28)] [ix]), h_ 23 30 (.bin .geq (x_ 24) (x_ 29)), i_ 31 (.pick (x_ 23) T_ (x_ 30))],
    if_ 31 (r_ [m_ 32 0, i_ 33 (.nilCk (x_ 32)), i_ 34 (.addr 0 (x_ 33)), i_ 35 (.load [.any] false none (x_ 34)), i_ 36 (.callR 82 [(x_ 35), (n_ 19)] [])]) (.skip)],
   r_ [m_ 38 0, i_ 39 (.nilCk (x_ 38)), i_ 40 (.addr 0 (x_ 39)), i_ 41 (.load [.any] false none (x_ 40)), m_ 42 1, i_ 43 (.callR 65 [(x_ 41), (x_ 42)] [.str]), i_ 44 (.call 151 [(x_ 43)] [.ag, ix]), m_ 37 44, i_ 45 (.extract (x_ 37) 0), i_ 46 (.extract (x_ 37) 1), i_ 5 (.allocL [(.sl true 2 []), (.sl true 1 [])]), u_ (.store 2 (some 5) (x_ 5) (x_ 45)), m_ 6 46],
   sq [r_ [m_ 47 6, i_ 48 (.bin .neq (x_ 47) (n_ 0))],
    if_ 48 (r_ [m_ 49 0, i_ 50 (.nilCk (x_ 49)), i_ 51 (.addr 0 (x_ 50)), i_ 52 (.load [.any] false none (x_ 51)), m_ 53 6, i_ 54 (.callR 82 [(x_ 52), (x_ 53)] [])]) (.skip)],
   r_ [i_ 55 (.load [.sl 2, .sl 1] true (some 5) (x_ 5)), u_ (.store 2 (some 4) (x_ 4) (x_ 55))],
   .ret]⟩


/-! 122: wharfage/node.Find -/
def node_Find.pol : Pol := { glob := [2, 3], heap := [999999], ro := roList, rs := [4, 5] }
def node_Find.a : AFun := ⟨2, [.tmp 4, .tmp 5],
  sq [r_ [i_ 2 (.boxG (x_ 0)), i_ 3 (.boxG (x_ 1)), i_ 4 (.mov (n_ 0)), i_ 5 (.mov F_)],
   r_ [i_ 8 (.addr 0 (x_ 2)), i_ 9 (.load [.sl 2] false none (x_ 8)), i_ 10 (.lenL (x_ 9)), i_ 11 (.makeFunc 153 [] [(x_ 2), (x_ 3)]), i_ 12 (.call 152 [(x_ 10), (x_ 11)] [ix]), m_ 6 12],
   d_ [m_ 13 6, i_ 14 (.addr 0 (x_ 2)), i_ 15 (.load [.sl 2] false none (x_ 14)), i_ 16 (.lenL (x_ 15)), i_ 17 (.bin .lss (x_ 13) (x_ 16)), m_ 18 17, g_ 18 19 (.addr 0 (x_ 2)), g_ 18 20 (.load [.sl 2] false none (x_ 19)), gm_ 18 21 6, g_ 18 22 (.indexAddrS 2 (x_ 20) (x_ 21)), g_ 18 23 (.addr 0 (x_ 22)), g_ 18 24 (.load [.str] false none (x_ 23)), g_ 18 25 (.load [.str] false none (x_ 3)), g_ 18 26 (.bin .eql (x_ 24) (x_ 25)), i_ 27 (.pick (x_ 18) (x_ 26) F_), m_ 7 27],
   sq [r_ [m_ 28 7, m_ 29 28, g_ 29 30 (.load [.sl 2, .sl 1] true none (x_ 2)), g_ 29 31 (.callR 154 [(x_ 30)] [.bool]), g_ 29 32 (.un .not (x_ 31)), i_ 33 (.pick (x_ 29) (x_ 32) F_)],
    if_ 33 (sq [r_ [m_ 34 6, i_ 35 (.bin .add (x_ 34) (n_ 1)), m_ 4 35, i_ 5 (.mov T_)],
      .ret]) (.skip)],
   r_ [m_ 36 6, m_ 37 7, m_ 4 36, m_ 5 37],
   .ret]⟩


/-! 123: wharfage/blob.parts$1 -/
def blob_parts_1.pol : Pol := { heap := [999999], ro := roList, live := [([0, 2, 4, 5, 6], [])] }
def blob_parts_1.L0 : ACode :=
  sq [sq [r_ [m_ 15 6, i_ 16 (.bin .neq (x_ 15) (n_ 0)), m_ 17 16, hm_ 17 18 5, h_ 17 19 (.bin .neq (x_ 18) (n_ 0)), i_ 20 (.pick (x_ 17) T_ (x_ 19))],
    if_ 20 (.skip) (.exit 0)],
   .block 1 (sq [r_ [i_ 22 (.load [.any] false none (x_ 2)), m_ 23 6, i_ 24 (.call 124 [(x_ 22), (x_ 23)] [.str, ix, .bool]), m_ 21 24, i_ 25 (.extract (x_ 21) 0), i_ 26 (.extract (x_ 21) 1), i_ 27 (.extract (x_ 21) 2), m_ 7 25, m_ 8 26, m_ 9 27],
     r_ [m_ 28 5, m_ 29 7, i_ 30 (.lenS (x_ 29)), i_ 31 (.bin .sub (x_ 28) (x_ 30)), m_ 5 31],
     sq [r_ [m_ 32 9, i_ 33 (.un .not (x_ 32)), m_ 34 33, hm_ 34 35 4, hm_ 34 36 6, h_ 34 37 (.mapGet false [(.at (.bool false))] false false (x_ 35) (x_ 36)), i_ 38 (.pick (x_ 34) T_ (x_ 37)), m_ 39 38, hm_ 39 40 5, h_ 39 41 (.bin .lss (x_ 40) (n_ 0)), i_ 42 (.pick (x_ 39) T_ (x_ 41)), m_ 43 42, hm_ 43 44 8, h_ 43 45 (.bin .neq (x_ 44) (n_ 0)), hm_ 43 46 45, gm_ 46 47 7, g_ 46 48 (.lenS (x_ 47)), g_ 46 49 (.bin .lss (x_ 48) (n_ 476)), h_ 43 50 (.pick (x_ 46) (x_ 49) F_), i_ 51 (.pick (x_ 43) T_ (x_ 50))],
      if_ 51 (r_ [i_ 52 (.load [.any] false none (x_ 2)), i_ 53 (.callR 82 [(x_ 52), (n_ 19)] [])]) (.skip)],
     r_ [m_ 54 4, m_ 55 6, u_ (.mapSet false (x_ 54) (x_ 55) T_)],
     sq [r_ [m_ 56 0, m_ 57 6, m_ 58 7, i_ 59 (.callV (x_ 56) [(x_ 57), (x_ 58)] [.bool]), i_ 60 (.un .not (x_ 59))],
      if_ 60 (.ret) (.skip)],
     r_ [m_ 61 8, m_ 6 61]])]
def blob_parts_1.a : AFun := ⟨3, [],
  sq [r_ [i_ 10 (.mkMap), m_ 4 10],
   r_ [i_ 11 (.addr 1 (x_ 1)), i_ 12 (.load [ix] false none (x_ 11)), m_ 5 12],
   r_ [i_ 13 (.addr 0 (x_ 1)), i_ 14 (.load [ix] false none (x_ 13)), m_ 6 14],
   .block 0 (.loop [0, 2, 4, 5, 6] [] [] blob_parts_1.L0)]⟩
def blob_parts_1.R0 (C : CallF) (N : Nat) := round (evalC C N blob_parts_1.L0) [0, 2, 4, 5, 6] [] []
def blob_parts_1.K0 (C : CallF) (N : Nat) : Ex → St → R := contC C N [.snd, .snd, .snd, .blk] blob_parts_1.a.body (finish blob_parts_1.a)


/-! 124: wharfage/blob.part -/
def blob_part.pol : Pol := { pure := [114, 155], heap := [999999], ro := roList, rs := [4, 5, 6] }
def blob_part.a : AFun := ⟨2, [.tmp 4, .tmp 5, .tmp 6],
  sq [r_ [i_ 4 (.mov (c_ (.string ⟨#[]⟩))), i_ 5 (.mov (n_ 0)), i_ 6 (.mov F_)],
   sq [r_ [m_ 12 1, i_ 13 (.bin .lss (x_ 12) (n_ 2)), m_ 14 13, hm_ 14 15 1, hm_ 14 16 0, h_ 14 17 (.callR 36 [(x_ 16)] [ix]), h_ 14 18 (.bin .geq (x_ 15) (x_ 17)), i_ 19 (.pick (x_ 14) T_ (x_ 18)), m_ 20 19, hm_ 20 21 0, h_ 20 22 (.callR 65 [(x_ 21), (n_ 1)] [.str]), hm_ 20 23 1, h_ 20 24 (.callP 114 [(x_ 22), (x_ 23)] [.bool]), h_ 20 25 (.un .not (x_ 24)), i_ 26 (.pick (x_ 20) T_ (x_ 25))],
    if_ 26 (sq [r_ [i_ 4 (.mov (c_ (.string ⟨#[]⟩))), i_ 5 (.mov (n_ 0)), i_ 6 (.mov F_)],
      .ret]) (.skip)],
   r_ [m_ 27 0, m_ 28 1, i_ 29 (.callR 65 [(x_ 27), (x_ 28)] [.str]), m_ 7 29],
   r_ [m_ 30 7, i_ 31 (.call 116 [(x_ 30)] [.any]), m_ 8 31],
   r_ [m_ 32 8, i_ 33 (.call 117 [(x_ 32), (n_ 2)] [.int .u64]), i_ 34 (.convI .i64 (x_ 33)), m_ 35 8, i_ 36 (.call 117 [(x_ 35), (n_ 2)] [.int .u64]), i_ 37 (.convI .i64 (x_ 36)), m_ 9 34, m_ 10 37],
   r_ [m_ 38 8, m_ 39 10, i_ 40 (.minmax false [(x_ 39), (n_ 476)]), i_ 41 (.call 136 [(x_ 38), (x_ 40)] [.str]), m_ 11 41],
   r_ [m_ 42 11, m_ 43 9, m_ 44 10, i_ 45 (.bin .gtr (x_ 44) (n_ 0)), m_ 46 45, gm_ 46 47 7, gm_ 46 48 9, gm_ 46 49 11, g_ 46 50 (.callP 155 [(x_ 48), (x_ 49)] [.str]), g_ 46 51 (.bin .eql (x_ 47) (x_ 50)), i_ 52 (.pick (x_ 46) (x_ 51) F_), m_ 4 42, m_ 5 43, m_ 6 52],
   .ret]⟩


/-! 125: wharfage/tree.Put -/
def tree_Put.pol : Pol := { heap := [999999], ro := roList, root := [(7, 7), (51, 7)] }
def tree_Put.a : AFun := ⟨3, [],
  sq [r_ [m_ 11 0, i_ 12 (.call 66 [(x_ 11)] [.any]), m_ 6 12],
   r_ [m_ 13 1, m_ 14 2, i_ 15 (.build [(.at (.string ⟨#[]⟩)), (.at (.string ⟨#[]⟩))] [(0, 1, (x_ 13)), (1, 1, (x_ 14))]), i_ 16 (.buildG 2 [(x_ 15)]), i_ 17 (.build [(.sl true 2 []), (.sl true 1 [])] [(0, 1, (x_ 16))]), i_ 7 (.allocL [(.sl true 2 []), (.sl true 1 [])]), u_ (.store 2 (some 7) (x_ 7) (x_ 17))],
   sq [r_ [i_ 18 (.load [.sl 2, .sl 1] true (some 7) (x_ 7)), i_ 19 (.callR 156 [(x_ 18)] [ix]), i_ 20 (.bin .neq (x_ 19) (n_ 0))],
    if_ 20 (r_ [m_ 21 0, i_ 22 (.callR 82 [(x_ 21), (n_ 18)] [])]) (.skip)],
   sq [r_ [m_ 23 6, i_ 24 (.nilCk (x_ 23)), i_ 25 (.addr 1 (x_ 24)), i_ 26 (.load [ix] false none (x_ 25)), i_ 27 (.bin .eql (x_ 26) (n_ 0))],
    if_ 27 (sq [r_ [m_ 28 6, m_ 29 6, m_ 30 0, i_ 31 (.call 157 [(x_ 30)] [ix]), i_ 32 (.nilCk (x_ 28)), i_ 33 (.addr 1 (x_ 32)), u_ (.store 1 none (x_ 33) (x_ 31)), i_ 34 (.nilCk (x_ 29)), i_ 35 (.addr 2 (x_ 34)), u_ (.store 1 none (x_ 35) (k_ .u64 1))],
      d_ [m_ 36 6, m_ 37 6, i_ 38 (.nilCk (x_ 37)), i_ 39 (.addr 1 (x_ 38)), i_ 40 (.load [ix] false none (x_ 39)), i_ 41 (.load [.sl 2, .sl 1] true (some 7) (x_ 7)), i_ 42 (.call 158 [(x_ 36), (x_ 40), (x_ 41)] [])],
      r_ [m_ 43 6, i_ 44 (.call 159 [(x_ 43)] [])],
      .ret]) (.skip)],
   sq [d_ [m_ 46 6, m_ 47 6, i_ 48 (.nilCk (x_ 47)), i_ 49 (.addr 1 (x_ 48)), i_ 50 (.load [ix] false none (x_ 49)), i_ 51 (.addr 0 (x_ 7)), i_ 52 (.load [.sl 2] false (some 7) (x_ 51)), i_ 53 (.indexAddrS 2 (x_ 52) (n_ 0)), i_ 54 (.load [.str, .str] true none (x_ 53)), i_ 55 (.call 160 [(x_ 46), (x_ 50), (x_ 54)] [.str, ix]), m_ 45 55, i_ 56 (.extract (x_ 45) 0), i_ 57 (.extract (x_ 45) 1), m_ 8 56, m_ 9 57],
    r_ [m_ 58 9, i_ 59 (.bin .neq (x_ 58) (n_ 0))],
    if_ 59 (sq [r_ [m_ 60 6, i_ 61 (.nilCk (x_ 60)), i_ 62 (.addr 1 (x_ 61)), i_ 63 (.load [ix] false none (x_ 62)), m_ 10 63],
      r_ [m_ 64 6, m_ 65 0, i_ 66 (.call 157 [(x_ 65)] [ix]), i_ 67 (.nilCk (x_ 64)), i_ 68 (.addr 1 (x_ 67)), u_ (.store 1 none (x_ 68) (x_ 66))],
      r_ [m_ 69 6, m_ 70 6, i_ 71 (.nilCk (x_ 70)), i_ 72 (.addr 1 (x_ 71)), i_ 73 (.load [ix] false none (x_ 72)), m_ 74 8, i_ 75 (.build [(.at (.string ⟨#[]⟩)), (.at (.string ⟨#[]⟩))] [(0, 1, (x_ 74))]), i_ 76 (.buildG 2 [(x_ 75)]), m_ 77 10, m_ 78 9, i_ 79 (.buildG 1 [(x_ 77), (x_ 78)]), i_ 80 (.build [(.sl true 2 []), (.sl true 1 [])] [(0, 1, (x_ 76)), (1, 1, (x_ 79))]), i_ 81 (.call 158 [(x_ 69), (x_ 73), (x_ 80)] [])]]) (.skip)],
   r_ [m_ 82 6, i_ 83 (.call 159 [(x_ 82)] [])]]⟩


/-! 126: wharfage/blob.Put -/
def blob_Put.pol : Pol := { pure := [155, 161], heap := [999999], gret := [161], ro := roList, root := [(4, 4)], rs := [4], live := [([0, 1, 4, 5, 6, 18, 19], [0, 1, 4, 5, 6]), ([0, 1, 4, 6, 27, 28, 29], [1, 4, 6])] }
def blob_Put.L0 : ACode :=
  sq [r_ [i_ 20 (.bin .lss (x_ 19) (x_ 18))],
   if_ 20 (.skip) (.exit 0),
   .block 1 (r_ [m_ 21 6, m_ 22 0, i_ 23 (.call 157 [(x_ 22)] [ix]), i_ 24 (.buildG 1 [(x_ 23)]), i_ 25 (.appendH none 1 8 (x_ 21) (x_ 24)), m_ 6 25]),
   r_ [i_ 26 (.bin .add (x_ 19) (n_ 1)), m_ 19 26]]
def blob_Put.L1 : ACode :=
  sq [r_ [i_ 30 (.bin .lss (x_ 29) (x_ 28))],
   if_ 30 (.skip) (.exit 2),
   .block 3 (sq [r_ [m_ 31 29, i_ 32 (.indexAddrS 1 (x_ 27) (x_ 29)), i_ 33 (.load [.str] false none (x_ 32)), m_ 7 31, m_ 8 33],
     r_ [i_ 9 (.mov (n_ 0))],
     sq [r_ [m_ 34 7, i_ 35 (.bin .add (x_ 34) (n_ 1)), m_ 36 6, i_ 37 (.lenL (x_ 36)), i_ 38 (.bin .lss (x_ 35) (x_ 37))],
      if_ 38 (r_ [m_ 39 6, m_ 40 7, i_ 41 (.bin .add (x_ 40) (n_ 1)), i_ 42 (.indexAddrS 1 (x_ 39) (x_ 41)), i_ 43 (.load [ix] false none (x_ 42)), m_ 9 43]) (.skip)],
     d_ [m_ 44 0, m_ 45 6, m_ 46 7, i_ 47 (.indexAddrS 1 (x_ 45) (x_ 46)), i_ 48 (.load [ix] false none (x_ 47)), m_ 49 9, m_ 50 8, i_ 51 (.callP 155 [(x_ 49), (x_ 50)] [.str]), i_ 52 (.call 162 [(x_ 44), (x_ 48), (x_ 51)] [])]]),
   r_ [i_ 53 (.bin .add (x_ 29) (n_ 1)), m_ 29 53]]
def blob_Put.a : AFun := ⟨2, [.cell 4 [ix, ix] true],
  sq [r_ [i_ 4 (.allocL [(.at (.int .i64 0)), (.at (.int .i64 0))])],
   sq [r_ [m_ 10 1, i_ 11 (.lenS (x_ 10)), i_ 12 (.bin .gtr (x_ 11) (n_ 4096))],
    if_ 12 (r_ [m_ 13 0, i_ 14 (.callR 82 [(x_ 13), (n_ 11)] [])]) (.skip)],
   r_ [m_ 15 1, i_ 16 (.callD 161 [(x_ 15), (n_ 476)] [.sl 1]), m_ 5 16],
   r_ [i_ 6 (.nilS 1)],
   sq [r_ [m_ 17 5, i_ 18 (.lenL (x_ 17)), i_ 19 (.mov (n_ 0))],
    .block 0 (.loop [0, 1, 4, 5, 6, 18, 19] [0, 1, 4, 5, 6] [4] blob_Put.L0)],
   sq [r_ [m_ 27 5, i_ 28 (.lenL (x_ 27)), i_ 29 (.mov (n_ 0))],
    .block 2 (.loop [0, 1, 4, 6, 27, 28, 29] [1, 4, 6] [4] blob_Put.L1)],
   sq [r_ [m_ 54 6, i_ 55 (.lenL (x_ 54)), i_ 56 (.bin .eql (x_ 55) (n_ 0))],
    if_ 56 (sq [r_ [i_ 57 (.build [(.at (.int .i64 0)), (.at (.int .i64 0))] []), u_ (.store 2 (some 4) (x_ 4) (x_ 57))],
      .ret]) (.skip)],
   r_ [m_ 58 6, i_ 59 (.indexAddrS 1 (x_ 58) (n_ 0)), i_ 60 (.load [ix] false none (x_ 59)), m_ 61 1, i_ 62 (.lenS (x_ 61)), i_ 63 (.build [(.at (.int .i64 0)), (.at (.int .i64 0))] [(0, 1, (x_ 60)), (1, 1, (x_ 62))]), u_ (.store 2 (some 4) (x_ 4) (x_ 63))],
   .ret]⟩
def blob_Put.R0 (C : CallF) (N : Nat) := round (evalC C N blob_Put.L0) [0, 1, 4, 5, 6, 18, 19] [0, 1, 4, 5, 6] [4]
def blob_Put.K0 (C : CallF) (N : Nat) : Ex → St → R := contC C N [.snd, .snd, .snd, .snd, .fst, .snd, .blk] blob_Put.a.body (finish blob_Put.a)
def blob_Put.R1 (C : CallF) (N : Nat) := round (evalC C N blob_Put.L1) [0, 1, 4, 6, 27, 28, 29] [1, 4, 6] [4]
def blob_Put.K1 (C : CallF) (N : Nat) : Ex → St → R := contC C N [.snd, .snd, .snd, .snd, .snd, .fst, .snd, .blk] blob_Put.a.body (finish blob_Put.a)


/-! 127: internal/stringslite.HasPrefix -/
def internal_stringslite_HasPrefix.pol : Pol := { heap := [999999], ro := roList, rs := [4] }
def internal_stringslite_HasPrefix.a : AFun := ⟨2, [.tmp 4],
  sq [r_ [i_ 4 (.mov F_)],
   r_ [m_ 5 0, i_ 6 (.lenS (x_ 5)), m_ 7 1, i_ 8 (.lenS (x_ 7)), i_ 9 (.bin .geq (x_ 6) (x_ 8)), m_ 10 9, gm_ 10 11 0, gm_ 10 12 1, g_ 10 13 (.lenS (x_ 12)), g_ 10 14 (.sliceS (x_ 11) none (some (x_ 13))), gm_ 10 15 1, g_ 10 16 (.bin .eql (x_ 14) (x_ 15)), i_ 17 (.pick (x_ 10) (x_ 16) F_), m_ 4 17],
   .ret]⟩


/-! 128: wharfage/tree.Get -/
def tree_Get.pol : Pol := { heap := [999999], ro := roList, root := [(8, 8), (28, 8), (34, 8), (40, 8)], rs := [4, 5], live := [([1, 6, 7], [])] }
def tree_Get.L0 : ACode :=
  sq [sq [r_ [m_ 17 7, i_ 18 (.bin .neq (x_ 17) (n_ 0))],
    if_ 18 (.skip) (.exit 0)],
   .block 1 (sq [r_ [m_ 19 6, m_ 20 7, i_ 21 (.call 121 [(x_ 19), (x_ 20)] [.ag]), i_ 8 (.allocL [(.sl true 2 []), (.sl true 1 [])]), u_ (.store 2 (some 8) (x_ 8) (x_ 21))],
     r_ [i_ 23 (.load [.sl 2, .sl 1] true (some 8) (x_ 8)), m_ 24 1, i_ 25 (.call 122 [(x_ 23), (x_ 24)] [ix, .bool]), m_ 22 25, i_ 26 (.extract (x_ 22) 0), i_ 27 (.extract (x_ 22) 1), m_ 9 26, m_ 10 27],
     sq [r_ [i_ 28 (.addr 1 (x_ 8)), i_ 29 (.load [.sl 1] false (some 8) (x_ 28)), i_ 30 (.lenL (x_ 29)), i_ 31 (.bin .eql (x_ 30) (n_ 0))],
      if_ 31 (sq [sq [r_ [m_ 32 10, i_ 33 (.un .not (x_ 32))],
         if_ 33 (sq [r_ [i_ 4 (.mov (c_ (.string ⟨#[]⟩))), i_ 5 (.mov F_)],
           .ret]) (.skip)],
        r_ [i_ 34 (.addr 0 (x_ 8)), i_ 35 (.load [.sl 2] false (some 8) (x_ 34)), m_ 36 9, i_ 37 (.indexAddrS 2 (x_ 35) (x_ 36)), i_ 38 (.addr 1 (x_ 37)), i_ 39 (.load [.str] false none (x_ 38)), m_ 4 39, i_ 5 (.mov T_)],
        .ret]) (.skip)],
     r_ [i_ 40 (.addr 1 (x_ 8)), i_ 41 (.load [.sl 1] false (some 8) (x_ 40)), m_ 42 9, i_ 43 (.indexAddrS 1 (x_ 41) (x_ 42)), i_ 44 (.load [ix] false none (x_ 43)), m_ 7 44]])]
def tree_Get.a : AFun := ⟨2, [.tmp 4, .tmp 5],
  sq [r_ [i_ 4 (.mov (c_ (.string ⟨#[]⟩))), i_ 5 (.mov F_)],
   r_ [m_ 11 0, i_ 12 (.call 66 [(x_ 11)] [.any]), m_ 6 12],
   sq [r_ [m_ 13 6, i_ 14 (.nilCk (x_ 13)), i_ 15 (.addr 1 (x_ 14)), i_ 16 (.load [ix] false none (x_ 15)), m_ 7 16],
    .block 0 (.loop [1, 6, 7] [] [4, 5] tree_Get.L0)],
   r_ [i_ 4 (.mov (c_ (.string ⟨#[]⟩))), i_ 5 (.mov F_)],
   .ret]⟩
def tree_Get.R0 (C : CallF) (N : Nat) := round (evalC C N tree_Get.L0) [1, 6, 7] [] [4, 5]
def tree_Get.K0 (C : CallF) (N : Nat) : Ex → St → R := contC C N [.snd, .snd, .fst, .snd, .blk] tree_Get.a.body (finish tree_Get.a)


/-! 129: wharfage/blob.Drop -/
def blob_Drop.pol : Pol := { heap := [999999], ro := roList, root := [(3, 3)], live := [([0, 8, 9, 10], [])] }
def blob_Drop.L0 : ACode :=
  sq [r_ [i_ 11 (.bin .lss (x_ 10) (x_ 9))],
   if_ 11 (.skip) (.exit 0),
   .block 1 (sq [r_ [i_ 12 (.indexAddrS 1 (x_ 8) (x_ 10)), i_ 13 (.load [ix] false none (x_ 12)), m_ 5 13],
     r_ [m_ 14 0, m_ 15 5, i_ 16 (.call 163 [(x_ 14), (x_ 15)] [])]]),
   r_ [i_ 17 (.bin .add (x_ 10) (n_ 1)), m_ 10 17]]
def blob_Drop.a : AFun := ⟨2, [],
  sq [r_ [i_ 3 (.boxL (x_ 1))],
   r_ [m_ 6 0, i_ 7 (.load [ix, ix] true (some 3) (x_ 3)), i_ 8 (.call 35 [(x_ 6), (x_ 7)] [.any]), i_ 9 (.lenL (x_ 8)), i_ 10 (.mov (n_ 0))],
   .block 0 (.loop [0, 8, 9, 10] [] [] blob_Drop.L0)]⟩
def blob_Drop.R0 (C : CallF) (N : Nat) := round (evalC C N blob_Drop.L0) [0, 8, 9, 10] [] []
def blob_Drop.K0 (C : CallF) (N : Nat) : Ex → St → R := contC C N [.snd, .snd, .blk] blob_Drop.a.body (finish blob_Drop.a)


/-! 130: wharfage/tree.Delete -/
def tree_Delete.pol : Pol := { heap := [999999], ro := roList, rs := [4] }
def tree_Delete.a : AFun := ⟨2, [.tmp 4],
  sq [r_ [i_ 4 (.mov F_)],
   r_ [m_ 8 0, i_ 9 (.call 66 [(x_ 8)] [.any]), m_ 5 9],
   sq [r_ [m_ 10 5, i_ 11 (.nilCk (x_ 10)), i_ 12 (.addr 1 (x_ 11)), i_ 13 (.load [ix] false none (x_ 12)), i_ 14 (.bin .eql (x_ 13) (n_ 0))],
    if_ 14 (sq [r_ [i_ 4 (.mov F_)],
      .ret]) (.skip)],
   r_ [m_ 16 5, m_ 17 5, i_ 18 (.nilCk (x_ 17)), i_ 19 (.addr 1 (x_ 18)), i_ 20 (.load [ix] false none (x_ 19)), m_ 21 1, i_ 22 (.call 164 [(x_ 16), (x_ 20), (x_ 21)] [.bool, .bool]), m_ 15 22, i_ 23 (.extract (x_ 15) 0), i_ 24 (.extract (x_ 15) 1), m_ 6 23, m_ 7 24],
   sq [r_ [m_ 25 6, i_ 26 (.un .not (x_ 25))],
    if_ 26 (sq [r_ [i_ 4 (.mov F_)],
      .ret]) (.skip)],
   sq [r_ [m_ 27 7],
    if_ 27 (r_ [m_ 28 5, i_ 29 (.nilCk (x_ 28)), i_ 30 (.addr 1 (x_ 29)), u_ (.store 1 none (x_ 30) (n_ 0))]) (.skip)],
   r_ [m_ 31 5, i_ 32 (.call 165 [(x_ 31)] [])],
   r_ [m_ 33 5, i_ 34 (.nilCk (x_ 33)), i_ 35 (.addr 2 (x_ 34)), i_ 36 (.load [.int .u64] false none (x_ 35)), i_ 37 (.bin .sub (x_ 36) (k_ .u64 1)), i_ 38 (.nilCk (x_ 33)), i_ 39 (.addr 2 (x_ 38)), u_ (.store 1 none (x_ 39) (x_ 37))],
   r_ [m_ 40 5, i_ 41 (.call 159 [(x_ 40)] [])],
   r_ [i_ 4 (.mov T_)],
   .ret]⟩


/-! 131: wharfage/blob.Get -/
def blob_Get.pol : Pol := { glob := [5], heap := [999999], ro := roList, typed := [217], root := [(3, 3)], rs := [4], live := [([5], [900002])] }
def blob_Get.a : AFun := ⟨2, [.tmp 4],
  sq [r_ [i_ 3 (.boxL (x_ 1)), i_ 4 (.mov (c_ (.string ⟨#[]⟩)))],
   r_ [i_ 5 (.allocG (some 217) [(.at (.pointer none)), (.sl true 1 [])])],
   sq [r_ [m_ 8 0, i_ 9 (.load [ix, ix] true (some 3) (x_ 3)), i_ 10 (.call 72 [(x_ 8), (x_ 9)] [.any])],
    .block 0 (.ranged 900002 (x_ 10) [5])],
   r_ [i_ 15 (.call 167 [(x_ 5)] [.str]), m_ 4 15],
   .ret]⟩

def blob_Get.polY900002 : Pol := { glob := [5], heap := [999999], ro := roList, typed := [217], root := [(3, 3)] }
def blob_Get.Y900002 : AYield := ⟨[5], [11, 12],
  r_ [m_ 7 12],
  .block 1 (r_ [m_ 13 7, i_ 14 (.call 166 [(x_ 5), (x_ 13)] [ix, .any])])⟩


/-! 133: math/bits.Mul -/
def math_bits_Mul.pol : Pol := { pure := [170, 171], heap := [999999], ro := roList, rs := [4, 5] }
def math_bits_Mul.a : AFun := ⟨2, [.tmp 4, .tmp 5],
  sq [r_ [i_ 4 (.mov (k_ .u64 0)), i_ 5 (.mov (k_ .u64 0))],
   .cond F_ (sq [r_ [m_ 11 0, i_ 12 (.convI .u32 (x_ 11)), m_ 13 1, i_ 14 (.convI .u32 (x_ 13)), i_ 15 (.callP 170 [(x_ 12), (x_ 14)] [.int .u32, .int .u32]), m_ 10 15, i_ 16 (.extract (x_ 10) 0), i_ 17 (.extract (x_ 10) 1), m_ 6 16, m_ 7 17],
     r_ [m_ 18 6, i_ 19 (.convI .u64 (x_ 18)), m_ 20 7, i_ 21 (.convI .u64 (x_ 20)), m_ 4 19, m_ 5 21],
     .ret]) (.skip),
   r_ [m_ 23 0, m_ 24 1, i_ 25 (.callP 171 [(x_ 23), (x_ 24)] [.int .u64, .int .u64]), m_ 22 25, i_ 26 (.extract (x_ 22) 0), i_ 27 (.extract (x_ 22) 1), m_ 8 26, m_ 9 27],
   r_ [m_ 28 8, m_ 29 9, m_ 4 28, m_ 5 29],
   .ret]⟩


/-! 134: wharfage/sector.Seal -/
def sector_Seal.pol : Pol := { pure := [143, 172, 173, 174], heap := [999999], ro := roList, root := [(1, 1), (11, 1), (17, 1), (22, 1), (29, 1), (33, 1), (42, 1), (48, 1)], rs := [2, 3] }
def sector_Seal.a : AFun := ⟨1, [.tmp 2, .tmp 3],
  sq [r_ [i_ 1 (.boxL (x_ 0)), i_ 2 (.mov (c_ (.string ⟨#[]⟩))), i_ 3 (.mov (n_ 0))],
   sq [r_ [i_ 6 (.load [ix, .int .u64, .int .u64, ix, ix, .str] true (some 1) (x_ 1)), i_ 7 (.callP 143 [(x_ 6)] [ix]), m_ 4 7],
    r_ [m_ 8 4, i_ 9 (.bin .neq (x_ 8) (n_ 0))],
    if_ 9 (sq [r_ [m_ 10 4, i_ 2 (.mov (c_ (.string ⟨#[]⟩))), m_ 3 10],
      .ret]) (.skip)],
   d_ [i_ 11 (.addr 0 (x_ 1)), i_ 12 (.load [ix] false (some 1) (x_ 11)), i_ 13 (.convI .u64 (x_ 12)), i_ 14 (.callP 172 [(n_ 1), (x_ 13)] [.str]), i_ 15 (.callP 172 [(n_ 1), (k_ .u64 0)] [.str]), i_ 16 (.bin .add (x_ 14) (x_ 15)), i_ 17 (.addr 3 (x_ 1)), i_ 18 (.load [ix] false (some 1) (x_ 17)), i_ 19 (.convI .u64 (x_ 18)), i_ 20 (.callP 172 [(n_ 2), (x_ 19)] [.str]), i_ 21 (.bin .add (x_ 16) (x_ 20)), i_ 22 (.addr 4 (x_ 1)), i_ 23 (.load [ix] false (some 1) (x_ 22)), i_ 24 (.convI .u64 (x_ 23)), i_ 25 (.callP 172 [(n_ 2), (x_ 24)] [.str]), i_ 26 (.bin .add (x_ 21) (x_ 25)), i_ 27 (.callP 172 [(n_ 2), (k_ .u64 0)] [.str]), i_ 28 (.bin .add (x_ 26) (x_ 27)), i_ 29 (.addr 1 (x_ 1)), i_ 30 (.load [.int .u64] false (some 1) (x_ 29)), i_ 31 (.callP 172 [(n_ 8), (x_ 30)] [.str]), i_ 32 (.bin .add (x_ 28) (x_ 31)), i_ 33 (.addr 2 (x_ 1)), i_ 34 (.load [.int .u64] false (some 1) (x_ 33)), i_ 35 (.callP 172 [(n_ 8), (x_ 34)] [.str]), i_ 36 (.bin .add (x_ 32) (x_ 35)), i_ 37 (.callP 172 [(n_ 4), (k_ .u64 0)] [.str]), i_ 38 (.bin .add (x_ 36) (x_ 37)), m_ 5 38],
   d_ [m_ 39 5, m_ 40 5, i_ 41 (.callP 174 [(x_ 40)] [.int .u32]), i_ 42 (.addr 5 (x_ 1)), i_ 43 (.load [.str] false (some 1) (x_ 42)), i_ 44 (.callP 173 [(x_ 41), (x_ 43)] [.int .u32]), i_ 45 (.convI .u64 (x_ 44)), i_ 46 (.callP 172 [(n_ 4), (x_ 45)] [.str]), i_ 47 (.bin .add (x_ 39) (x_ 46)), i_ 48 (.addr 5 (x_ 1)), i_ 49 (.load [.str] false (some 1) (x_ 48)), i_ 50 (.bin .add (x_ 47) (x_ 49)), m_ 2 50, i_ 3 (.mov (n_ 0))],
   .ret]⟩


/-! 135: slices.Backward[[]wharfage/disk.write,wharfage/disk.write] -/
def slices_Backward_disk_write_disk_write.pol : Pol := { glob := [1], heap := [999999], ro := roList, rs := [2] }
def slices_Backward_disk_write_disk_write.a : AFun := ⟨1, [.tmp 2],
  sq [r_ [i_ 1 (.boxG (x_ 0)), i_ 2 (.mov (c_ .nilFunc))],
   r_ [i_ 3 (.makeFunc 175 [] [(x_ 1)]), m_ 2 3],
   .ret]⟩


/-! 136: (*wharfage/octets.Reader).Raw -/
def octets_Reader_Raw.pol : Pol := { heap := [999999], ro := roList, rs := [4] }
def octets_Reader_Raw.a : AFun := ⟨2, [.tmp 4],
  sq [r_ [i_ 4 (.mov (c_ (.string ⟨#[]⟩)))],
   .block 0 (sq [r_ [m_ 7 0, i_ 8 (.nilCmp false 1 (x_ 7)), m_ 9 8, hm_ 9 10 0, h_ 9 11 (.nilCk (x_ 10)), h_ 9 12 (.addr 1 (x_ 11)), h_ 9 13 (.load [ix] false none (x_ 12)), h_ 9 14 (.bin .neq (x_ 13) (n_ 0)), i_ 15 (.pick (x_ 9) T_ (x_ 14)), m_ 6 15],
     if_ 6 (sq [r_ [i_ 4 (.mov (c_ (.string ⟨#[]⟩)))],
       .ret]) (sq [r_ [m_ 17 1, i_ 18 (.bin .lss (x_ 17) (n_ 0)), m_ 16 18],
       if_ 16 (sq [r_ [m_ 19 0, i_ 20 (.call 176 [(x_ 19), (n_ 18)] [.str]), m_ 4 20],
         .ret]) (sq [r_ [m_ 22 1, m_ 23 0, i_ 24 (.nilCk (x_ 23)), i_ 25 (.addr 0 (x_ 24)), i_ 26 (.load [.str] false none (x_ 25)), i_ 27 (.lenS (x_ 26)), i_ 28 (.bin .gtr (x_ 22) (x_ 27)), m_ 21 28],
         if_ 21 (sq [r_ [m_ 29 0, i_ 30 (.call 176 [(x_ 29), (n_ 20)] [.str]), m_ 4 30],
           .ret]) (.skip)])])]),
   r_ [m_ 31 0, i_ 32 (.nilCk (x_ 31)), i_ 33 (.addr 0 (x_ 32)), i_ 34 (.load [.str] false none (x_ 33)), m_ 35 1, i_ 36 (.sliceS (x_ 34) none (some (x_ 35))), m_ 5 36],
   r_ [m_ 37 0, m_ 38 0, i_ 39 (.nilCk (x_ 38)), i_ 40 (.addr 0 (x_ 39)), i_ 41 (.load [.str] false none (x_ 40)), m_ 42 1, i_ 43 (.sliceS (x_ 41) (some (x_ 42)) none), i_ 44 (.nilCk (x_ 37)), i_ 45 (.addr 0 (x_ 44)), u_ (.store 1 none (x_ 45) (x_ 43))],
   r_ [m_ 46 5, m_ 4 46],
   .ret]⟩


/-! 137: (*wharfage/journal.scanner).next -/
def journal_scanner_next.pol : Pol := { pure := [95, 144, 146], heap := [999999], ro := roList, root := [(10, 10), (46, 10), (55, 10), (61, 10), (65, 10), (72, 10), (77, 10), (79, 10), (85, 10), (89, 10), (96, 10), (101, 10)], rs := [4, 5], live := [([0, 1, 6, 7], [])] }
def journal_scanner_next.L0 : ACode :=
  sq [sq [r_ [m_ 16 7, m_ 17 0, i_ 18 (.nilCk (x_ 17)), i_ 19 (.addr 1 (x_ 18)), i_ 20 (.load [ix] false none (x_ 19)), i_ 21 (.bin .lss (x_ 16) (x_ 20))],
    if_ 21 (.skip) (.exit 0)],
   .block 1 (sq [r_ [m_ 25 0, i_ 26 (.nilCk (x_ 25)), i_ 27 (.addr 0 (x_ 26)), i_ 28 (.load [.any] false none (x_ 27)), m_ 29 7, i_ 30 (.bin .add (n_ 1) (x_ 29)), i_ 31 (.call 94 [(x_ 28), (x_ 30)] [.str, ix]), m_ 24 31, i_ 32 (.extract (x_ 24) 0), i_ 33 (.extract (x_ 24) 1), m_ 8 32, m_ 9 33],
     sq [r_ [m_ 34 9, i_ 35 (.bin .neq (x_ 34) (n_ 0))],
      if_ 35 (sq [r_ [m_ 36 9, i_ 4 (.nilS 2), m_ 5 36],
        .ret]) (.skip)],
     r_ [m_ 38 8, i_ 39 (.callP 95 [(x_ 38)] [.ag, ix]), m_ 37 39, i_ 40 (.extract (x_ 37) 0), i_ 41 (.extract (x_ 37) 1), i_ 10 (.allocL [(.at (.int .i64 0)), (.at (.int .u64 0)), (.at (.int .u64 0)), (.at (.int .i64 0)), (.at (.int .i64 0)), (.at (.string ⟨#[]⟩))]), u_ (.store 6 (some 10) (x_ 10) (x_ 40)), m_ 11 41],
     .block 2 (sq [d_ [m_ 43 11, i_ 44 (.bin .neq (x_ 43) (n_ 0)), m_ 45 44, h_ 45 46 (.addr 1 (x_ 10)), h_ 45 47 (.load [.int .u64] false (some 10) (x_ 46)), hm_ 45 48 0, h_ 45 49 (.nilCk (x_ 48)), h_ 45 50 (.addr 2 (x_ 49)), h_ 45 51 (.load [.int .u64] false none (x_ 50)), h_ 45 52 (.bin .neq (x_ 47) (x_ 51)), i_ 53 (.pick (x_ 45) T_ (x_ 52)), m_ 54 53, h_ 54 55 (.addr 2 (x_ 10)), h_ 54 56 (.load [.int .u64] false (some 10) (x_ 55)), hm_ 54 57 1, h_ 54 58 (.bin .neq (x_ 56) (x_ 57)), i_ 59 (.pick (x_ 54) T_ (x_ 58)), m_ 42 59],
       if_ 42 (sq [r_ [i_ 4 (.nilS 2), i_ 5 (.mov (n_ 0))],
         .ret]) (sq [r_ [i_ 61 (.addr 0 (x_ 10)), i_ 62 (.load [ix] false (some 10) (x_ 61)), i_ 63 (.bin .eql (x_ 62) (n_ 2)), m_ 64 63, g_ 64 65 (.addr 4 (x_ 10)), g_ 64 66 (.load [ix] false (some 10) (x_ 65)), gm_ 64 67 6, g_ 64 68 (.lenL (x_ 67)), g_ 64 69 (.bin .eql (x_ 66) (x_ 68)), i_ 70 (.pick (x_ 64) (x_ 69) F_), m_ 71 70, g_ 71 72 (.addr 3 (x_ 10)), g_ 71 73 (.load [ix] false (some 10) (x_ 72)), g_ 71 74 (.callP 146 [(x_ 73)] [.bool]), i_ 75 (.pick (x_ 71) (x_ 74) F_), m_ 60 75],
         if_ 60 (r_ [m_ 76 6, i_ 77 (.addr 3 (x_ 10)), i_ 78 (.load [ix] false (some 10) (x_ 77)), i_ 79 (.addr 5 (x_ 10)), i_ 80 (.load [.str] false (some 10) (x_ 79)), i_ 81 (.build [(.at (.int .i64 0)), (.at (.string ⟨#[]⟩))] [(0, 1, (x_ 78)), (1, 1, (x_ 80))]), i_ 82 (.buildG 2 [(x_ 81)]), i_ 83 (.appendH none 2 24 (x_ 76) (x_ 82)), m_ 6 83]) (sq [r_ [i_ 85 (.addr 0 (x_ 10)), i_ 86 (.load [ix] false (some 10) (x_ 85)), i_ 87 (.bin .eql (x_ 86) (n_ 3)), m_ 88 87, g_ 88 89 (.addr 4 (x_ 10)), g_ 88 90 (.load [ix] false (some 10) (x_ 89)), gm_ 88 91 6, g_ 88 92 (.lenL (x_ 91)), g_ 88 93 (.bin .eql (x_ 90) (x_ 92)), i_ 94 (.pick (x_ 88) (x_ 93) F_), m_ 95 94, g_ 95 96 (.addr 3 (x_ 10)), g_ 95 97 (.load [ix] false (some 10) (x_ 96)), g_ 95 98 (.bin .eql (x_ 97) (n_ 0)), i_ 99 (.pick (x_ 95) (x_ 98) F_), m_ 100 99, g_ 100 101 (.addr 5 (x_ 10)), g_ 100 102 (.load [.str] false (some 10) (x_ 101)), g_ 100 103 (.callP 144 [(x_ 102)] [.bool]), i_ 104 (.pick (x_ 100) (x_ 103) F_), m_ 84 104],
           if_ 84 (sq [r_ [m_ 105 0, m_ 106 7, i_ 107 (.bin .add (x_ 106) (n_ 1)), i_ 108 (.nilCk (x_ 105)), i_ 109 (.addr 3 (x_ 108)), u_ (.store 1 none (x_ 109) (x_ 107))],
             r_ [m_ 110 6, m_ 4 110, i_ 5 (.mov (n_ 0))],
             .ret]) (sq [r_ [i_ 4 (.nilS 2), i_ 5 (.mov (n_ 0))],
             .ret])])])])]),
   r_ [m_ 22 7, i_ 23 (.bin .add (x_ 22) (n_ 1)), m_ 7 23]]
def journal_scanner_next.a : AFun := ⟨2, [.tmp 4, .tmp 5],
  sq [r_ [i_ 4 (.nilS 2), i_ 5 (.mov (n_ 0))],
   r_ [i_ 6 (.nilS 2)],
   sq [r_ [m_ 12 0, i_ 13 (.nilCk (x_ 12)), i_ 14 (.addr 3 (x_ 13)), i_ 15 (.load [ix] false none (x_ 14)), m_ 7 15],
    .block 0 (.loop [0, 1, 6, 7] [] [4, 5] journal_scanner_next.L0)],
   r_ [i_ 4 (.nilS 2), i_ 5 (.mov (n_ 0))],
   .ret]⟩
def journal_scanner_next.R0 (C : CallF) (N : Nat) := round (evalC C N journal_scanner_next.L0) [0, 1, 6, 7] [] [4, 5]
def journal_scanner_next.K0 (C : CallF) (N : Nat) : Ex → St → R := contC C N [.snd, .snd, .fst, .snd, .blk] journal_scanner_next.a.body (finish journal_scanner_next.a)


/-! 138: slices.ContainsFunc[[]wharfage/journal.Image,wharfage/journal.Image] -/
def slices_ContainsFunc_journal_Image_journal_Image.pol : Pol := { heap := [999999], ro := roList, rs := [4] }
def slices_ContainsFunc_journal_Image_journal_Image.a : AFun := ⟨2, [.tmp 4],
  sq [r_ [i_ 4 (.mov F_)],
   r_ [m_ 5 0, m_ 6 1, i_ 7 (.call 177 [(x_ 5), (x_ 6)] [ix]), i_ 8 (.bin .geq (x_ 7) (n_ 0)), m_ 4 8],
   .ret]⟩


/-! 139: (*wharfage/pages.Store).has$1 -/
def pages_Store_has_1.pol : Pol := { heap := [999999], ro := roList, root := [(2, 2), (4, 2)], rs := [3] }
def pages_Store_has_1.a : AFun := ⟨2, [.tmp 3],
  sq [r_ [i_ 2 (.boxL (x_ 0)), i_ 3 (.mov F_)],
   d_ [i_ 4 (.addr 0 (x_ 2)), i_ 5 (.load [ix] false (some 2) (x_ 4)), i_ 6 (.load [.any] false none (x_ 1)), i_ 7 (.nilCk (x_ 6)), i_ 8 (.addr 2 (x_ 7)), i_ 9 (.load [.sl 1] false none (x_ 8)), i_ 10 (.lenL (x_ 9)), i_ 11 (.bin .geq (x_ 5) (x_ 10)), m_ 3 11],
   .ret]⟩


/-! 143: wharfage/sector.Check -/
def sector_Check.pol : Pol := { pure := [181], heap := [999999], ro := roList, root := [(1, 1), (3, 1), (7, 1), (12, 1), (18, 1), (24, 1)], rs := [2] }
def sector_Check.a : AFun := ⟨1, [.tmp 2],
  sq [r_ [i_ 1 (.boxL (x_ 0)), i_ 2 (.mov (n_ 0))],
   sq [r_ [i_ 3 (.addr 0 (x_ 1)), i_ 4 (.load [ix] false (some 1) (x_ 3)), i_ 5 (.bin .leq (x_ 4) (n_ 0)), m_ 6 5, h_ 6 7 (.addr 0 (x_ 1)), h_ 6 8 (.load [ix] false (some 1) (x_ 7)), h_ 6 9 (.bin .geq (x_ 8) (n_ 5)), i_ 10 (.pick (x_ 6) T_ (x_ 9)), m_ 11 10, h_ 11 12 (.addr 3 (x_ 1)), h_ 11 13 (.load [ix] false (some 1) (x_ 12)), h_ 11 14 (.callP 181 [(x_ 13)] [.bool]), h_ 11 15 (.un .not (x_ 14)), i_ 16 (.pick (x_ 11) T_ (x_ 15)), m_ 17 16, h_ 17 18 (.addr 4 (x_ 1)), h_ 17 19 (.load [ix] false (some 1) (x_ 18)), h_ 17 20 (.callP 181 [(x_ 19)] [.bool]), h_ 17 21 (.un .not (x_ 20)), i_ 22 (.pick (x_ 17) T_ (x_ 21)), m_ 23 22, h_ 23 24 (.addr 5 (x_ 1)), h_ 23 25 (.load [.str] false (some 1) (x_ 24)), h_ 23 26 (.lenS (x_ 25)), h_ 23 27 (.bin .neq (x_ 26) (n_ 480)), i_ 28 (.pick (x_ 23) T_ (x_ 27))],
    if_ 28 (sq [r_ [i_ 2 (.mov (n_ 18))],
      .ret]) (.skip)],
   r_ [i_ 2 (.mov (n_ 0))],
   .ret]⟩


/-! 144: wharfage/octets.Noughts -/
def octets_Noughts.pol : Pol := { pure := [182], heap := [999999], ro := roList, rs := [2] }
def octets_Noughts.a : AFun := ⟨1, [.tmp 2],
  sq [r_ [i_ 2 (.mov F_)],
   r_ [m_ 3 0, i_ 4 (.callP 182 [(x_ 3), (c_ (.string ⟨#[0]⟩))] [ix]), m_ 5 0, i_ 6 (.lenS (x_ 5)), i_ 7 (.bin .eql (x_ 4) (x_ 6)), m_ 2 7],
   .ret]⟩


/-! 146: wharfage/journal.page -/
def journal_page.pol : Pol := { heap := [999999], ro := roList, rs := [2] }
def journal_page.a : AFun := ⟨1, [.tmp 2],
  sq [r_ [i_ 2 (.mov F_)],
   r_ [m_ 3 0, i_ 4 (.bin .geq (x_ 3) (n_ 0)), m_ 5 4, gm_ 5 6 0, g_ 5 7 (.bin .lss (x_ 6) (n_ 3840)), i_ 8 (.pick (x_ 5) (x_ 7) F_), m_ 2 8],
   .ret]⟩


/-! 147: (*wharfage/journal.Journal).Room -/
def journal_Journal_Room.pol : Pol := { heap := [999999], ro := roList, rs := [2] }
def journal_Journal_Room.a : AFun := ⟨1, [.tmp 2],
  sq [r_ [i_ 2 (.mov (n_ 0))],
   sq [r_ [m_ 3 0, i_ 4 (.nilCmp false 1 (x_ 3))],
    if_ 4 (sq [r_ [i_ 2 (.mov (n_ 0))],
      .ret]) (.skip)],
   d_ [m_ 5 0, i_ 6 (.nilCk (x_ 5)), i_ 7 (.addr 1 (x_ 6)), i_ 8 (.load [ix] false none (x_ 7)), m_ 9 0, i_ 10 (.nilCk (x_ 9)), i_ 11 (.addr 3 (x_ 10)), i_ 12 (.load [ix] false none (x_ 11)), i_ 13 (.bin .sub (x_ 8) (x_ 12)), m_ 2 13],
   .ret]⟩


/-! 148: (*wharfage/journal.Journal).write -/
def journal_Journal_write.pol : Pol := { pure := [134], heap := [999999], ro := roList, root := [(5, 5), (18, 5), (19, 5)], rs := [6] }
def journal_Journal_write.a : AFun := ⟨3, [.tmp 6],
  sq [r_ [i_ 5 (.boxL (x_ 2)), i_ 6 (.mov (n_ 0))],
   d_ [m_ 9 0, i_ 10 (.nilCk (x_ 9)), i_ 11 (.addr 2 (x_ 10)), i_ 12 (.load [.int .u64] false none (x_ 11)), m_ 13 0, i_ 14 (.nilCk (x_ 13)), i_ 15 (.addr 4 (x_ 14)), i_ 16 (.load [.int .u64] false none (x_ 15)), i_ 17 (.bin .add (x_ 16) (k_ .u64 1)), i_ 18 (.addr 1 (x_ 5)), u_ (.store 1 (some 5) (x_ 18) (x_ 12)), i_ 19 (.addr 2 (x_ 5)), u_ (.store 1 (some 5) (x_ 19) (x_ 17))],
   r_ [i_ 21 (.load [ix, .int .u64, .int .u64, ix, ix, .str] true (some 5) (x_ 5)), i_ 22 (.callP 134 [(x_ 21)] [.str, ix]), m_ 20 22, i_ 23 (.extract (x_ 20) 0), i_ 24 (.extract (x_ 20) 1), m_ 7 23, m_ 8 24],
   sq [r_ [m_ 25 8, i_ 26 (.bin .neq (x_ 25) (n_ 0))],
    if_ 26 (sq [r_ [m_ 27 8, m_ 6 27],
      .ret]) (.skip)],
   d_ [m_ 28 0, i_ 29 (.nilCk (x_ 28)), i_ 30 (.addr 0 (x_ 29)), i_ 31 (.load [.any] false none (x_ 30)), m_ 32 0, i_ 33 (.nilCk (x_ 32)), i_ 34 (.addr 3 (x_ 33)), i_ 35 (.load [ix] false none (x_ 34)), i_ 36 (.bin .add (n_ 1) (x_ 35)), m_ 37 1, i_ 38 (.bin .add (x_ 36) (x_ 37)), m_ 39 7, i_ 40 (.call 48 [(x_ 31), (x_ 38), (x_ 39)] [ix]), m_ 6 40],
   .ret]⟩


/-! 149: wharfage/bitmap.page -/
def bitmap_page.pol : Pol := { heap := [999999], ro := roList, rs := [2] }
def bitmap_page.a : AFun := ⟨1, [.tmp 2],
  sq [r_ [i_ 2 (.mov F_)],
   r_ [m_ 3 0, i_ 4 (.bin .geq (x_ 3) (n_ 0)), m_ 5 4, gm_ 5 6 0, g_ 5 7 (.bin .lss (x_ 6) (n_ 3840)), i_ 8 (.pick (x_ 5) (x_ 7) F_), m_ 2 8],
   .ret]⟩


/-! 150: wharfage/octets.width -/
def octets_width.pol : Pol := { heap := [999999], ro := roList, rs := [2] }
def octets_width.a : AFun := ⟨1, [.tmp 2],
  sq [r_ [i_ 2 (.mov F_)],
   r_ [m_ 3 0, i_ 4 (.bin .geq (x_ 3) (n_ 1)), m_ 5 4, gm_ 5 6 0, g_ 5 7 (.bin .leq (x_ 6) (n_ 8)), i_ 8 (.pick (x_ 5) (x_ 7) F_), m_ 2 8],
   .ret]⟩


/-! 151: wharfage/node.Decode -/
def node_Decode.pol : Pol := { heap := [999999], ro := roList, root := [(2, 2), (4, 4), (20, 4), (27, 4), (8, 8), (38, 4), (45, 4), (48, 8), (49, 4), (54, 4)], rs := [2, 3], live := [([0, 2, 4, 5, 6, 30, 31], [0, 2, 4])] }
def node_Decode.L0 : ACode :=
  sq [r_ [i_ 32 (.bin .lss (x_ 31) (x_ 30))],
   if_ 32 (.skip) (.exit 0),
   .block 1 (sq [r_ [m_ 33 5, i_ 34 (.call 183 [(x_ 33)] [.str]), i_ 35 (.build [(.at (.string ⟨#[]⟩)), (.at (.string ⟨#[]⟩))] [(0, 1, (x_ 34))]), i_ 8 (.allocL [(.at (.string ⟨#[]⟩)), (.at (.string ⟨#[]⟩))]), u_ (.store 2 (some 8) (x_ 8) (x_ 35))],
     sq [r_ [m_ 36 6, i_ 37 (.bin .eql (x_ 36) (k_ .u64 2))],
      if_ 37 (d_ [i_ 38 (.addr 1 (x_ 4)), i_ 39 (.load [.sl 1] false (some 4) (x_ 38)), m_ 40 5, i_ 41 (.call 117 [(x_ 40), (n_ 2)] [.int .u64]), i_ 42 (.convI .i64 (x_ 41)), i_ 43 (.buildG 1 [(x_ 42)]), i_ 44 (.appendH none 1 8 (x_ 39) (x_ 43)), i_ 45 (.addr 1 (x_ 4)), u_ (.store 1 (some 4) (x_ 45) (x_ 44))]) (r_ [m_ 46 5, i_ 47 (.call 183 [(x_ 46)] [.str]), i_ 48 (.addr 1 (x_ 8)), u_ (.store 1 (some 8) (x_ 48) (x_ 47))])],
     r_ [i_ 49 (.addr 0 (x_ 4)), i_ 50 (.load [.sl 2] false (some 4) (x_ 49)), i_ 51 (.load [.str, .str] true (some 8) (x_ 8)), i_ 52 (.buildG 2 [(x_ 51)]), i_ 53 (.appendH none 2 32 (x_ 50) (x_ 52)), i_ 54 (.addr 0 (x_ 4)), u_ (.store 1 (some 4) (x_ 54) (x_ 53))]]),
   r_ [i_ 55 (.bin .add (x_ 31) (n_ 1)), m_ 31 55]]
def node_Decode.a : AFun := ⟨1, [.cell 2 [.sl 2, .sl 1] true, .tmp 3],
  sq [r_ [i_ 2 (.allocL [(.sl true 2 []), (.sl true 1 [])]), i_ 3 (.mov (n_ 0))],
   r_ [i_ 4 (.allocL [(.sl true 2 []), (.sl true 1 [])])],
   r_ [m_ 11 0, i_ 12 (.call 116 [(x_ 11)] [.any]), m_ 5 12],
   r_ [m_ 13 5, i_ 14 (.call 117 [(x_ 13), (n_ 1)] [.int .u64]), m_ 15 5, i_ 16 (.call 117 [(x_ 15), (n_ 1)] [.int .u64]), i_ 17 (.convI .i64 (x_ 16)), m_ 6 14, m_ 7 17],
   sq [r_ [m_ 18 6, i_ 19 (.bin .eql (x_ 18) (k_ .u64 2))],
    if_ 19 (sq [d_ [i_ 20 (.addr 1 (x_ 4)), i_ 21 (.load [.sl 1] false (some 4) (x_ 20)), m_ 22 5, i_ 23 (.call 117 [(x_ 22), (n_ 2)] [.int .u64]), i_ 24 (.convI .i64 (x_ 23)), i_ 25 (.buildG 1 [(x_ 24)]), i_ 26 (.appendH none 1 8 (x_ 21) (x_ 25)), i_ 27 (.addr 1 (x_ 4)), u_ (.store 1 (some 4) (x_ 27) (x_ 26))],
      r_ [m_ 28 7, i_ 29 (.bin .sub (x_ 28) (n_ 1)), m_ 7 29]]) (.skip)],
   sq [r_ [m_ 30 7, i_ 31 (.mov (n_ 0))],
    .block 0 (.loop [0, 2, 4, 5, 6, 30, 31] [0, 2, 4] [2, 3] node_Decode.L0)],
   sq [r_ [i_ 57 (.load [.sl 2, .sl 1] true (some 4) (x_ 4)), i_ 58 (.callR 184 [(x_ 57)] [.str, ix]), m_ 56 58, i_ 59 (.extract (x_ 56) 0), i_ 60 (.extract (x_ 56) 1), m_ 9 59, m_ 10 60],
    r_ [m_ 61 10, i_ 62 (.bin .neq (x_ 61) (n_ 0)), m_ 63 62, hm_ 63 64 9, hm_ 63 65 0, h_ 63 66 (.bin .neq (x_ 64) (x_ 65)), i_ 67 (.pick (x_ 63) T_ (x_ 66))],
    if_ 67 (sq [r_ [i_ 68 (.build [(.sl true 2 []), (.sl true 1 [])] []), u_ (.store 2 (some 2) (x_ 2) (x_ 68)), i_ 3 (.mov (n_ 19))],
      .ret]) (.skip)],
   r_ [i_ 69 (.load [.sl 2, .sl 1] true (some 4) (x_ 4)), u_ (.store 2 (some 2) (x_ 2) (x_ 69)), i_ 3 (.mov (n_ 0))],
   .ret]⟩
def node_Decode.R0 (C : CallF) (N : Nat) := round (evalC C N node_Decode.L0) [0, 2, 4, 5, 6, 30, 31] [0, 2, 4] [2, 3]
def node_Decode.K0 (C : CallF) (N : Nat) : Ex → St → R := contC C N [.snd, .snd, .snd, .snd, .snd, .fst, .snd, .blk] node_Decode.a.body (finish node_Decode.a)


/-! 152: sort.Search -/
def sort_Search.pol : Pol := { heap := [999999], ro := roList, rs := [4], live := [([1, 5, 6], [5])] }
def sort_Search.L0 : ACode :=
  sq [sq [r_ [m_ 9 5, m_ 10 6, i_ 11 (.bin .lss (x_ 9) (x_ 10))],
    if_ 11 (.skip) (.exit 0)],
   .block 1 (sq [r_ [m_ 12 5, m_ 13 6, i_ 14 (.bin .add (x_ 12) (x_ 13)), i_ 15 (.convI .u64 (x_ 14)), i_ 16 (.bin .shr (x_ 15) (k_ .u64 1)), i_ 17 (.convI .i64 (x_ 16)), m_ 7 17],
     r_ [m_ 18 1, m_ 19 7, i_ 20 (.callV (x_ 18) [(x_ 19)] [.bool]), i_ 21 (.un .not (x_ 20))],
     if_ 21 (r_ [m_ 22 7, i_ 23 (.bin .add (x_ 22) (n_ 1)), m_ 5 23]) (r_ [m_ 24 7, m_ 6 24])])]
def sort_Search.a : AFun := ⟨2, [.tmp 4],
  sq [r_ [i_ 4 (.mov (n_ 0))],
   r_ [m_ 8 0, i_ 5 (.mov (n_ 0)), m_ 6 8],
   .block 0 (.loop [1, 5, 6] [5] [4] sort_Search.L0),
   r_ [m_ 25 5, m_ 4 25],
   .ret]⟩
def sort_Search.R0 (C : CallF) (N : Nat) := round (evalC C N sort_Search.L0) [1, 5, 6] [5] [4]
def sort_Search.K0 (C : CallF) (N : Nat) : Ex → St → R := contC C N [.snd, .snd, .fst, .blk] sort_Search.a.body (finish sort_Search.a)


/-! 153: wharfage/node.Find$1 -/
def node_Find_1.pol : Pol := { heap := [999999], ro := roList, rs := [4] }
def node_Find_1.a : AFun := ⟨3, [.tmp 4],
  sq [r_ [i_ 4 (.mov F_)],
   d_ [i_ 5 (.addr 0 (x_ 1)), i_ 6 (.load [.sl 2] false none (x_ 5)), m_ 7 0, i_ 8 (.indexAddrS 2 (x_ 6) (x_ 7)), i_ 9 (.addr 0 (x_ 8)), i_ 10 (.load [.str] false none (x_ 9)), i_ 11 (.load [.str] false none (x_ 2)), i_ 12 (.bin .geq (x_ 10) (x_ 11)), m_ 4 12],
   .ret]⟩


/-! 154: (wharfage/node.Node).leaf -/
def node_Node_leaf.pol : Pol := { heap := [999999], ro := roList, root := [(1, 1), (3, 1)], rs := [2] }
def node_Node_leaf.a : AFun := ⟨1, [.tmp 2],
  sq [r_ [i_ 1 (.boxL (x_ 0)), i_ 2 (.mov F_)],
   r_ [i_ 3 (.addr 1 (x_ 1)), i_ 4 (.load [.sl 1] false (some 1) (x_ 3)), i_ 5 (.lenL (x_ 4)), i_ 6 (.bin .eql (x_ 5) (n_ 0)), m_ 2 6],
   .ret]⟩


/-! 155: wharfage/blob.page -/
def blob_page.pol : Pol := { pure := [88, 172], heap := [999999], ro := roList, rs := [4] }
def blob_page.a : AFun := ⟨2, [.tmp 4],
  sq [r_ [i_ 4 (.mov (c_ (.string ⟨#[]⟩)))],
   r_ [m_ 5 0, i_ 6 (.convI .u64 (x_ 5)), i_ 7 (.callP 172 [(n_ 2), (x_ 6)] [.str]), m_ 8 1, i_ 9 (.lenS (x_ 8)), i_ 10 (.convI .u64 (x_ 9)), i_ 11 (.callP 172 [(n_ 2), (x_ 10)] [.str]), i_ 12 (.bin .add (x_ 7) (x_ 11)), m_ 13 1, i_ 14 (.bin .add (x_ 12) (x_ 13)), i_ 15 (.callP 88 [(x_ 14), (n_ 480)] [.str]), m_ 4 15],
   .ret]⟩


/-! 156: wharfage/node.Check -/
def node_Check.pol : Pol := { heap := [999999], ro := roList, root := [(1, 1), (11, 1), (21, 1), (24, 1), (31, 1), (5, 5), (49, 1), (56, 5), (62, 1)], rs := [2], live := [([1, 3, 32, 33, 34], [1, 3]), ([1, 3, 63, 64, 65], [1, 3])] }
def node_Check.L0 : ACode :=
  sq [r_ [i_ 35 (.bin .lss (x_ 34) (x_ 33))],
   if_ 35 (.skip) (.exit 0),
   .block 1 (sq [r_ [m_ 36 34, i_ 37 (.indexAddrS 2 (x_ 32) (x_ 34)), i_ 38 (.load [.str, .str] true none (x_ 37)), i_ 5 (.allocL [(.at (.string ⟨#[]⟩)), (.at (.string ⟨#[]⟩))]), m_ 4 36, u_ (.store 2 (some 5) (x_ 5) (x_ 38))],
     d_ [m_ 39 3, m_ 40 39, g_ 40 41 (.load [.sl 2, .sl 1] true (some 1) (x_ 1)), g_ 40 42 (.load [.str, .str] true (some 5) (x_ 5)), g_ 40 43 (.callR 185 [(x_ 41), (x_ 42)] [.bool]), i_ 44 (.pick (x_ 40) (x_ 43) F_), m_ 45 44, gm_ 45 46 4, g_ 45 47 (.bin .eql (x_ 46) (n_ 0)), gm_ 45 48 47, h_ 48 49 (.addr 0 (x_ 1)), h_ 48 50 (.load [.sl 2] false (some 1) (x_ 49)), hm_ 48 51 4, h_ 48 52 (.bin .sub (x_ 51) (n_ 1)), h_ 48 53 (.indexAddrS 2 (x_ 50) (x_ 52)), h_ 48 54 (.addr 0 (x_ 53)), h_ 48 55 (.load [.str] false none (x_ 54)), h_ 48 56 (.addr 0 (x_ 5)), h_ 48 57 (.load [.str] false (some 5) (x_ 56)), h_ 48 58 (.bin .lss (x_ 55) (x_ 57)), g_ 45 59 (.pick (x_ 48) T_ (x_ 58)), i_ 60 (.pick (x_ 45) (x_ 59) F_), m_ 3 60]]),
   r_ [i_ 61 (.bin .add (x_ 34) (n_ 1)), m_ 34 61]]
def node_Check.L1 : ACode :=
  sq [r_ [i_ 66 (.bin .lss (x_ 65) (x_ 64))],
   if_ 66 (.skip) (.exit 2),
   .block 3 (sq [r_ [i_ 67 (.indexAddrS 1 (x_ 63) (x_ 65)), i_ 68 (.load [ix] false none (x_ 67)), m_ 7 68],
     r_ [m_ 69 3, m_ 70 69, gm_ 70 71 7, g_ 70 72 (.bin .geq (x_ 71) (n_ 2)), i_ 73 (.pick (x_ 70) (x_ 72) F_), m_ 74 73, gm_ 74 75 7, g_ 74 76 (.bin .lss (x_ 75) (n_ 3840)), i_ 77 (.pick (x_ 74) (x_ 76) F_), m_ 3 77]]),
   r_ [i_ 78 (.bin .add (x_ 65) (n_ 1)), m_ 65 78]]
def node_Check.a : AFun := ⟨1, [.tmp 2],
  sq [r_ [i_ 1 (.boxL (x_ 0)), i_ 2 (.mov (n_ 0))],
   r_ [i_ 8 (.load [.sl 2, .sl 1] true (some 1) (x_ 1)), i_ 9 (.callR 154 [(x_ 8)] [.bool]), m_ 10 9, g_ 10 11 (.addr 0 (x_ 1)), g_ 10 12 (.load [.sl 2] false (some 1) (x_ 11)), g_ 10 13 (.lenL (x_ 12)), g_ 10 14 (.bin .gtr (x_ 13) (n_ 0)), i_ 15 (.pick (x_ 10) (x_ 14) F_), m_ 16 15, h_ 16 17 (.load [.sl 2, .sl 1] true (some 1) (x_ 1)), h_ 16 18 (.callR 154 [(x_ 17)] [.bool]), h_ 16 19 (.un .not (x_ 18)), hm_ 16 20 19, g_ 20 21 (.addr 0 (x_ 1)), g_ 20 22 (.load [.sl 2] false (some 1) (x_ 21)), g_ 20 23 (.lenL (x_ 22)), g_ 20 24 (.addr 1 (x_ 1)), g_ 20 25 (.load [.sl 1] false (some 1) (x_ 24)), g_ 20 26 (.lenL (x_ 25)), g_ 20 27 (.bin .sub (x_ 26) (n_ 1)), g_ 20 28 (.bin .eql (x_ 23) (x_ 27)), h_ 16 29 (.pick (x_ 20) (x_ 28) F_), i_ 30 (.pick (x_ 16) T_ (x_ 29)), m_ 3 30],
   sq [r_ [i_ 31 (.addr 0 (x_ 1)), i_ 32 (.load [.sl 2] false (some 1) (x_ 31)), i_ 33 (.lenL (x_ 32)), i_ 34 (.mov (n_ 0))],
    .block 0 (.loop [1, 3, 32, 33, 34] [1, 3] [2] node_Check.L0)],
   sq [r_ [i_ 62 (.addr 1 (x_ 1)), i_ 63 (.load [.sl 1] false (some 1) (x_ 62)), i_ 64 (.lenL (x_ 63)), i_ 65 (.mov (n_ 0))],
    .block 2 (.loop [1, 3, 63, 64, 65] [1, 3] [2] node_Check.L1)],
   sq [r_ [m_ 79 3, i_ 80 (.un .not (x_ 79)), m_ 81 80, h_ 81 82 (.load [.sl 2, .sl 1] true (some 1) (x_ 1)), h_ 81 83 (.callR 186 [(x_ 82)] [ix]), h_ 81 84 (.bin .gtr (x_ 83) (n_ 480)), i_ 85 (.pick (x_ 81) T_ (x_ 84))],
    if_ 85 (sq [r_ [i_ 2 (.mov (n_ 18))],
      .ret]) (.skip)],
   r_ [i_ 2 (.mov (n_ 0))],
   .ret]⟩
def node_Check.R0 (C : CallF) (N : Nat) := round (evalC C N node_Check.L0) [1, 3, 32, 33, 34] [1, 3] [2]
def node_Check.K0 (C : CallF) (N : Nat) : Ex → St → R := contC C N [.snd, .snd, .fst, .snd, .blk] node_Check.a.body (finish node_Check.a)
def node_Check.R1 (C : CallF) (N : Nat) := round (evalC C N node_Check.L1) [1, 3, 63, 64, 65] [1, 3] [2]
def node_Check.K1 (C : CallF) (N : Nat) : Ex → St → R := contC C N [.snd, .snd, .snd, .fst, .snd, .blk] node_Check.a.body (finish node_Check.a)


/-! 157: (*wharfage/heap.Heap).Take -/
def heap_Heap_Take.pol : Pol := { pure := [88, 187], heap := [999999], gret := [187], ro := roList, rs := [2] }
def heap_Heap_Take.a : AFun := ⟨1, [.tmp 2],
  sq [r_ [i_ 2 (.mov (n_ 0))],
   r_ [m_ 7 0, i_ 8 (.callR 65 [(x_ 7), (n_ 1)] [.str]), m_ 9 0, i_ 10 (.callR 36 [(x_ 9)] [ix]), i_ 11 (.minmax false [(n_ 2), (x_ 10)]), m_ 12 0, i_ 13 (.callR 36 [(x_ 12)] [ix]), i_ 14 (.callD 187 [(x_ 8), (x_ 11), (x_ 13), (n_ 1)] [.sl 1, .str, ix]), m_ 6 14, i_ 15 (.extract (x_ 6) 0), i_ 16 (.extract (x_ 6) 1), i_ 17 (.extract (x_ 6) 2), m_ 3 15, m_ 4 16, m_ 5 17],
   r_ [m_ 18 0, m_ 19 5, i_ 20 (.callR 115 [(x_ 18), (x_ 19)] [])],
   r_ [m_ 21 0, m_ 22 4, i_ 23 (.call 162 [(x_ 21), (n_ 1), (x_ 22)] [])],
   d_ [m_ 24 0, m_ 25 3, i_ 26 (.indexAddrS 1 (x_ 25) (n_ 0)), i_ 27 (.load [ix] false none (x_ 26)), i_ 28 (.callP 88 [(c_ (.string ⟨#[]⟩)), (n_ 480)] [.str]), i_ 29 (.call 162 [(x_ 24), (x_ 27), (x_ 28)] [])],
   r_ [m_ 30 3, i_ 31 (.indexAddrS 1 (x_ 30) (n_ 0)), i_ 32 (.load [ix] false none (x_ 31)), m_ 2 32],
   .ret]⟩


/-! 158: (*wharfage/tree.tree).store -/
def tree_tree_store.pol : Pol := { heap := [999999], ro := roList, root := [(5, 5)] }
def tree_tree_store.a : AFun := ⟨3, [],
  sq [r_ [i_ 5 (.boxL (x_ 2))],
   r_ [i_ 9 (.load [.sl 2, .sl 1] true (some 5) (x_ 5)), i_ 10 (.callR 184 [(x_ 9)] [.str, ix]), m_ 8 10, i_ 11 (.extract (x_ 8) 0), i_ 12 (.extract (x_ 8) 1), m_ 6 11, m_ 7 12],
   sq [r_ [m_ 13 7, i_ 14 (.bin .neq (x_ 13) (n_ 0))],
    if_ 14 (r_ [m_ 15 0, i_ 16 (.nilCk (x_ 15)), i_ 17 (.addr 0 (x_ 16)), i_ 18 (.load [.any] false none (x_ 17)), m_ 19 7, i_ 20 (.callR 82 [(x_ 18), (x_ 19)] [])]) (.skip)],
   r_ [m_ 21 0, i_ 22 (.nilCk (x_ 21)), i_ 23 (.addr 0 (x_ 22)), i_ 24 (.load [.any] false none (x_ 23)), m_ 25 1, m_ 26 6, i_ 27 (.call 162 [(x_ 24), (x_ 25), (x_ 26)] [])]]⟩


/-! 159: (*wharfage/tree.tree).save -/
def tree_tree_save.pol : Pol := { pure := [88, 172], heap := [999999], ro := roList }
def tree_tree_save.a : AFun := ⟨1, [],
  d_ [m_ 2 0, i_ 3 (.nilCk (x_ 2)), i_ 4 (.addr 0 (x_ 3)), i_ 5 (.load [.any] false none (x_ 4)), m_ 6 0, i_ 7 (.nilCk (x_ 6)), i_ 8 (.addr 1 (x_ 7)), i_ 9 (.load [ix] false none (x_ 8)), i_ 10 (.convI .u64 (x_ 9)), i_ 11 (.callP 172 [(n_ 2), (x_ 10)] [.str]), m_ 12 0, i_ 13 (.nilCk (x_ 12)), i_ 14 (.addr 2 (x_ 13)), i_ 15 (.load [.int .u64] false none (x_ 14)), i_ 16 (.callP 172 [(n_ 8), (x_ 15)] [.str]), i_ 17 (.bin .add (x_ 11) (x_ 16)), i_ 18 (.callP 88 [(x_ 17), (n_ 480)] [.str]), i_ 19 (.call 162 [(x_ 5), (n_ 0), (x_ 18)] [])]⟩


/-! 160: (*wharfage/tree.tree).put -/
def tree_tree_put.pol : Pol := { heap := [999999], ro := roList, root := [(5, 5), (8, 8), (18, 5), (23, 8), (46, 8), (57, 8), (64, 8), (65, 8), (72, 8)], rs := [6, 7] }
def tree_tree_put.a : AFun := ⟨3, [.tmp 6, .tmp 7],
  sq [r_ [i_ 5 (.boxL (x_ 2)), i_ 6 (.mov (c_ (.string ⟨#[]⟩))), i_ 7 (.mov (n_ 0))],
   r_ [m_ 13 0, m_ 14 1, i_ 15 (.call 121 [(x_ 13), (x_ 14)] [.ag]), i_ 8 (.allocL [(.sl true 2 []), (.sl true 1 [])]), u_ (.store 2 (some 8) (x_ 8) (x_ 15))],
   r_ [i_ 17 (.load [.sl 2, .sl 1] true (some 8) (x_ 8)), i_ 18 (.addr 0 (x_ 5)), i_ 19 (.load [.str] false (some 5) (x_ 18)), i_ 20 (.call 122 [(x_ 17), (x_ 19)] [ix, .bool]), m_ 16 20, i_ 21 (.extract (x_ 16) 0), i_ 22 (.extract (x_ 16) 1), m_ 9 21, m_ 10 22],
   sq [r_ [i_ 23 (.addr 1 (x_ 8)), i_ 24 (.load [.sl 1] false (some 8) (x_ 23)), i_ 25 (.lenL (x_ 24)), i_ 26 (.bin .eql (x_ 25) (n_ 0))],
    if_ 26 (sq [sq [r_ [m_ 27 10, i_ 28 (.un .not (x_ 27))],
       if_ 28 (r_ [m_ 29 0, i_ 30 (.nilCk (x_ 29)), i_ 31 (.addr 2 (x_ 30)), i_ 32 (.load [.int .u64] false none (x_ 31)), i_ 33 (.bin .add (x_ 32) (k_ .u64 1)), i_ 34 (.nilCk (x_ 29)), i_ 35 (.addr 2 (x_ 34)), u_ (.store 1 none (x_ 35) (x_ 33))]) (.skip)],
      r_ [m_ 36 0, m_ 37 1, i_ 38 (.load [.sl 2, .sl 1] true (some 8) (x_ 8)), i_ 39 (.load [.str, .str] true (some 5) (x_ 5)), i_ 40 (.call 189 [(x_ 38), (x_ 39)] [.ag]), i_ 41 (.call 188 [(x_ 36), (x_ 37), (x_ 40)] [.str, ix]), i_ 42 (.extract (x_ 41) 0), i_ 43 (.extract (x_ 41) 1), m_ 6 42, m_ 7 43],
      .ret]) (.skip)],
   d_ [m_ 45 0, i_ 46 (.addr 1 (x_ 8)), i_ 47 (.load [.sl 1] false (some 8) (x_ 46)), m_ 48 9, i_ 49 (.indexAddrS 1 (x_ 47) (x_ 48)), i_ 50 (.load [ix] false none (x_ 49)), i_ 51 (.load [.str, .str] true (some 5) (x_ 5)), i_ 52 (.call 160 [(x_ 45), (x_ 50), (x_ 51)] [.str, ix]), m_ 44 52, i_ 53 (.extract (x_ 44) 0), i_ 54 (.extract (x_ 44) 1), m_ 11 53, m_ 12 54],
   sq [r_ [m_ 55 12, i_ 56 (.bin .eql (x_ 55) (n_ 0))],
    if_ 56 (sq [r_ [i_ 6 (.mov (c_ (.string ⟨#[]⟩))), i_ 7 (.mov (n_ 0))],
      .ret]) (.skip)],
   r_ [i_ 57 (.addr 0 (x_ 8)), i_ 58 (.load [.sl 2] false (some 8) (x_ 57)), m_ 59 9, m_ 60 11, i_ 61 (.build [(.at (.string ⟨#[]⟩)), (.at (.string ⟨#[]⟩))] [(0, 1, (x_ 60))]), i_ 62 (.buildG 2 [(x_ 61)]), i_ 63 (.call 190 [(x_ 58), (x_ 59), (x_ 62)] [.any]), i_ 64 (.addr 0 (x_ 8)), u_ (.store 1 (some 8) (x_ 64) (x_ 63))],
   r_ [i_ 65 (.addr 1 (x_ 8)), i_ 66 (.load [.sl 1] false (some 8) (x_ 65)), m_ 67 9, i_ 68 (.bin .add (x_ 67) (n_ 1)), m_ 69 12, i_ 70 (.buildG 1 [(x_ 69)]), i_ 71 (.call 191 [(x_ 66), (x_ 68), (x_ 70)] [.any]), i_ 72 (.addr 1 (x_ 8)), u_ (.store 1 (some 8) (x_ 72) (x_ 71))],
   r_ [m_ 73 0, m_ 74 1, i_ 75 (.load [.sl 2, .sl 1] true (some 8) (x_ 8)), i_ 76 (.call 188 [(x_ 73), (x_ 74), (x_ 75)] [.str, ix]), i_ 77 (.extract (x_ 76) 0), i_ 78 (.extract (x_ 76) 1), m_ 6 77, m_ 7 78],
   .ret]⟩


/-! 161: wharfage/octets.Cut -/
def octets_Cut.pol : Pol := { glob := [2, 3], heap := [999999], ro := roList, rs := [4], live := [([2, 3, 5, 6], [5])] }
def octets_Cut.L0 : ACode :=
  sq [sq [r_ [i_ 8 (.load [ix] false none (x_ 3)), i_ 9 (.bin .gtr (x_ 8) (n_ 0)), m_ 10 9, g_ 10 11 (.load [.str] false none (x_ 2)), g_ 10 12 (.bin .neq (x_ 11) (c_ (.string ⟨#[]⟩))), i_ 13 (.pick (x_ 10) (x_ 12) F_)],
    if_ 13 (.skip) (.exit 0)],
   .block 1 (r_ [m_ 14 5, m_ 15 6, i_ 16 (.callV (x_ 15) [] [.str]), i_ 17 (.buildG 1 [(x_ 16)]), i_ 18 (.appendH none 1 16 (x_ 14) (x_ 17)), m_ 5 18])]
def octets_Cut.a : AFun := ⟨2, [.tmp 4],
  sq [r_ [i_ 2 (.boxG (x_ 0)), i_ 3 (.boxG (x_ 1)), i_ 4 (.nilS 1)],
   r_ [i_ 5 (.nilS 1)],
   r_ [i_ 7 (.makeFunc 192 [] [(x_ 3), (x_ 2)]), m_ 6 7],
   .block 0 (.loop [2, 3, 5, 6] [5] [4] octets_Cut.L0),
   r_ [m_ 19 5, m_ 4 19],
   .ret]⟩
def octets_Cut.R0 (C : CallF) (N : Nat) := round (evalC C N octets_Cut.L0) [2, 3, 5, 6] [5] [4]
def octets_Cut.K0 (C : CallF) (N : Nat) : Ex → St → R := contC C N [.snd, .snd, .snd, .fst, .blk] octets_Cut.a.body (finish octets_Cut.a)


/-! 162: (*wharfage/heap.Heap).Put -/
def heap_Heap_Put.pol : Pol := { heap := [999999], ro := roList }
def heap_Heap_Put.a : AFun := ⟨3, [],
  sq [sq [r_ [m_ 6 1, i_ 7 (.bin .lss (x_ 6) (n_ 0)), m_ 8 7, hm_ 8 9 1, hm_ 8 10 0, h_ 8 11 (.callR 36 [(x_ 10)] [ix]), h_ 8 12 (.bin .geq (x_ 9) (x_ 11)), i_ 13 (.pick (x_ 8) T_ (x_ 12)), m_ 14 13, hm_ 14 15 2, h_ 14 16 (.lenS (x_ 15)), h_ 14 17 (.bin .neq (x_ 16) (n_ 480)), i_ 18 (.pick (x_ 14) T_ (x_ 17))],
    if_ 18 (r_ [m_ 19 0, i_ 20 (.callR 82 [(x_ 19), (n_ 18)] [])]) (.skip)],
   r_ [m_ 21 0, i_ 22 (.nilCk (x_ 21)), i_ 23 (.addr 1 (x_ 22)), i_ 24 (.load [.any] false none (x_ 23)), m_ 25 1, m_ 26 2, u_ (.mapSet false (x_ 24) (x_ 25) (x_ 26))]]⟩


/-! 163: (*wharfage/heap.Heap).Give -/
def heap_Heap_Give.pol : Pol := { heap := [999999], ro := roList }
def heap_Heap_Give.a : AFun := ⟨2, [],
  sq [sq [r_ [m_ 6 1, i_ 7 (.bin .lss (x_ 6) (n_ 2)), m_ 8 7, hm_ 8 9 1, hm_ 8 10 0, h_ 8 11 (.callR 36 [(x_ 10)] [ix]), h_ 8 12 (.bin .geq (x_ 9) (x_ 11)), i_ 13 (.pick (x_ 8) T_ (x_ 12))],
    if_ 13 (r_ [m_ 14 0, i_ 15 (.callR 82 [(x_ 14), (n_ 18)] [])]) (.skip)],
   r_ [m_ 17 0, i_ 18 (.callR 65 [(x_ 17), (n_ 1)] [.str]), m_ 19 1, i_ 20 (.buildG 1 [(x_ 19)]), i_ 21 (.call 193 [(x_ 18), (x_ 20)] [.str, ix]), m_ 16 21, i_ 22 (.extract (x_ 16) 0), i_ 23 (.extract (x_ 16) 1), m_ 4 22, m_ 5 23],
   r_ [m_ 24 0, m_ 25 5, i_ 26 (.callR 115 [(x_ 24), (x_ 25)] [])],
   r_ [m_ 27 0, m_ 28 4, i_ 29 (.call 162 [(x_ 27), (n_ 1), (x_ 28)] [])]]⟩


/-! 164: (*wharfage/tree.tree).cut -/
def tree_tree_cut.pol : Pol := { heap := [999999], ro := roList, root := [(8, 8), (22, 8), (28, 8), (34, 8), (41, 8), (59, 8), (68, 8)], rs := [6, 7] }
def tree_tree_cut.a : AFun := ⟨3, [.tmp 6, .tmp 7],
  sq [r_ [i_ 6 (.mov F_), i_ 7 (.mov F_)],
   r_ [m_ 13 0, m_ 14 1, i_ 15 (.call 121 [(x_ 13), (x_ 14)] [.ag]), i_ 8 (.allocL [(.sl true 2 []), (.sl true 1 [])]), u_ (.store 2 (some 8) (x_ 8) (x_ 15))],
   r_ [i_ 17 (.load [.sl 2, .sl 1] true (some 8) (x_ 8)), m_ 18 2, i_ 19 (.call 122 [(x_ 17), (x_ 18)] [ix, .bool]), m_ 16 19, i_ 20 (.extract (x_ 16) 0), i_ 21 (.extract (x_ 16) 1), m_ 9 20, m_ 10 21],
   sq [r_ [i_ 22 (.addr 1 (x_ 8)), i_ 23 (.load [.sl 1] false (some 8) (x_ 22)), i_ 24 (.lenL (x_ 23)), i_ 25 (.bin .eql (x_ 24) (n_ 0))],
    if_ 25 (sq [sq [r_ [m_ 26 10, i_ 27 (.un .not (x_ 26))],
       if_ 27 (sq [r_ [i_ 6 (.mov F_), i_ 7 (.mov F_)],
         .ret]) (.skip)],
      r_ [i_ 28 (.addr 0 (x_ 8)), i_ 29 (.load [.sl 2] false (some 8) (x_ 28)), m_ 30 9, m_ 31 9, i_ 32 (.bin .add (x_ 31) (n_ 1)), i_ 33 (.call 194 [(x_ 29), (x_ 30), (x_ 32)] [.any]), i_ 34 (.addr 0 (x_ 8)), u_ (.store 1 (some 8) (x_ 34) (x_ 33))],
      r_ [m_ 35 0, m_ 36 1, i_ 37 (.load [.sl 2, .sl 1] true (some 8) (x_ 8)), i_ 38 (.call 195 [(x_ 35), (x_ 36), (x_ 37)] [.bool]), i_ 6 (.mov T_), m_ 7 38],
      .ret]) (.skip)],
   r_ [m_ 40 0, i_ 41 (.addr 1 (x_ 8)), i_ 42 (.load [.sl 1] false (some 8) (x_ 41)), m_ 43 9, i_ 44 (.indexAddrS 1 (x_ 42) (x_ 43)), i_ 45 (.load [ix] false none (x_ 44)), m_ 46 2, i_ 47 (.call 164 [(x_ 40), (x_ 45), (x_ 46)] [.bool, .bool]), m_ 39 47, i_ 48 (.extract (x_ 39) 0), i_ 49 (.extract (x_ 39) 1), m_ 11 48, m_ 12 49],
   sq [r_ [m_ 50 11, i_ 51 (.un .not (x_ 50))],
    if_ 51 (sq [r_ [i_ 6 (.mov F_), i_ 7 (.mov F_)],
      .ret]) (.skip)],
   sq [r_ [m_ 52 12],
    if_ 52 (r_ [i_ 53 (.load [.sl 2, .sl 1] true (some 8) (x_ 8)), m_ 54 9, i_ 55 (.call 196 [(x_ 53), (x_ 54)] [.ag]), u_ (.store 2 (some 8) (x_ 8) (x_ 55))]) (.skip)],
   r_ [m_ 56 0, i_ 57 (.load [.sl 2, .sl 1] true (some 8) (x_ 8)), m_ 58 9, i_ 59 (.addr 1 (x_ 8)), i_ 60 (.load [.sl 1] false (some 8) (x_ 59)), i_ 61 (.lenL (x_ 60)), i_ 62 (.bin .sub (x_ 61) (n_ 1)), i_ 63 (.minmax false [(x_ 58), (x_ 62)]), i_ 64 (.call 197 [(x_ 56), (x_ 57), (x_ 63)] [.ag]), u_ (.store 2 (some 8) (x_ 8) (x_ 64))],
   r_ [m_ 65 0, i_ 66 (.load [.sl 2, .sl 1] true (some 8) (x_ 8)), m_ 67 9, i_ 68 (.addr 1 (x_ 8)), i_ 69 (.load [.sl 1] false (some 8) (x_ 68)), i_ 70 (.lenL (x_ 69)), i_ 71 (.bin .sub (x_ 70) (n_ 1)), i_ 72 (.minmax false [(x_ 67), (x_ 71)]), i_ 73 (.bin .sub (x_ 72) (n_ 1)), i_ 74 (.call 197 [(x_ 65), (x_ 66), (x_ 73)] [.ag]), u_ (.store 2 (some 8) (x_ 8) (x_ 74))],
   r_ [m_ 75 0, m_ 76 1, i_ 77 (.load [.sl 2, .sl 1] true (some 8) (x_ 8)), i_ 78 (.call 195 [(x_ 75), (x_ 76), (x_ 77)] [.bool]), i_ 6 (.mov T_), m_ 7 78],
   .ret]⟩


/-! 165: (*wharfage/tree.tree).lower -/
def tree_tree_lower.pol : Pol := { heap := [999999], ro := roList, root := [(2, 2), (14, 2), (28, 2)], live := [([0], [])] }
def tree_tree_lower.L0 : ACode :=
  sq [sq [r_ [m_ 3 0, i_ 4 (.nilCk (x_ 3)), i_ 5 (.addr 1 (x_ 4)), i_ 6 (.load [ix] false none (x_ 5)), i_ 7 (.bin .neq (x_ 6) (n_ 0))],
    if_ 7 (.skip) (.exit 0)],
   .block 1 (sq [r_ [m_ 8 0, m_ 9 0, i_ 10 (.nilCk (x_ 9)), i_ 11 (.addr 1 (x_ 10)), i_ 12 (.load [ix] false none (x_ 11)), i_ 13 (.call 121 [(x_ 8), (x_ 12)] [.ag]), i_ 2 (.allocL [(.sl true 2 []), (.sl true 1 [])]), u_ (.store 2 (some 2) (x_ 2) (x_ 13))],
     sq [r_ [i_ 14 (.addr 1 (x_ 2)), i_ 15 (.load [.sl 1] false (some 2) (x_ 14)), i_ 16 (.lenL (x_ 15)), i_ 17 (.bin .neq (x_ 16) (n_ 1))],
      if_ 17 (.ret) (.skip)],
     d_ [m_ 18 0, i_ 19 (.nilCk (x_ 18)), i_ 20 (.addr 0 (x_ 19)), i_ 21 (.load [.any] false none (x_ 20)), m_ 22 0, i_ 23 (.nilCk (x_ 22)), i_ 24 (.addr 1 (x_ 23)), i_ 25 (.load [ix] false none (x_ 24)), i_ 26 (.call 163 [(x_ 21), (x_ 25)] [])],
     r_ [m_ 27 0, i_ 28 (.addr 1 (x_ 2)), i_ 29 (.load [.sl 1] false (some 2) (x_ 28)), i_ 30 (.indexAddrS 1 (x_ 29) (n_ 0)), i_ 31 (.load [ix] false none (x_ 30)), i_ 32 (.nilCk (x_ 27)), i_ 33 (.addr 1 (x_ 32)), u_ (.store 1 none (x_ 33) (x_ 31))]])]
def tree_tree_lower.a : AFun := ⟨1, [],
  .block 0 (.loop [0] [] [] tree_tree_lower.L0)⟩
def tree_tree_lower.R0 (C : CallF) (N : Nat) := round (evalC C N tree_tree_lower.L0) [0] [] []
def tree_tree_lower.K0 (C : CallF) (N : Nat) : Ex → St → R := contC C N [.blk] tree_tree_lower.a.body (finish tree_tree_lower.a)


/-! 166: (*strings.Builder).WriteString -/
def strings_Builder_WriteString.pol : Pol := { heap := [999999], ro := roList, typed := [5], rs := [4, 5] }
def strings_Builder_WriteString.a : AFun := ⟨2, [.tmp 4, .tmp 5],
  sq [r_ [i_ 4 (.mov (n_ 0)), i_ 5 (.mov (c_ .nilIface))],
   r_ [m_ 6 0, i_ 7 (.call 198 [(x_ 6)] [])],
   r_ [m_ 8 0, m_ 9 0, i_ 10 (.nilCk (x_ 9)), i_ 11 (.addr 1 (x_ 10)), i_ 12 (.load [.sl 1] false none (x_ 11)), m_ 13 1, i_ 14 (.appendH (some 5) 1 1 (x_ 12) (x_ 13)), i_ 15 (.nilCk (x_ 8)), i_ 16 (.addr 1 (x_ 15)), u_ (.store 1 none (x_ 16) (x_ 14))],
   r_ [m_ 17 1, i_ 18 (.lenS (x_ 17)), m_ 4 18, i_ 5 (.mov (c_ .nilIface))],
   .ret]⟩


/-! 170: math/bits.Mul32 -/
def math_bits_Mul32.pol : Pol := { heap := [999999], ro := roList, rs := [4, 5] }
def math_bits_Mul32.a : AFun := ⟨2, [.tmp 4, .tmp 5],
  sq [r_ [i_ 4 (.mov (k_ .u32 0)), i_ 5 (.mov (k_ .u32 0))],
   r_ [m_ 7 0, i_ 8 (.convI .u64 (x_ 7)), m_ 9 1, i_ 10 (.convI .u64 (x_ 9)), i_ 11 (.bin .mul (x_ 8) (x_ 10)), m_ 6 11],
   r_ [m_ 12 6, i_ 13 (.bin .shr (x_ 12) (k_ .u64 32)), i_ 14 (.convI .u32 (x_ 13)), m_ 15 6, i_ 16 (.convI .u32 (x_ 15)), m_ 4 14, m_ 5 16],
   .ret]⟩


/-! 171: math/bits.Mul64 -/
def math_bits_Mul64.pol : Pol := { heap := [999999], ro := roList, rs := [4, 5] }
def math_bits_Mul64.a : AFun := ⟨2, [.tmp 4, .tmp 5],
  sq [r_ [i_ 4 (.mov (k_ .u64 0)), i_ 5 (.mov (k_ .u64 0))],
   r_ [m_ 14 0, i_ 15 (.bin .and (x_ 14) (k_ .u64 4294967295)), m_ 6 15],
   r_ [m_ 16 0, i_ 17 (.bin .shr (x_ 16) (k_ .u64 32)), m_ 7 17],
   r_ [m_ 18 1, i_ 19 (.bin .and (x_ 18) (k_ .u64 4294967295)), m_ 8 19],
   r_ [m_ 20 1, i_ 21 (.bin .shr (x_ 20) (k_ .u64 32)), m_ 9 21],
   r_ [m_ 22 6, m_ 23 8, i_ 24 (.bin .mul (x_ 22) (x_ 23)), m_ 10 24],
   r_ [m_ 25 7, m_ 26 8, i_ 27 (.bin .mul (x_ 25) (x_ 26)), m_ 28 10, i_ 29 (.bin .shr (x_ 28) (k_ .u64 32)), i_ 30 (.bin .add (x_ 27) (x_ 29)), m_ 11 30],
   r_ [m_ 31 11, i_ 32 (.bin .and (x_ 31) (k_ .u64 4294967295)), m_ 12 32],
   r_ [m_ 33 11, i_ 34 (.bin .shr (x_ 33) (k_ .u64 32)), m_ 13 34],
   r_ [m_ 35 12, m_ 36 6, m_ 37 9, i_ 38 (.bin .mul (x_ 36) (x_ 37)), i_ 39 (.bin .add (x_ 35) (x_ 38)), m_ 12 39],
   r_ [m_ 40 7, m_ 41 9, i_ 42 (.bin .mul (x_ 40) (x_ 41)), m_ 43 13, i_ 44 (.bin .add (x_ 42) (x_ 43)), m_ 45 12, i_ 46 (.bin .shr (x_ 45) (k_ .u64 32)), i_ 47 (.bin .add (x_ 44) (x_ 46)), m_ 4 47],
   r_ [m_ 48 0, m_ 49 1, i_ 50 (.bin .mul (x_ 48) (x_ 49)), m_ 5 50],
   .ret]⟩


/-! 172: wharfage/octets.Num -/
def octets_Num.pol : Pol := { glob := [5], pure := [150], heap := [999999], ro := roList, rs := [4], live := [([0, 1, 5, 10, 11], [0, 5])] }
def octets_Num.L0 : ACode :=
  sq [r_ [i_ 12 (.bin .lss (x_ 11) (x_ 10))],
   if_ 12 (.skip) (.exit 0),
   .block 1 (sq [r_ [m_ 13 11, m_ 6 13],
     r_ [m_ 14 0, i_ 15 (.bin .sub (x_ 14) (n_ 1)), m_ 16 6, i_ 17 (.bin .sub (x_ 15) (x_ 16)), m_ 18 1, m_ 19 6, i_ 20 (.bin .mul (n_ 8) (x_ 19)), i_ 21 (.bin .shr (x_ 18) (x_ 20)), i_ 22 (.convI .u8 (x_ 21)), i_ 23 (.indexAddrA 8 1 (x_ 5) (x_ 17)), u_ (.store 1 none (x_ 23) (x_ 22))]]),
   r_ [i_ 24 (.bin .add (x_ 11) (n_ 1)), m_ 11 24]]
def octets_Num.a : AFun := ⟨2, [.tmp 4],
  sq [r_ [i_ 4 (.mov (c_ (.string ⟨#[]⟩)))],
   sq [r_ [m_ 7 0, i_ 8 (.callP 150 [(x_ 7)] [.bool]), i_ 9 (.un .not (x_ 8))],
    if_ 9 (sq [r_ [i_ 4 (.mov (c_ (.string ⟨#[]⟩)))],
      .ret]) (.skip)],
   r_ [i_ 5 (.allocG none [(.at (.int .u8 0)), (.at (.int .u8 0)), (.at (.int .u8 0)), (.at (.int .u8 0)), (.at (.int .u8 0)), (.at (.int .u8 0)), (.at (.int .u8 0)), (.at (.int .u8 0))])],
   sq [r_ [m_ 10 0, i_ 11 (.mov (n_ 0))],
    .block 0 (.loop [0, 1, 5, 10, 11] [0, 5] [4] octets_Num.L0)],
   r_ [m_ 25 0, i_ 26 (.sliceA 8 1 none (x_ 5) none (some (x_ 25))), i_ 27 (.toStrG (x_ 26)), m_ 4 27],
   .ret]⟩
def octets_Num.R0 (C : CallF) (N : Nat) := round (evalC C N octets_Num.L0) [0, 1, 5, 10, 11] [0, 5] [4]
def octets_Num.K0 (C : CallF) (N : Nat) : Ex → St → R := contC C N [.snd, .snd, .snd, .fst, .snd, .blk] octets_Num.a.body (finish octets_Num.a)


/-! 173: wharfage/crc.More -/
def crc_More.pol : Pol := { pure := [200], heap := [999999], ro := roList, root := [(5, 5), (13, 13), (17, 13), (27, 5), (34, 5)], rs := [4], live := [([5, 6, 13, 14, 15], [6])] }
def crc_More.L0 : ACode :=
  sq [r_ [i_ 16 (.bin .lss (x_ 15) (x_ 14))],
   if_ 16 (.skip) (.exit 0),
   .block 1 (sq [r_ [i_ 17 (.indexAddrS 1 (x_ 13) (x_ 15)), i_ 18 (.load [.int .u8] false (some 13) (x_ 17)), m_ 8 18],
     r_ [m_ 19 6, m_ 20 8, i_ 21 (.convI .u32 (x_ 20)), i_ 22 (.bin .xor (x_ 19) (x_ 21)), m_ 6 22],
     r_ [m_ 23 6, i_ 24 (.bin .shr (x_ 23) (k_ .u64 4)), m_ 25 6, i_ 26 (.bin .and (x_ 25) (k_ .u32 15)), i_ 27 (.indexAddrA 16 1 (x_ 5) (x_ 26)), i_ 28 (.load [.int .u32] false (some 5) (x_ 27)), i_ 29 (.bin .xor (x_ 24) (x_ 28)), m_ 6 29],
     r_ [m_ 30 6, i_ 31 (.bin .shr (x_ 30) (k_ .u64 4)), m_ 32 6, i_ 33 (.bin .and (x_ 32) (k_ .u32 15)), i_ 34 (.indexAddrA 16 1 (x_ 5) (x_ 33)), i_ 35 (.load [.int .u32] false (some 5) (x_ 34)), i_ 36 (.bin .xor (x_ 31) (x_ 35)), m_ 6 36]]),
   r_ [i_ 37 (.bin .add (x_ 15) (n_ 1)), m_ 15 37]]
def crc_More.a : AFun := ⟨2, [.tmp 4],
  sq [r_ [i_ 4 (.mov (k_ .u32 0))],
   r_ [i_ 9 (.callP 200 [] [.ag]), i_ 5 (.allocL [(.at (.int .u32 0)), (.at (.int .u32 0)), (.at (.int .u32 0)), (.at (.int .u32 0)), (.at (.int .u32 0)), (.at (.int .u32 0)), (.at (.int .u32 0)), (.at (.int .u32 0)), (.at (.int .u32 0)), (.at (.int .u32 0)), (.at (.int .u32 0)), (.at (.int .u32 0)), (.at (.int .u32 0)), (.at (.int .u32 0)), (.at (.int .u32 0)), (.at (.int .u32 0))]), u_ (.store 16 (some 5) (x_ 5) (x_ 9))],
   r_ [m_ 10 0, i_ 11 (.bin .xor (x_ 10) (k_ .u32 4294967295)), m_ 6 11],
   sq [r_ [m_ 12 1, i_ 13 (.toBytes (x_ 12)), i_ 14 (.lenL (x_ 13)), i_ 15 (.mov (n_ 0))],
    .block 0 (.loop [5, 6, 13, 14, 15] [6] [4] crc_More.L0)],
   r_ [m_ 38 6, i_ 39 (.bin .xor (x_ 38) (k_ .u32 4294967295)), m_ 4 39],
   .ret]⟩
def crc_More.R0 (C : CallF) (N : Nat) := round (evalC C N crc_More.L0) [5, 6, 13, 14, 15] [6] [4]
def crc_More.K0 (C : CallF) (N : Nat) : Ex → St → R := contC C N [.snd, .snd, .snd, .fst, .snd, .blk] crc_More.a.body (finish crc_More.a)


/-! 174: wharfage/crc.Sum -/
def crc_Sum.pol : Pol := { pure := [173], heap := [999999], ro := roList, rs := [2] }
def crc_Sum.a : AFun := ⟨1, [.tmp 2],
  sq [r_ [i_ 2 (.mov (k_ .u32 0))],
   r_ [m_ 3 0, i_ 4 (.callP 173 [(k_ .u32 0), (x_ 3)] [.int .u32]), m_ 2 4],
   .ret]⟩


/-! 175: slices.Backward[[]wharfage/disk.write,wharfage/disk.write]$1 -/
def slices_Backward_disk_write_disk_write_1.pol : Pol := { heap := [999999], ro := roList, live := [([0, 1, 3], [])] }
def slices_Backward_disk_write_disk_write_1.L0 : ACode :=
  sq [sq [r_ [m_ 7 3, i_ 8 (.bin .geq (x_ 7) (n_ 0))],
    if_ 8 (.skip) (.exit 0)],
   .block 1 (sq [r_ [m_ 11 0, m_ 12 3, i_ 13 (.load [.sl 2] false none (x_ 1)), m_ 14 3, i_ 15 (.indexAddrS 2 (x_ 13) (x_ 14)), i_ 16 (.load [ix, .str] true none (x_ 15)), i_ 17 (.callV (x_ 11) [(x_ 12), (x_ 16)] [.bool]), i_ 18 (.un .not (x_ 17))],
     if_ 18 (.ret) (.skip)]),
   r_ [m_ 9 3, i_ 10 (.bin .sub (x_ 9) (n_ 1)), m_ 3 10]]
def slices_Backward_disk_write_disk_write_1.a : AFun := ⟨2, [],
  sq [r_ [i_ 4 (.load [.sl 2] false none (x_ 1)), i_ 5 (.lenL (x_ 4)), i_ 6 (.bin .sub (x_ 5) (n_ 1)), m_ 3 6],
   .block 0 (.loop [0, 1, 3] [] [] slices_Backward_disk_write_disk_write_1.L0)]⟩
def slices_Backward_disk_write_disk_write_1.R0 (C : CallF) (N : Nat) := round (evalC C N slices_Backward_disk_write_disk_write_1.L0) [0, 1, 3] [] []
def slices_Backward_disk_write_disk_write_1.K0 (C : CallF) (N : Nat) : Ex → St → R := contC C N [.snd, .blk] slices_Backward_disk_write_disk_write_1.a.body (finish slices_Backward_disk_write_disk_write_1.a)


/-! 176: (*wharfage/octets.Reader).fail -/
def octets_Reader_fail.pol : Pol := { heap := [999999], ro := roList, rs := [4] }
def octets_Reader_fail.a : AFun := ⟨2, [.tmp 4],
  sq [r_ [i_ 4 (.mov (c_ (.string ⟨#[]⟩)))],
   r_ [m_ 5 0, m_ 6 0, m_ 7 1, i_ 8 (.nilCk (x_ 5)), i_ 9 (.addr 0 (x_ 8)), u_ (.store 1 none (x_ 9) (c_ (.string ⟨#[]⟩))), i_ 10 (.nilCk (x_ 6)), i_ 11 (.addr 1 (x_ 10)), u_ (.store 1 none (x_ 11) (x_ 7))],
   r_ [i_ 4 (.mov (c_ (.string ⟨#[]⟩)))],
   .ret]⟩


/-! 177: slices.IndexFunc[[]wharfage/journal.Image,wharfage/journal.Image] -/
def slices_IndexFunc_journal_Image_journal_Image.pol : Pol := { heap := [999999], ro := roList, rs := [4], live := [([0, 1, 7, 8], [])] }
def slices_IndexFunc_journal_Image_journal_Image.L0 : ACode :=
  sq [r_ [i_ 9 (.bin .lss (x_ 8) (x_ 7))],
   if_ 9 (.skip) (.exit 0),
   .block 1 (sq [r_ [m_ 10 8, m_ 5 10],
     r_ [m_ 11 1, m_ 12 0, m_ 13 5, i_ 14 (.indexAddrS 2 (x_ 12) (x_ 13)), i_ 15 (.load [ix, .str] true none (x_ 14)), i_ 16 (.callV (x_ 11) [(x_ 15)] [.bool])],
     if_ 16 (sq [r_ [m_ 17 5, m_ 4 17],
       .ret]) (.skip)]),
   r_ [i_ 18 (.bin .add (x_ 8) (n_ 1)), m_ 8 18]]
def slices_IndexFunc_journal_Image_journal_Image.a : AFun := ⟨2, [.tmp 4],
  sq [r_ [i_ 4 (.mov (n_ 0))],
   sq [r_ [m_ 6 0, i_ 7 (.lenL (x_ 6)), i_ 8 (.mov (n_ 0))],
    .block 0 (.loop [0, 1, 7, 8] [] [4] slices_IndexFunc_journal_Image_journal_Image.L0)],
   r_ [i_ 4 (.mov (n_ (-1)))],
   .ret]⟩
def slices_IndexFunc_journal_Image_journal_Image.R0 (C : CallF) (N : Nat) := round (evalC C N slices_IndexFunc_journal_Image_journal_Image.L0) [0, 1, 7, 8] [] [4]
def slices_IndexFunc_journal_Image_journal_Image.K0 (C : CallF) (N : Nat) : Ex → St → R := contC C N [.snd, .fst, .snd, .blk] slices_IndexFunc_journal_Image_journal_Image.a.body (finish slices_IndexFunc_journal_Image_journal_Image.a)


/-! 181: wharfage/sector.short -/
def sector_short.pol : Pol := { heap := [999999], ro := roList, rs := [2] }
def sector_short.a : AFun := ⟨1, [.tmp 2],
  sq [r_ [i_ 2 (.mov F_)],
   r_ [m_ 3 0, i_ 4 (.bin .geq (x_ 3) (n_ 0)), m_ 5 4, gm_ 5 6 0, g_ 5 7 (.bin .leq (x_ 6) (n_ 65535)), i_ 8 (.pick (x_ 5) (x_ 7) F_), m_ 2 8],
   .ret]⟩


/-! 183: wharfage/node.read -/
def node_read.pol : Pol := { heap := [999999], ro := roList, rs := [2] }
def node_read.a : AFun := ⟨1, [.tmp 2],
  sq [r_ [i_ 2 (.mov (c_ (.string ⟨#[]⟩)))],
   r_ [m_ 3 0, m_ 4 0, i_ 5 (.call 117 [(x_ 4), (n_ 1)] [.int .u64]), i_ 6 (.convI .i64 (x_ 5)), i_ 7 (.call 136 [(x_ 3), (x_ 6)] [.str]), m_ 2 7],
   .ret]⟩


/-! 184: wharfage/node.Encode -/
def node_Encode.pol : Pol := { pure := [88, 172, 215], heap := [999999], ro := roList, root := [(1, 1), (19, 1), (25, 1), (7, 7), (33, 7), (36, 7), (45, 1), (51, 1), (58, 1), (10, 10), (67, 10), (70, 1)], rs := [2, 3], live := [([5, 26, 27, 28], [5]), ([1, 8, 59, 60, 61], [8])] }
def node_Encode.L0 : ACode :=
  sq [r_ [i_ 29 (.bin .lss (x_ 28) (x_ 27))],
   if_ 29 (.skip) (.exit 0),
   .block 1 (sq [r_ [i_ 30 (.indexAddrS 2 (x_ 26) (x_ 28)), i_ 31 (.load [.str, .str] true none (x_ 30)), i_ 7 (.allocL [(.at (.string ⟨#[]⟩)), (.at (.string ⟨#[]⟩))]), u_ (.store 2 (some 7) (x_ 7) (x_ 31))],
     d_ [m_ 32 5, i_ 33 (.addr 0 (x_ 7)), i_ 34 (.load [.str] false (some 7) (x_ 33)), i_ 35 (.callP 215 [(x_ 34)] [.str]), i_ 36 (.addr 1 (x_ 7)), i_ 37 (.load [.str] false (some 7) (x_ 36)), i_ 38 (.callP 215 [(x_ 37)] [.str]), i_ 39 (.bin .add (x_ 35) (x_ 38)), i_ 40 (.bin .add (x_ 32) (x_ 39)), m_ 5 40]]),
   r_ [i_ 41 (.bin .add (x_ 28) (n_ 1)), m_ 28 41]]
def node_Encode.L1 : ACode :=
  sq [r_ [i_ 62 (.bin .lss (x_ 61) (x_ 60))],
   if_ 62 (.skip) (.exit 2),
   .block 3 (sq [r_ [m_ 63 61, i_ 64 (.indexAddrS 2 (x_ 59) (x_ 61)), i_ 65 (.load [.str, .str] true none (x_ 64)), i_ 10 (.allocL [(.at (.string ⟨#[]⟩)), (.at (.string ⟨#[]⟩))]), m_ 9 63, u_ (.store 2 (some 10) (x_ 10) (x_ 65))],
     d_ [m_ 66 8, i_ 67 (.addr 0 (x_ 10)), i_ 68 (.load [.str] false (some 10) (x_ 67)), i_ 69 (.callP 215 [(x_ 68)] [.str]), i_ 70 (.addr 1 (x_ 1)), i_ 71 (.load [.sl 1] false (some 1) (x_ 70)), m_ 72 9, i_ 73 (.bin .add (x_ 72) (n_ 1)), i_ 74 (.indexAddrS 1 (x_ 71) (x_ 73)), i_ 75 (.load [ix] false none (x_ 74)), i_ 76 (.convI .u64 (x_ 75)), i_ 77 (.callP 172 [(n_ 2), (x_ 76)] [.str]), i_ 78 (.bin .add (x_ 69) (x_ 77)), i_ 79 (.bin .add (x_ 66) (x_ 78)), m_ 8 79]]),
   r_ [i_ 80 (.bin .add (x_ 61) (n_ 1)), m_ 61 80]]
def node_Encode.a : AFun := ⟨1, [.tmp 2, .tmp 3],
  sq [r_ [i_ 1 (.boxL (x_ 0)), i_ 2 (.mov (c_ (.string ⟨#[]⟩))), i_ 3 (.mov (n_ 0))],
   sq [r_ [i_ 11 (.load [.sl 2, .sl 1] true (some 1) (x_ 1)), i_ 12 (.callR 156 [(x_ 11)] [ix]), m_ 4 12],
    r_ [m_ 13 4, i_ 14 (.bin .neq (x_ 13) (n_ 0))],
    if_ 14 (sq [r_ [m_ 15 4, i_ 2 (.mov (c_ (.string ⟨#[]⟩))), m_ 3 15],
      .ret]) (.skip)],
   sq [r_ [i_ 16 (.load [.sl 2, .sl 1] true (some 1) (x_ 1)), i_ 17 (.callR 154 [(x_ 16)] [.bool])],
    if_ 17 (sq [d_ [i_ 18 (.callP 172 [(n_ 1), (k_ .u64 1)] [.str]), i_ 19 (.addr 0 (x_ 1)), i_ 20 (.load [.sl 2] false (some 1) (x_ 19)), i_ 21 (.lenL (x_ 20)), i_ 22 (.convI .u64 (x_ 21)), i_ 23 (.callP 172 [(n_ 1), (x_ 22)] [.str]), i_ 24 (.bin .add (x_ 18) (x_ 23)), m_ 5 24],
      sq [r_ [i_ 25 (.addr 0 (x_ 1)), i_ 26 (.load [.sl 2] false (some 1) (x_ 25)), i_ 27 (.lenL (x_ 26)), i_ 28 (.mov (n_ 0))],
       .block 0 (.loop [5, 26, 27, 28] [5] [2, 3] node_Encode.L0)],
      r_ [m_ 42 5, i_ 43 (.callP 88 [(x_ 42), (n_ 480)] [.str]), m_ 2 43, i_ 3 (.mov (n_ 0))],
      .ret]) (.skip)],
   d_ [i_ 44 (.callP 172 [(n_ 1), (k_ .u64 2)] [.str]), i_ 45 (.addr 1 (x_ 1)), i_ 46 (.load [.sl 1] false (some 1) (x_ 45)), i_ 47 (.lenL (x_ 46)), i_ 48 (.convI .u64 (x_ 47)), i_ 49 (.callP 172 [(n_ 1), (x_ 48)] [.str]), i_ 50 (.bin .add (x_ 44) (x_ 49)), i_ 51 (.addr 1 (x_ 1)), i_ 52 (.load [.sl 1] false (some 1) (x_ 51)), i_ 53 (.indexAddrS 1 (x_ 52) (n_ 0)), i_ 54 (.load [ix] false none (x_ 53)), i_ 55 (.convI .u64 (x_ 54)), i_ 56 (.callP 172 [(n_ 2), (x_ 55)] [.str]), i_ 57 (.bin .add (x_ 50) (x_ 56)), m_ 8 57],
   sq [r_ [i_ 58 (.addr 0 (x_ 1)), i_ 59 (.load [.sl 2] false (some 1) (x_ 58)), i_ 60 (.lenL (x_ 59)), i_ 61 (.mov (n_ 0))],
    .block 2 (.loop [1, 8, 59, 60, 61] [8] [2, 3] node_Encode.L1)],
   r_ [m_ 81 8, i_ 82 (.callP 88 [(x_ 81), (n_ 480)] [.str]), m_ 2 82, i_ 3 (.mov (n_ 0))],
   .ret]⟩
def node_Encode.R0 (C : CallF) (N : Nat) := round (evalC C N node_Encode.L0) [5, 26, 27, 28] [5] [2, 3]
def node_Encode.K0 (C : CallF) (N : Nat) : Ex → St → R := contC C N [.snd, .snd, .fst, .snd, .thn, .snd, .fst, .snd, .blk] node_Encode.a.body (finish node_Encode.a)
def node_Encode.R1 (C : CallF) (N : Nat) := round (evalC C N node_Encode.L1) [1, 8, 59, 60, 61] [8] [2, 3]
def node_Encode.K1 (C : CallF) (N : Nat) : Ex → St → R := contC C N [.snd, .snd, .snd, .snd, .fst, .snd, .blk] node_Encode.a.body (finish node_Encode.a)


/-! 185: (wharfage/node.Node).item -/
def node_Node_item.pol : Pol := { pure := [216], heap := [999999], ro := roList, root := [(2, 2), (3, 3), (7, 3), (11, 3), (16, 3), (20, 3)], rs := [4] }
def node_Node_item.a : AFun := ⟨2, [.tmp 4],
  sq [r_ [i_ 2 (.boxL (x_ 0)), i_ 3 (.boxL (x_ 1)), i_ 4 (.mov F_)],
   sq [r_ [i_ 5 (.load [.sl 2, .sl 1] true (some 2) (x_ 2)), i_ 6 (.callR 154 [(x_ 5)] [.bool])],
    if_ 6 (sq [r_ [i_ 7 (.addr 0 (x_ 3)), i_ 8 (.load [.str] false (some 3) (x_ 7)), i_ 9 (.callP 216 [(x_ 8)] [.bool]), m_ 10 9, g_ 10 11 (.addr 1 (x_ 3)), g_ 10 12 (.load [.str] false (some 3) (x_ 11)), g_ 10 13 (.lenS (x_ 12)), g_ 10 14 (.bin .leq (x_ 13) (n_ 64)), i_ 15 (.pick (x_ 10) (x_ 14) F_), m_ 4 15],
      .ret]) (.skip)],
   r_ [i_ 16 (.addr 0 (x_ 3)), i_ 17 (.load [.str] false (some 3) (x_ 16)), i_ 18 (.callP 216 [(x_ 17)] [.bool]), m_ 19 18, g_ 19 20 (.addr 1 (x_ 3)), g_ 19 21 (.load [.str] false (some 3) (x_ 20)), g_ 19 22 (.bin .eql (x_ 21) (c_ (.string ⟨#[]⟩))), i_ 23 (.pick (x_ 19) (x_ 22) F_), m_ 4 23],
   .ret]⟩


/-! 186: wharfage/node.Size -/
def node_Size.pol : Pol := { heap := [999999], ro := roList, root := [(1, 1), (6, 1), (11, 1)], rs := [2] }
def node_Size.a : AFun := ⟨1, [.tmp 2],
  sq [r_ [i_ 1 (.boxL (x_ 0)), i_ 2 (.mov (n_ 0))],
   sq [r_ [i_ 3 (.load [.sl 2, .sl 1] true (some 1) (x_ 1)), i_ 4 (.callR 154 [(x_ 3)] [.bool])],
    if_ 4 (sq [r_ [i_ 5 (.load [.sl 2, .sl 1] true (some 1) (x_ 1)), i_ 6 (.addr 0 (x_ 1)), i_ 7 (.load [.sl 2] false (some 1) (x_ 6)), i_ 8 (.callR 217 [(x_ 5), (x_ 7)] [ix]), i_ 9 (.bin .add (n_ 2) (x_ 8)), m_ 2 9],
      .ret]) (.skip)],
   r_ [i_ 10 (.load [.sl 2, .sl 1] true (some 1) (x_ 1)), i_ 11 (.addr 0 (x_ 1)), i_ 12 (.load [.sl 2] false (some 1) (x_ 11)), i_ 13 (.callR 217 [(x_ 10), (x_ 12)] [ix]), i_ 14 (.bin .add (n_ 4) (x_ 13)), m_ 2 14],
   .ret]⟩


/-! 187: wharfage/bitmap.Take -/
def bitmap_Take.pol : Pol := { pure := [218], heap := [999999], gret := [218], ro := roList, rs := [8, 9, 10] }
def bitmap_Take.a : AFun := ⟨4, [.tmp 8, .tmp 9, .tmp 10],
  sq [r_ [i_ 8 (.nilS 1), i_ 9 (.mov (c_ (.string ⟨#[]⟩))), i_ 10 (.mov (n_ 0))],
   r_ [m_ 15 0, m_ 16 1, m_ 17 2, m_ 18 3, i_ 19 (.callD 218 [(x_ 15), (x_ 16), (x_ 17), (x_ 18)] [.sl 1, ix]), m_ 14 19, i_ 20 (.extract (x_ 14) 0), i_ 21 (.extract (x_ 14) 1), m_ 11 20, m_ 12 21],
   sq [r_ [m_ 22 12, i_ 23 (.bin .neq (x_ 22) (n_ 0))],
    if_ 23 (sq [r_ [m_ 24 12, i_ 8 (.nilS 1), i_ 9 (.mov (c_ (.string ⟨#[]⟩))), m_ 10 24],
      .ret]) (.skip)],
   r_ [m_ 26 0, m_ 27 11, i_ 28 (.call 219 [(x_ 26), (x_ 27), T_] [.str, ix]), m_ 25 28, i_ 29 (.extract (x_ 25) 0), i_ 30 (.extract (x_ 25) 1), m_ 13 29, m_ 12 30],
   r_ [m_ 31 11, m_ 32 13, m_ 33 12, m_ 8 31, m_ 9 32, m_ 10 33],
   .ret]⟩


/-! 188: (*wharfage/tree.tree).fit -/
def tree_tree_fit.pol : Pol := { heap := [999999], ro := roList, root := [(5, 5), (8, 8), (10, 10)], rs := [6, 7] }
def tree_tree_fit.a : AFun := ⟨3, [.tmp 6, .tmp 7],
  sq [r_ [i_ 5 (.boxL (x_ 2)), i_ 6 (.mov (c_ (.string ⟨#[]⟩))), i_ 7 (.mov (n_ 0))],
   sq [r_ [i_ 12 (.load [.sl 2, .sl 1] true (some 5) (x_ 5)), i_ 13 (.callR 186 [(x_ 12)] [ix]), i_ 14 (.bin .leq (x_ 13) (n_ 480))],
    if_ 14 (sq [r_ [m_ 15 0, m_ 16 1, i_ 17 (.load [.sl 2, .sl 1] true (some 5) (x_ 5)), i_ 18 (.call 158 [(x_ 15), (x_ 16), (x_ 17)] [])],
      r_ [i_ 6 (.mov (c_ (.string ⟨#[]⟩))), i_ 7 (.mov (n_ 0))],
      .ret]) (.skip)],
   r_ [i_ 20 (.load [.sl 2, .sl 1] true (some 5) (x_ 5)), i_ 21 (.call 220 [(x_ 20)] [.ag, .str, .ag]), m_ 19 21, i_ 22 (.extract (x_ 19) 0), i_ 23 (.extract (x_ 19) 1), i_ 24 (.extract (x_ 19) 2), i_ 8 (.allocL [(.sl true 2 []), (.sl true 1 [])]), i_ 10 (.allocL [(.sl true 2 []), (.sl true 1 [])]), u_ (.store 2 (some 8) (x_ 8) (x_ 22)), m_ 9 23, u_ (.store 2 (some 10) (x_ 10) (x_ 24))],
   r_ [m_ 25 0, i_ 26 (.nilCk (x_ 25)), i_ 27 (.addr 0 (x_ 26)), i_ 28 (.load [.any] false none (x_ 27)), i_ 29 (.call 157 [(x_ 28)] [ix]), m_ 11 29],
   r_ [m_ 30 0, m_ 31 1, i_ 32 (.load [.sl 2, .sl 1] true (some 8) (x_ 8)), i_ 33 (.call 158 [(x_ 30), (x_ 31), (x_ 32)] [])],
   r_ [m_ 34 0, m_ 35 11, i_ 36 (.load [.sl 2, .sl 1] true (some 10) (x_ 10)), i_ 37 (.call 158 [(x_ 34), (x_ 35), (x_ 36)] [])],
   r_ [m_ 38 9, m_ 39 11, m_ 6 38, m_ 7 39],
   .ret]⟩


/-! 189: wharfage/node.Put -/
def node_Put.pol : Pol := { heap := [999999], ro := roList, root := [(2, 2), (3, 3), (4, 4), (14, 3), (19, 2), (22, 2), (28, 2)], rs := [4] }
def node_Put.a : AFun := ⟨2, [.cell 4 [.sl 2, .sl 1] true],
  sq [r_ [i_ 2 (.boxL (x_ 0)), i_ 3 (.boxL (x_ 1)), i_ 4 (.allocL [(.sl true 2 []), (.sl true 1 [])])],
   sq [r_ [i_ 8 (.load [.sl 2, .sl 1] true (some 2) (x_ 2)), i_ 9 (.callR 154 [(x_ 8)] [.bool]), i_ 10 (.un .not (x_ 9))],
    if_ 10 (sq [r_ [i_ 11 (.load [.sl 2, .sl 1] true (some 2) (x_ 2)), u_ (.store 2 (some 4) (x_ 4) (x_ 11))],
      .ret]) (.skip)],
   r_ [i_ 13 (.load [.sl 2, .sl 1] true (some 2) (x_ 2)), i_ 14 (.addr 0 (x_ 3)), i_ 15 (.load [.str] false (some 3) (x_ 14)), i_ 16 (.call 122 [(x_ 13), (x_ 15)] [ix, .bool]), m_ 12 16, i_ 17 (.extract (x_ 12) 0), i_ 18 (.extract (x_ 12) 1), m_ 5 17, m_ 6 18],
   r_ [i_ 19 (.addr 0 (x_ 2)), i_ 20 (.load [.sl 2] false (some 2) (x_ 19)), i_ 21 (.lenL (x_ 20)), i_ 22 (.addr 0 (x_ 2)), i_ 23 (.load [.sl 2] false (some 2) (x_ 22)), i_ 24 (.lenL (x_ 23)), i_ 25 (.bin .add (x_ 24) (n_ 1)), i_ 26 (.makeG 2 32 [(.at (.string ⟨#[]⟩)), (.at (.string ⟨#[]⟩))] (x_ 21) (x_ 25)), m_ 7 26],
   r_ [m_ 27 7, i_ 28 (.addr 0 (x_ 2)), i_ 29 (.load [.sl 2] false (some 2) (x_ 28)), i_ 30 (.copyG 2 (x_ 27) (x_ 29))],
   sq [r_ [m_ 31 6],
    if_ 31 (sq [r_ [m_ 32 7, m_ 33 5, i_ 34 (.load [.str, .str] true (some 3) (x_ 3)), i_ 35 (.indexAddrS 2 (x_ 32) (x_ 33)), u_ (.store 2 none (x_ 35) (x_ 34))],
      r_ [m_ 36 7, i_ 37 (.build [(.sl true 2 []), (.sl true 1 [])] [(0, 1, (x_ 36))]), u_ (.store 2 (some 4) (x_ 4) (x_ 37))],
      .ret]) (.skip)],
   r_ [m_ 38 7, m_ 39 5, i_ 40 (.load [.str, .str] true (some 3) (x_ 3)), i_ 41 (.buildG 2 [(x_ 40)]), i_ 42 (.call 190 [(x_ 38), (x_ 39), (x_ 41)] [.any]), i_ 43 (.build [(.sl true 2 []), (.sl true 1 [])] [(0, 1, (x_ 42))]), u_ (.store 2 (some 4) (x_ 4) (x_ 43))],
   .ret]⟩


/-! 190: slices.Insert[[]wharfage/api.Item,wharfage/api.Item] -/
def slices_Insert_api_Item_api_Item.pol : Pol := { heap := [999999], ro := roList, rs := [6] }
def slices_Insert_api_Item_api_Item.a : AFun := ⟨3, [.tmp 6],
  sq [r_ [i_ 6 (.nilS 2)],
   r_ [m_ 10 0, m_ 11 1, i_ 12 (.sliceV 2 (x_ 10) (some (x_ 11)) none)],
   r_ [m_ 13 2, i_ 14 (.lenL (x_ 13)), m_ 7 14],
   sq [r_ [m_ 15 7, i_ 16 (.bin .eql (x_ 15) (n_ 0))],
    if_ 16 (sq [r_ [m_ 17 0, m_ 6 17],
      .ret]) (.skip)],
   r_ [m_ 18 0, i_ 19 (.lenL (x_ 18)), m_ 8 19],
   sq [r_ [m_ 20 1, m_ 21 8, i_ 22 (.bin .eql (x_ 20) (x_ 21))],
    if_ 22 (sq [r_ [m_ 23 0, m_ 24 2, i_ 25 (.appendH none 2 32 (x_ 23) (x_ 24)), m_ 6 25],
      .ret]) (.skip)],
   sq [r_ [m_ 26 8, m_ 27 7, i_ 28 (.bin .add (x_ 26) (x_ 27)), m_ 29 0, i_ 30 (.bad), i_ 31 (.bin .gtr (x_ 28) (x_ 30))],
    if_ 31 (sq [r_ [m_ 32 0, m_ 33 1, i_ 34 (.sliceV 2 (x_ 32) none (some (x_ 33))), m_ 35 8, m_ 36 7, i_ 37 (.bin .add (x_ 35) (x_ 36)), m_ 38 1, i_ 39 (.bin .sub (x_ 37) (x_ 38)), i_ 40 (.bad), m_ 9 40],
      r_ [m_ 41 9, m_ 42 1, i_ 43 (.sliceV 2 (x_ 41) (some (x_ 42)) none), m_ 44 2, i_ 45 (.copyG 2 (x_ 43) (x_ 44))],
      d_ [m_ 46 9, m_ 47 1, m_ 48 7, i_ 49 (.bin .add (x_ 47) (x_ 48)), i_ 50 (.sliceV 2 (x_ 46) (some (x_ 49)) none), m_ 51 0, m_ 52 1, i_ 53 (.sliceV 2 (x_ 51) (some (x_ 52)) none), i_ 54 (.copyG 2 (x_ 50) (x_ 53))],
      r_ [m_ 55 9, m_ 6 55],
      .ret]) (.skip)],
   r_ [m_ 56 0, m_ 57 8, m_ 58 7, i_ 59 (.bin .add (x_ 57) (x_ 58)), i_ 60 (.sliceV 2 (x_ 56) none (some (x_ 59))), m_ 0 60],
   sq [r_ [m_ 61 2, m_ 62 0, m_ 63 1, m_ 64 7, i_ 65 (.bin .add (x_ 63) (x_ 64)), i_ 66 (.sliceV 2 (x_ 62) (some (x_ 65)) none), i_ 67 (.call 221 [(x_ 61), (x_ 66)] [.bool]), i_ 68 (.un .not (x_ 67))],
    if_ 68 (sq [d_ [m_ 69 0, m_ 70 1, m_ 71 7, i_ 72 (.bin .add (x_ 70) (x_ 71)), i_ 73 (.sliceV 2 (x_ 69) (some (x_ 72)) none), m_ 74 0, m_ 75 1, i_ 76 (.sliceV 2 (x_ 74) (some (x_ 75)) none), i_ 77 (.copyG 2 (x_ 73) (x_ 76))],
      r_ [m_ 78 0, m_ 79 1, i_ 80 (.sliceV 2 (x_ 78) (some (x_ 79)) none), m_ 81 2, i_ 82 (.copyG 2 (x_ 80) (x_ 81))],
      r_ [m_ 83 0, m_ 6 83],
      .ret]) (.skip)],
   r_ [m_ 84 0, m_ 85 8, i_ 86 (.sliceV 2 (x_ 84) (some (x_ 85)) none), m_ 87 2, i_ 88 (.copyG 2 (x_ 86) (x_ 87))],
   r_ [m_ 89 0, m_ 90 1, i_ 91 (.sliceV 2 (x_ 89) (some (x_ 90)) none), m_ 92 7, i_ 93 (.call 222 [(x_ 91), (x_ 92)] [])],
   r_ [m_ 94 0, m_ 6 94],
   .ret]⟩


/-! 192: wharfage/octets.Cut$1 -/
def octets_Cut_1.pol : Pol := { heap := [999999], ro := roList, rs := [2] }
def octets_Cut_1.a : AFun := ⟨2, [.tmp 2],
  sq [r_ [i_ 2 (.mov (c_ (.string ⟨#[]⟩)))],
   r_ [i_ 5 (.load [ix] false none (x_ 0)), i_ 6 (.load [.str] false none (x_ 1)), i_ 7 (.lenS (x_ 6)), i_ 8 (.minmax false [(x_ 5), (x_ 7)]), m_ 3 8],
   r_ [i_ 9 (.load [.str] false none (x_ 1)), m_ 10 3, i_ 11 (.sliceS (x_ 9) none (some (x_ 10))), m_ 4 11],
   r_ [i_ 12 (.load [.str] false none (x_ 1)), m_ 13 3, i_ 14 (.sliceS (x_ 12) (some (x_ 13)) none), u_ (.store 1 none (x_ 1) (x_ 14))],
   r_ [m_ 15 4, m_ 2 15],
   .ret]⟩


/-! 193: wharfage/bitmap.Give -/
def bitmap_Give.pol : Pol := { heap := [999999], ro := roList, rs := [4, 5] }
def bitmap_Give.a : AFun := ⟨2, [.tmp 4, .tmp 5],
  sq [r_ [i_ 4 (.mov (c_ (.string ⟨#[]⟩))), i_ 5 (.mov (n_ 0))],
   r_ [m_ 6 0, m_ 7 1, i_ 8 (.call 219 [(x_ 6), (x_ 7), F_] [.str, ix]), i_ 9 (.extract (x_ 8) 0), i_ 10 (.extract (x_ 8) 1), m_ 4 9, m_ 5 10],
   .ret]⟩


/-! 195: (*wharfage/tree.tree).keep -/
def tree_tree_keep.pol : Pol := { heap := [999999], ro := roList, root := [(5, 5), (7, 5), (12, 5)], rs := [6] }
def tree_tree_keep.a : AFun := ⟨3, [.tmp 6],
  sq [r_ [i_ 5 (.boxL (x_ 2)), i_ 6 (.mov F_)],
   sq [r_ [i_ 7 (.addr 0 (x_ 5)), i_ 8 (.load [.sl 2] false (some 5) (x_ 7)), i_ 9 (.lenL (x_ 8)), i_ 10 (.bin .eql (x_ 9) (n_ 0)), m_ 11 10, g_ 11 12 (.addr 1 (x_ 5)), g_ 11 13 (.load [.sl 1] false (some 5) (x_ 12)), g_ 11 14 (.lenL (x_ 13)), g_ 11 15 (.bin .eql (x_ 14) (n_ 0)), i_ 16 (.pick (x_ 11) (x_ 15) F_)],
    if_ 16 (sq [r_ [m_ 17 0, i_ 18 (.nilCk (x_ 17)), i_ 19 (.addr 0 (x_ 18)), i_ 20 (.load [.any] false none (x_ 19)), m_ 21 1, i_ 22 (.call 163 [(x_ 20), (x_ 21)] [])],
      r_ [i_ 6 (.mov T_)],
      .ret]) (.skip)],
   r_ [m_ 23 0, m_ 24 1, i_ 25 (.load [.sl 2, .sl 1] true (some 5) (x_ 5)), i_ 26 (.call 158 [(x_ 23), (x_ 24), (x_ 25)] [])],
   r_ [i_ 6 (.mov F_)],
   .ret]⟩


/-! 196: wharfage/tree.without -/
def tree_without.pol : Pol := { heap := [999999], ro := roList, root := [(2, 2), (4, 4), (10, 2), (14, 2), (20, 2), (21, 2), (27, 2)], rs := [4] }
def tree_without.a : AFun := ⟨2, [.cell 4 [.sl 2, .sl 1] true],
  sq [r_ [i_ 2 (.boxL (x_ 0)), i_ 4 (.allocL [(.sl true 2 []), (.sl true 1 [])])],
   r_ [m_ 6 1, i_ 7 (.bin .sub (x_ 6) (n_ 1)), i_ 8 (.minmax true [(x_ 7), (n_ 0)]), m_ 5 8],
   sq [r_ [m_ 9 5, i_ 10 (.addr 0 (x_ 2)), i_ 11 (.load [.sl 2] false (some 2) (x_ 10)), i_ 12 (.lenL (x_ 11)), i_ 13 (.bin .lss (x_ 9) (x_ 12))],
    if_ 13 (r_ [i_ 14 (.addr 0 (x_ 2)), i_ 15 (.load [.sl 2] false (some 2) (x_ 14)), m_ 16 5, m_ 17 5, i_ 18 (.bin .add (x_ 17) (n_ 1)), i_ 19 (.call 194 [(x_ 15), (x_ 16), (x_ 18)] [.any]), i_ 20 (.addr 0 (x_ 2)), u_ (.store 1 (some 2) (x_ 20) (x_ 19))]) (.skip)],
   r_ [i_ 21 (.addr 1 (x_ 2)), i_ 22 (.load [.sl 1] false (some 2) (x_ 21)), m_ 23 1, m_ 24 1, i_ 25 (.bin .add (x_ 24) (n_ 1)), i_ 26 (.call 225 [(x_ 22), (x_ 23), (x_ 25)] [.any]), i_ 27 (.addr 1 (x_ 2)), u_ (.store 1 (some 2) (x_ 27) (x_ 26))],
   r_ [i_ 28 (.load [.sl 2, .sl 1] true (some 2) (x_ 2)), u_ (.store 2 (some 4) (x_ 4) (x_ 28))],
   .ret]⟩


/-! 200: wharfage/crc.fours -/
def crc_fours.pol : Pol := { pure := [229], heap := [999999], ro := roList, root := [(0, 0), (1, 1), (13, 1)], rs := [0], live := [([0, 1, 3], [0, 1])] }
def crc_fours.L0 : ACode :=
  sq [r_ [i_ 4 (.bin .lss (x_ 3) (n_ 16))],
   if_ 4 (.skip) (.exit 0),
   .block 1 (sq [r_ [m_ 5 3, m_ 2 5],
     r_ [m_ 6 2, m_ 7 2, i_ 8 (.convI .u32 (x_ 7)), i_ 9 (.callP 229 [(x_ 8)] [.int .u32]), i_ 10 (.callP 229 [(x_ 9)] [.int .u32]), i_ 11 (.callP 229 [(x_ 10)] [.int .u32]), i_ 12 (.callP 229 [(x_ 11)] [.int .u32]), i_ 13 (.indexAddrA 16 1 (x_ 1) (x_ 6)), u_ (.store 1 (some 1) (x_ 13) (x_ 12))]]),
   r_ [i_ 14 (.bin .add (x_ 3) (n_ 1)), m_ 3 14]]
def crc_fours.a : AFun := ⟨0, [.cell 0 [.int .u32, .int .u32, .int .u32, .int .u32, .int .u32, .int .u32, .int .u32, .int .u32, .int .u32, .int .u32, .int .u32, .int .u32, .int .u32, .int .u32, .int .u32, .int .u32] true],
  sq [r_ [i_ 0 (.allocL [(.at (.int .u32 0)), (.at (.int .u32 0)), (.at (.int .u32 0)), (.at (.int .u32 0)), (.at (.int .u32 0)), (.at (.int .u32 0)), (.at (.int .u32 0)), (.at (.int .u32 0)), (.at (.int .u32 0)), (.at (.int .u32 0)), (.at (.int .u32 0)), (.at (.int .u32 0)), (.at (.int .u32 0)), (.at (.int .u32 0)), (.at (.int .u32 0)), (.at (.int .u32 0))])],
   r_ [i_ 1 (.allocL [(.at (.int .u32 0)), (.at (.int .u32 0)), (.at (.int .u32 0)), (.at (.int .u32 0)), (.at (.int .u32 0)), (.at (.int .u32 0)), (.at (.int .u32 0)), (.at (.int .u32 0)), (.at (.int .u32 0)), (.at (.int .u32 0)), (.at (.int .u32 0)), (.at (.int .u32 0)), (.at (.int .u32 0)), (.at (.int .u32 0)), (.at (.int .u32 0)), (.at (.int .u32 0))])],
   sq [r_ [i_ 3 (.mov (n_ 0))],
    .block 0 (.loop [0, 1, 3] [0, 1] [0] crc_fours.L0)],
   r_ [i_ 15 (.load [.int .u32, .int .u32, .int .u32, .int .u32, .int .u32, .int .u32, .int .u32, .int .u32, .int .u32, .int .u32, .int .u32, .int .u32, .int .u32, .int .u32, .int .u32, .int .u32] true (some 1) (x_ 1)), u_ (.store 16 (some 0) (x_ 0) (x_ 15))],
   .ret]⟩
def crc_fours.R0 (C : CallF) (N : Nat) := round (evalC C N crc_fours.L0) [0, 1, 3] [0, 1] [0]
def crc_fours.K0 (C : CallF) (N : Nat) : Ex → St → R := contC C N [.snd, .snd, .fst, .snd, .blk] crc_fours.a.body (finish crc_fours.a)


/-! 215: wharfage/node.short -/
def node_short.pol : Pol := { pure := [172], heap := [999999], ro := roList, rs := [2] }
def node_short.a : AFun := ⟨1, [.tmp 2],
  sq [r_ [i_ 2 (.mov (c_ (.string ⟨#[]⟩)))],
   r_ [m_ 3 0, i_ 4 (.lenS (x_ 3)), i_ 5 (.convI .u64 (x_ 4)), i_ 6 (.callP 172 [(n_ 1), (x_ 5)] [.str]), m_ 7 0, i_ 8 (.bin .add (x_ 6) (x_ 7)), m_ 2 8],
   .ret]⟩


/-! 216: wharfage/node.key -/
def node_key.pol : Pol := { heap := [999999], ro := roList, rs := [2] }
def node_key.a : AFun := ⟨1, [.tmp 2],
  sq [r_ [i_ 2 (.mov F_)],
   r_ [m_ 3 0, i_ 4 (.bin .neq (x_ 3) (c_ (.string ⟨#[]⟩))), m_ 5 4, gm_ 5 6 0, g_ 5 7 (.lenS (x_ 6)), g_ 5 8 (.bin .leq (x_ 7) (n_ 64)), i_ 9 (.pick (x_ 5) (x_ 8) F_), m_ 2 9],
   .ret]⟩


/-! 217: (wharfage/node.Node).all -/
def node_Node_all.pol : Pol := { heap := [999999], ro := roList, root := [(2, 2), (7, 7)], rs := [4], live := [([2, 5, 8, 9, 10], [5])] }
def node_Node_all.L0 : ACode :=
  sq [r_ [i_ 11 (.bin .lss (x_ 10) (x_ 9))],
   if_ 11 (.skip) (.exit 0),
   .block 1 (sq [r_ [i_ 12 (.indexAddrS 2 (x_ 8) (x_ 10)), i_ 13 (.load [.str, .str] true none (x_ 12)), i_ 7 (.allocL [(.at (.string ⟨#[]⟩)), (.at (.string ⟨#[]⟩))]), u_ (.store 2 (some 7) (x_ 7) (x_ 13))],
     r_ [m_ 14 5, i_ 15 (.load [.sl 2, .sl 1] true (some 2) (x_ 2)), i_ 16 (.load [.str, .str] true (some 7) (x_ 7)), i_ 17 (.callR 237 [(x_ 15), (x_ 16)] [ix]), i_ 18 (.bin .add (x_ 14) (x_ 17)), m_ 5 18]]),
   r_ [i_ 19 (.bin .add (x_ 10) (n_ 1)), m_ 10 19]]
def node_Node_all.a : AFun := ⟨2, [.tmp 4],
  sq [r_ [i_ 2 (.boxL (x_ 0)), i_ 4 (.mov (n_ 0))],
   r_ [i_ 5 (.mov (n_ 0))],
   sq [r_ [m_ 8 1, i_ 9 (.lenL (x_ 8)), i_ 10 (.mov (n_ 0))],
    .block 0 (.loop [2, 5, 8, 9, 10] [5] [4] node_Node_all.L0)],
   r_ [m_ 20 5, m_ 4 20],
   .ret]⟩
def node_Node_all.R0 (C : CallF) (N : Nat) := round (evalC C N node_Node_all.L0) [2, 5, 8, 9, 10] [5] [4]
def node_Node_all.K0 (C : CallF) (N : Nat) : Ex → St → R := contC C N [.snd, .snd, .fst, .snd, .blk] node_Node_all.a.body (finish node_Node_all.a)


/-! 218: wharfage/bitmap.Lowest -/
def bitmap_Lowest.pol : Pol := { pure := [238, 239], heap := [999999], gret := [239], ro := roList, rs := [8, 9] }
def bitmap_Lowest.a : AFun := ⟨4, [.tmp 8, .tmp 9],
  sq [r_ [i_ 8 (.nilS 1), i_ 9 (.mov (n_ 0))],
   sq [r_ [m_ 11 0, m_ 12 1, m_ 13 2, i_ 14 (.callP 238 [(x_ 11), (x_ 12), (x_ 13)] [.bool]), i_ 15 (.un .not (x_ 14)), m_ 16 15, hm_ 16 17 3, h_ 16 18 (.bin .lss (x_ 17) (n_ 0)), i_ 19 (.pick (x_ 16) T_ (x_ 18))],
    if_ 19 (sq [r_ [i_ 8 (.nilS 1), i_ 9 (.mov (n_ 18))],
      .ret]) (.skip)],
   r_ [m_ 20 0, m_ 21 1, m_ 22 2, m_ 23 3, i_ 24 (.callD 239 [(x_ 20), (x_ 21), (x_ 22), (x_ 23)] [.sl 1]), m_ 10 24],
   sq [r_ [m_ 25 10, i_ 26 (.lenL (x_ 25)), m_ 27 3, i_ 28 (.bin .lss (x_ 26) (x_ 27))],
    if_ 28 (sq [r_ [i_ 8 (.nilS 1), i_ 9 (.mov (n_ 13))],
      .ret]) (.skip)],
   r_ [m_ 29 10, m_ 8 29, i_ 9 (.mov (n_ 0))],
   .ret]⟩


/-! 219: wharfage/bitmap.turn -/
def bitmap_turn.pol : Pol := { glob := [3, 5], pure := [112, 241], heap := [999999], ro := roList, rs := [6, 7], live := [([3, 5, 8, 13, 14, 15], [3])] }
def bitmap_turn.L0 : ACode :=
  sq [r_ [i_ 16 (.bin .lss (x_ 15) (x_ 14))],
   if_ 16 (.skip) (.exit 0),
   .block 1 (sq [r_ [i_ 17 (.indexAddrS 1 (x_ 13) (x_ 15)), i_ 18 (.load [ix] false none (x_ 17)), m_ 10 18],
     sq [r_ [m_ 19 8, m_ 20 10, i_ 21 (.callV (x_ 19) [(x_ 20)] [.bool])],
      if_ 21 (sq [r_ [i_ 6 (.mov (c_ (.string ⟨#[]⟩))), i_ 7 (.mov (n_ 18))],
        .ret]) (.skip)],
     r_ [i_ 11 (.mov (n_ 0))],
     r_ [i_ 23 (.load [.str] false none (x_ 3)), m_ 24 10, i_ 25 (.load [.bool] false none (x_ 5)), i_ 26 (.callP 241 [(x_ 23), (x_ 24), (x_ 25)] [.str, ix]), m_ 22 26, i_ 27 (.extract (x_ 22) 0), i_ 28 (.extract (x_ 22) 1), u_ (.store 1 none (x_ 3) (x_ 27)), m_ 11 28],
     r_ [m_ 29 11, i_ 30 (.bin .neq (x_ 29) (n_ 0))],
     if_ 30 (sq [r_ [m_ 31 11, i_ 6 (.mov (c_ (.string ⟨#[]⟩))), m_ 7 31],
       .ret]) (.skip)]),
   r_ [i_ 32 (.bin .add (x_ 15) (n_ 1)), m_ 15 32]]
def bitmap_turn.a : AFun := ⟨3, [.tmp 6, .tmp 7],
  sq [r_ [i_ 3 (.boxG (x_ 0)), i_ 5 (.boxG (x_ 2)), i_ 6 (.mov (c_ (.string ⟨#[]⟩))), i_ 7 (.mov (n_ 0))],
   r_ [i_ 12 (.makeFunc 240 [] [(x_ 3), (x_ 5)]), m_ 8 12],
   sq [r_ [m_ 13 1, i_ 14 (.lenL (x_ 13)), i_ 15 (.mov (n_ 0))],
    .block 0 (.loop [3, 5, 8, 13, 14, 15] [3] [6, 7] bitmap_turn.L0)],
   sq [r_ [i_ 33 (.load [.str] false none (x_ 3)), i_ 34 (.callP 112 [(x_ 33)] [.bool]), i_ 35 (.un .not (x_ 34))],
    if_ 35 (sq [r_ [i_ 6 (.mov (c_ (.string ⟨#[]⟩))), i_ 7 (.mov (n_ 18))],
      .ret]) (.skip)],
   r_ [i_ 36 (.load [.str] false none (x_ 3)), m_ 6 36, i_ 7 (.mov (n_ 0))],
   .ret]⟩
def bitmap_turn.R0 (C : CallF) (N : Nat) := round (evalC C N bitmap_turn.L0) [3, 5, 8, 13, 14, 15] [3] [6, 7]
def bitmap_turn.K0 (C : CallF) (N : Nat) : Ex → St → R := contC C N [.snd, .snd, .fst, .snd, .blk] bitmap_turn.a.body (finish bitmap_turn.a)


/-! 229: wharfage/crc.half -/
def crc_half.pol : Pol := { heap := [999999], ro := roList, rs := [2] }
def crc_half.a : AFun := ⟨1, [.tmp 2],
  sq [r_ [i_ 2 (.mov (k_ .u32 0))],
   r_ [m_ 3 0, i_ 4 (.bin .shr (x_ 3) (k_ .u64 1)), m_ 5 0, i_ 6 (.bin .and (x_ 5) (k_ .u32 1)), i_ 7 (.un .neg (x_ 6)), i_ 8 (.bin .and (k_ .u32 3945912366) (x_ 7)), i_ 9 (.bin .xor (x_ 4) (x_ 8)), m_ 2 9],
   .ret]⟩


/-! 237: (wharfage/node.Node).one -/
def node_Node_one.pol : Pol := { heap := [999999], ro := roList, root := [(2, 2), (3, 3), (7, 3), (11, 3), (15, 3)], rs := [4] }
def node_Node_one.a : AFun := ⟨2, [.tmp 4],
  sq [r_ [i_ 2 (.boxL (x_ 0)), i_ 3 (.boxL (x_ 1)), i_ 4 (.mov (n_ 0))],
   sq [r_ [i_ 5 (.load [.sl 2, .sl 1] true (some 2) (x_ 2)), i_ 6 (.callR 154 [(x_ 5)] [.bool])],
    if_ 6 (sq [r_ [i_ 7 (.addr 0 (x_ 3)), i_ 8 (.load [.str] false (some 3) (x_ 7)), i_ 9 (.lenS (x_ 8)), i_ 10 (.bin .add (n_ 2) (x_ 9)), i_ 11 (.addr 1 (x_ 3)), i_ 12 (.load [.str] false (some 3) (x_ 11)), i_ 13 (.lenS (x_ 12)), i_ 14 (.bin .add (x_ 10) (x_ 13)), m_ 4 14],
      .ret]) (.skip)],
   r_ [i_ 15 (.addr 0 (x_ 3)), i_ 16 (.load [.str] false (some 3) (x_ 15)), i_ 17 (.lenS (x_ 16)), i_ 18 (.bin .add (n_ 1) (x_ 17)), i_ 19 (.bin .add (x_ 18) (n_ 2)), m_ 4 19],
   .ret]⟩


/-! 238: wharfage/bitmap.within -/
def bitmap_within.pol : Pol := { pure := [112], heap := [999999], ro := roList, rs := [6] }
def bitmap_within.a : AFun := ⟨3, [.tmp 6],
  sq [r_ [i_ 6 (.mov F_)],
   r_ [m_ 7 0, i_ 8 (.callP 112 [(x_ 7)] [.bool]), m_ 9 8, gm_ 9 10 1, g_ 9 11 (.bin .geq (x_ 10) (n_ 0)), i_ 12 (.pick (x_ 9) (x_ 11) F_), m_ 13 12, gm_ 13 14 1, gm_ 13 15 2, g_ 13 16 (.bin .leq (x_ 14) (x_ 15)), i_ 17 (.pick (x_ 13) (x_ 16) F_), m_ 18 17, gm_ 18 19 2, g_ 18 20 (.bin .leq (x_ 19) (n_ 3840)), i_ 21 (.pick (x_ 18) (x_ 20) F_), m_ 6 21],
   .ret]⟩


/-! 239: wharfage/bitmap.free -/
def bitmap_free.pol : Pol := { pure := [114], heap := [999999], ro := roList, rs := [8], live := [([0, 2, 3, 9, 10], [9])] }
def bitmap_free.L0 : ACode :=
  sq [sq [r_ [m_ 12 10, m_ 13 2, i_ 14 (.bin .lss (x_ 12) (x_ 13)), m_ 15 14, gm_ 15 16 9, g_ 15 17 (.lenL (x_ 16)), gm_ 15 18 3, g_ 15 19 (.bin .lss (x_ 17) (x_ 18)), i_ 20 (.pick (x_ 15) (x_ 19) F_)],
    if_ 20 (.skip) (.exit 0)],
   .block 1 (sq [r_ [m_ 23 0, m_ 24 10, i_ 25 (.callP 114 [(x_ 23), (x_ 24)] [.bool]), i_ 26 (.un .not (x_ 25))],
     if_ 26 (r_ [m_ 27 9, m_ 28 10, i_ 29 (.buildG 1 [(x_ 28)]), i_ 30 (.appendH none 1 8 (x_ 27) (x_ 29)), m_ 9 30]) (.skip)]),
   r_ [m_ 21 10, i_ 22 (.bin .add (x_ 21) (n_ 1)), m_ 10 22]]
def bitmap_free.a : AFun := ⟨4, [.tmp 8],
  sq [r_ [i_ 8 (.nilS 1)],
   r_ [i_ 9 (.nilS 1)],
   sq [r_ [m_ 11 1, m_ 10 11],
    .block 0 (.loop [0, 2, 3, 9, 10] [9] [8] bitmap_free.L0)],
   r_ [m_ 31 9, m_ 8 31],
   .ret]⟩
def bitmap_free.R0 (C : CallF) (N : Nat) := round (evalC C N bitmap_free.L0) [0, 2, 3, 9, 10] [9] [8]
def bitmap_free.K0 (C : CallF) (N : Nat) : Ex → St → R := contC C N [.snd, .snd, .fst, .snd, .blk] bitmap_free.a.body (finish bitmap_free.a)


/-! 240: wharfage/bitmap.turn$1 -/
def bitmap_turn_1.pol : Pol := { pure := [114, 149], heap := [999999], ro := roList, rs := [4] }
def bitmap_turn_1.a : AFun := ⟨3, [.tmp 4],
  sq [r_ [i_ 4 (.mov F_)],
   d_ [m_ 5 0, i_ 6 (.callP 149 [(x_ 5)] [.bool]), i_ 7 (.un .not (x_ 6)), m_ 8 7, h_ 8 9 (.load [.str] false none (x_ 1)), hm_ 8 10 0, h_ 8 11 (.callP 114 [(x_ 9), (x_ 10)] [.bool]), h_ 8 12 (.load [.bool] false none (x_ 2)), h_ 8 13 (.eqA false [.bool] 4 (x_ 11) (x_ 12)), i_ 14 (.pick (x_ 8) T_ (x_ 13)), m_ 4 14],
   .ret]⟩


/-! 241: wharfage/bitmap.Set -/
def bitmap_Set.pol : Pol := { pure := [112, 149], heap := [999999], ro := roList, root := [(18, 18), (8, 18), (19, 18), (22, 18), (28, 18), (30, 18), (33, 18), (39, 18), (40, 18)], rs := [6, 7] }
def bitmap_Set.a : AFun := ⟨3, [.tmp 6, .tmp 7],
  sq [r_ [i_ 6 (.mov (c_ (.string ⟨#[]⟩))), i_ 7 (.mov (n_ 0))],
   sq [r_ [m_ 9 0, i_ 10 (.callP 112 [(x_ 9)] [.bool]), i_ 11 (.un .not (x_ 10)), m_ 12 11, hm_ 12 13 1, h_ 12 14 (.callP 149 [(x_ 13)] [.bool]), h_ 12 15 (.un .not (x_ 14)), i_ 16 (.pick (x_ 12) T_ (x_ 15))],
    if_ 16 (sq [r_ [i_ 6 (.mov (c_ (.string ⟨#[]⟩))), i_ 7 (.mov (n_ 18))],
      .ret]) (.skip)],
   r_ [m_ 17 0, i_ 18 (.toBytes (x_ 17)), m_ 8 18],
   d_ [m_ 19 8, m_ 20 1, i_ 21 (.bin .quo (x_ 20) (n_ 8)), i_ 22 (.indexAddrS 1 (x_ 19) (x_ 21)), i_ 23 (.load [.int .u8] false (some 18) (x_ 22)), m_ 24 1, i_ 25 (.bin .rem (x_ 24) (n_ 8)), i_ 26 (.bin .shl (k_ .u8 1) (x_ 25)), i_ 27 (.bin .andNot (x_ 23) (x_ 26)), i_ 28 (.indexAddrS 1 (x_ 19) (x_ 21)), u_ (.store 1 (some 18) (x_ 28) (x_ 27))],
   sq [r_ [m_ 29 2],
    if_ 29 (d_ [m_ 30 8, m_ 31 1, i_ 32 (.bin .quo (x_ 31) (n_ 8)), i_ 33 (.indexAddrS 1 (x_ 30) (x_ 32)), i_ 34 (.load [.int .u8] false (some 18) (x_ 33)), m_ 35 1, i_ 36 (.bin .rem (x_ 35) (n_ 8)), i_ 37 (.bin .shl (k_ .u8 1) (x_ 36)), i_ 38 (.bin .or (x_ 34) (x_ 37)), i_ 39 (.indexAddrS 1 (x_ 30) (x_ 32)), u_ (.store 1 (some 18) (x_ 39) (x_ 38))]) (.skip)],
   r_ [m_ 40 8, i_ 41 (.toStr (some 18) (x_ 40)), m_ 6 41, i_ 7 (.mov (n_ 0))],
   .ret]⟩


end Go.Abs
